/- A closed fact of the card. -/
import Derived.Test.YtlkkhigljcdbiaaGreatDoorRows
import Derived.ProofKit
import Derived.SevenTiedAt
set_option maxRecDepth 100000
namespace Go.Proofs.YtlkkhigljcdbiaaGreatDoor.hyperNobody
open Go.ChangeShapes Go.WideShapes Go.RowKit

theorem fl : true = Tryz.pinned.checked.prog.looks [] := by kernel_rfl

end Go.Proofs.YtlkkhigljcdbiaaGreatDoor.hyperNobody

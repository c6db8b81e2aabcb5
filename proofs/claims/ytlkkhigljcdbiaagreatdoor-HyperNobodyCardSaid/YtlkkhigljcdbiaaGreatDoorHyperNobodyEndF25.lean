/- A closed fact of the row. -/
import Derived.Test.YtlkkhigljcdbiaaGreatDoorRows
import Derived.ProofKit
set_option maxRecDepth 100000
namespace Go.Proofs.YtlkkhigljcdbiaaGreatDoor.hyperNobody
open Go.ChangeShapes Go.WideShapes Go.RowKit

theorem fx25 : (Tryz.pinned.checked.prog.mayEnter) = true := by kernel_rfl

end Go.Proofs.YtlkkhigljcdbiaaGreatDoor.hyperNobody

/- A closed fact of the card. -/
import Derived.Test.YtlkkhigljcdbiaaGreatDoorRows
import Derived.ProofKit
import Derived.SevenTiedAt
set_option maxRecDepth 100000
namespace Go.Proofs.YtlkkhigljcdbiaaGreatDoor.hyperNobody
open Go.ChangeShapes Go.WideShapes Go.RowKit

theorem fp : Tryz.f3.params = #[3, 22] := by kernel_rfl
theorem fs : ([3, 22].all fun u => !Tryz.pinned.checked.prog.wantsStandIn u) = true := by kernel_rfl

end Go.Proofs.YtlkkhigljcdbiaaGreatDoor.hyperNobody

/- A closed fact of the card. -/
import Derived.Test.YtlkkhigljcdbiaaGreatDoorRows
import Derived.ProofKit
import Derived.SevenTiedAt
set_option maxRecDepth 100000
namespace Go.Proofs.YtlkkhigljcdbiaaGreatDoor.hyperNobody
open Go.ChangeShapes Go.WideShapes Go.RowKit

theorem fw : Rows.hyperNobodyRow.wfByText (OpenSpec.ofChange Rows.hyperNobodySpec) = true := by kernel_rfl
theorem fm : Tryz.pinned.checked.prog.mainIs = some (true, "e64c46ac9794add2759918b5752135577879e7f1c0e447313e7febba180f1b19".toList) := by kernel_rfl

end Go.Proofs.YtlkkhigljcdbiaaGreatDoor.hyperNobody

/- HyperNobody: the plain law joined to its row. PRINTED by law.py. -/
import Derived.Test.YtlkkhigljcdbiaaGreatDoorHyperNobody
import Derived.Test.YtlkkhigljcdbiaaGreatDoorGb
import Derived.Test.YtlkkhigljcdbiaaGreatDoorLiftO
import Derived.Test.YtlkkhigljcdbiaaGreatDoorRows
import Derived.Test.YtlkkhigljcdbiaaGreatDoorHyperNobodyEndA
import Derived.Test.YtlkkhigljcdbiaaGreatDoorHyperNobodyEndB
import Derived.Test.YtlkkhigljcdbiaaGreatDoorLaidKit
import Derived.Test.YtlkkhigljcdbiaaGreatDoorCards
import Derived.Test.YtlkkhigljcdbiaaGreatDoorTie
import Derived.ProofKit
import Derived.SevenTiedAt
set_option linter.unusedVariables false
set_option maxRecDepth 100000
namespace Go.Proofs.YtlkkhigljcdbiaaGreatDoor.hyperNobody
open Go.Lift Go.Fn Go.ChangeShapes Go.WideShapes Go.RowKit

theorem row_proved : Rows.HyperNobodySaid :=
  OpenClaim.holds_of_wide 3 Tryz.f3 rfl rfl rfl rfl rfl rfl rfl ⟨rfl, rfl, rfl, rfl, rfl⟩ rfl rfl rfl rfl rfl fn_named Tryz.func3 closed
    (of_decide_eq_true (by kernel_rfl)) (by unfold Func.isWrapper; first | (rw [if_pos (by decide +kernel)]; kernel_rfl) | (rw [if_neg (by decide +kernel)]; exact ⟨rfl, rfl⟩))
    (fun os started H enc _ => lifted os started H enc)
end Go.Proofs.YtlkkhigljcdbiaaGreatDoor.hyperNobody

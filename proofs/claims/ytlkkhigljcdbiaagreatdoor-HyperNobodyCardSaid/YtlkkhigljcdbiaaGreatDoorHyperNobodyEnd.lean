/- HyperNobody: the plain law joined to its row. PRINTED by law.py. -/
import Derived.Test.YtlkkhigljcdbiaaGreatDoorHyperNobody
import Derived.Test.YtlkkhigljcdbiaaGreatDoorGb
import Derived.Test.YtlkkhigljcdbiaaGreatDoorLiftO
import Derived.Test.YtlkkhigljcdbiaaGreatDoorRows
import Derived.Test.YtlkkhigljcdbiaaGreatDoorHyperNobodyEndC
import Derived.Test.YtlkkhigljcdbiaaGreatDoorHyperNobodyEndG1
import Derived.Test.YtlkkhigljcdbiaaGreatDoorHyperNobodyEndG2
import Derived.Test.YtlkkhigljcdbiaaGreatDoorHyperNobodyEndG3
import Derived.Test.YtlkkhigljcdbiaaGreatDoorHyperNobodyEndG4
import Derived.Test.YtlkkhigljcdbiaaGreatDoorLaidKit
import Derived.Test.YtlkkhigljcdbiaaGreatDoorCards
import Derived.Test.YtlkkhigljcdbiaaGreatDoorTie
import Derived.ProofKit
import Derived.SevenTiedAt
set_option linter.unusedVariables false
set_option maxRecDepth 100000
namespace Go.Proofs.YtlkkhigljcdbiaaGreatDoor.hyperNobody
open Go.Lift Go.Fn Go.ChangeShapes Go.WideShapes Go.RowKit

theorem proved : Rows.HyperNobodyCardSaid :=
  Claim7.holds_tied_plain_at .later [] [.data, .data] true (true, "e64c46ac9794add2759918b5752135577879e7f1c0e447313e7febba180f1b19") true
    row_proved (fun _ h => by cases h) fw (fun _ h => by cases h) hyperNobody_row_tie rfl ⟨rfl, rfl⟩ fm rfl
    (fun f fn hf hfn => by
      obtain rfl : f = 3 := Option.some.inj (hf.symm.trans fn_named)
      obtain rfl : fn = Tryz.f3 := Option.some.inj (hfn.symm.trans Tryz.func3)
      exact ⟨fl, fun j t ht => by
        rw [fp] at ht
        have hm : t ∈ [3, 22] := by simpa using Array.mem_of_getElem? ht
        exact (show Tryz.pinned.checked.prog.wantsStandIn t = false by simpa using List.all_eq_true.1 fs t hm)⟩)
    fg
#print axioms proved
end Go.Proofs.YtlkkhigljcdbiaaGreatDoor.hyperNobody

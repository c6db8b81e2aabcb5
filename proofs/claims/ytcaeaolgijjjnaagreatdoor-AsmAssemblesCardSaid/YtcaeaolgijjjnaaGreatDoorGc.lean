/- Calls of values and of methods: the tables. PRINTED by lift.py. -/
import Derived.Test.YtcaeaolgijjjnaaGreatDoorGb
import Derived.Test.YtcaeaolgijjjnaaGreatDoorLb
set_option linter.unusedSimpArgs false
set_option linter.unusedVariables false

set_option linter.unusedVariables false
set_option maxRecDepth 100000
namespace Go.Fn
open Go.Lift

def gl2 (c : Nat) : Nat := 2 * backs glsT c

def mtT : List (Nat × List (String × Nat)) := []

noncomputable def tab0 : CTab := [(357, zf10.C)]
noncomputable def U0 : Ifc := mkIfc gl2 tab0 mtT
theorem U0.ok {W0 : World} : IfcOK sg W0 glsT U0 := mkIfc_ok (tab := tab0) (by kernel_rfl) (by kernel_rfl) ⟨zf10.S, trivial⟩

noncomputable def tab1 : CTab := [(357, zf10.C), (334, zf41.C U0)]
noncomputable def U1 : Ifc := mkIfc gl2 tab1 mtT
theorem U1.ok {W0 : World} : IfcOK sg W0 glsT U1 := mkIfc_ok (tab := tab1) (by kernel_rfl) (by kernel_rfl) ⟨zf10.S, (zf41.S U0.ok), trivial⟩

noncomputable def tab2 : CTab := [(357, zf10.C), (334, zf41.C U1)]
noncomputable def U2 : Ifc := mkIfc gl2 tab2 mtT
theorem U2.ok {W0 : World} : IfcOK sg W0 glsT U2 := mkIfc_ok (tab := tab2) (by kernel_rfl) (by kernel_rfl) ⟨zf10.S, (zf41.S U1.ok), trivial⟩

noncomputable def tab3 : CTab := [(357, zf10.C), (334, zf41.C U2)]
noncomputable def U3 : Ifc := mkIfc gl2 tab3 mtT
theorem U3.ok {W0 : World} : IfcOK sg W0 glsT U3 := mkIfc_ok (tab := tab3) (by kernel_rfl) (by kernel_rfl) ⟨zf10.S, (zf41.S U2.ok), trivial⟩

/-- The ladder: what a call of a value says, one step down; ts: package variables whose cells are known. -/
noncomputable def tabN (U : Ifc) : CTab := [(357, zf10.C), (334, zf41.C U)]
noncomputable def UT (ts : List (Nat × List V)) : Nat → Ifc
  | 0 => mkIfcT gl2 [] mtT ts
  | n + 1 => mkIfcT gl2 (tabN (UT ts n)) mtT ts
theorem UT.ok {W0 : World} {ts : List (Nat × List V)} (ht : ∀ c l, (c, l) ∈ ts → ∃ el fz, W0.heap[gl2 c / 2]? = some (.cells (V.vals sg l).toArray el fz)) : ∀ n, IfcOK sg W0 glsT (UT ts n)
  | 0 => mkIfcT_ok (mkIfc_ok (tab := []) (by kernel_rfl) (by kernel_rfl) trivial) ht
  | n + 1 => have hU : IfcOK sg W0 glsT (UT ts n) := UT.ok ht n
    mkIfcT_ok (mkIfc_ok (tab := tabN (UT ts n)) (by kernel_rfl) (by kernel_rfl) ⟨zf10.S, (zf41.S hU), trivial⟩) ht

end Go.Fn

/- Calls of values and of methods: the tables. PRINTED by lift.py. -/
import Derived.Test.YtpebofbnkfpakaaDoorGb
import Derived.Test.YtpebofbnkfpakaaDoorLiftQ
set_option linter.unusedVariables false
set_option maxRecDepth 100000
namespace Go.Fn
open Go.Lift

def mtT : List (Nat × List (String × Nat)) := [(1, [("Load", 95), ("Store", 97)])]

noncomputable def tab0 : CTab := [(2, mem_Memory_part_c1.C)]
noncomputable def U0 : Ifc := mkIfc (backs glsT) tab0 mtT
theorem U0.ok {W0 : World} : IfcOK sg W0 glsT U0 := mkIfc_ok (tab := tab0) (by kernel_rfl) (by kernel_rfl) ⟨mem_Memory_part_c1.S, trivial⟩

noncomputable def tab1 : CTab := [(2, mem_Memory_part_c1.C), (97, mem_Memory_Store.C U0), (218, palisadelaw23_RingOrder_c1.C U0), (95, mem_Memory_Load.C U0)]
noncomputable def U1 : Ifc := mkIfc (backs glsT) tab1 mtT
theorem U1.ok {W0 : World} : IfcOK sg W0 glsT U1 := mkIfc_ok (tab := tab1) (by kernel_rfl) (by kernel_rfl) ⟨mem_Memory_part_c1.S, (mem_Memory_Store.S U0.ok), (palisadelaw23_RingOrder_c1.S U0.ok), (mem_Memory_Load.S U0.ok), trivial⟩

noncomputable def tab2 : CTab := [(2, mem_Memory_part_c1.C), (97, mem_Memory_Store.C U1), (218, palisadelaw23_RingOrder_c1.C U1), (95, mem_Memory_Load.C U1)]
noncomputable def U2 : Ifc := mkIfc (backs glsT) tab2 mtT
theorem U2.ok {W0 : World} : IfcOK sg W0 glsT U2 := mkIfc_ok (tab := tab2) (by kernel_rfl) (by kernel_rfl) ⟨mem_Memory_part_c1.S, (mem_Memory_Store.S U1.ok), (palisadelaw23_RingOrder_c1.S U1.ok), (mem_Memory_Load.S U1.ok), trivial⟩

noncomputable def tab3 : CTab := [(2, mem_Memory_part_c1.C), (97, mem_Memory_Store.C U2), (218, palisadelaw23_RingOrder_c1.C U2), (95, mem_Memory_Load.C U2)]
noncomputable def U3 : Ifc := mkIfc (backs glsT) tab3 mtT
theorem U3.ok {W0 : World} : IfcOK sg W0 glsT U3 := mkIfc_ok (tab := tab3) (by kernel_rfl) (by kernel_rfl) ⟨mem_Memory_part_c1.S, (mem_Memory_Store.S U2.ok), (palisadelaw23_RingOrder_c1.S U2.ok), (mem_Memory_Load.S U2.ok), trivial⟩

end Go.Fn

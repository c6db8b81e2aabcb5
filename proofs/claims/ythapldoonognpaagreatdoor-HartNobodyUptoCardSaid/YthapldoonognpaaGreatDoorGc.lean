/- Calls of values and of methods: the tables. PRINTED by lift.py. -/
import Derived.Test.YthapldoonognpaaGreatDoorGb
import Derived.Test.YthapldoonognpaaGreatDoorLiftQ
set_option linter.unusedVariables false
set_option maxRecDepth 100000
namespace Go.Fn
open Go.Lift

def mtT : List (Nat × List (String × Nat)) := []

noncomputable def tab0 : CTab := [(2, mem_Memory_part_c1.C), (146, hart_hart_lui.C), (147, hart_hart_jal.C), (148, hart_hart_jalr.C), (149, hart_hart_lr.C), (150, hart_hart_sc.C), (151, hart_hart_amo.C), (152, hart_hart_nothing.C), (153, hart_hart_ecall.C), (154, hart_hart_sret.C), (155, hart_hart_wfi.C), (156, hart_hart_sfence.C), (157, hart_hart_math.C), (158, hart_hart_load.C), (159, hart_hart_store.C), (160, hart_hart_branch.C), (161, hart_hart_control.C)]
noncomputable def U0 : Ifc := mkIfc (backs glsT) tab0 mtT
theorem U0.ok {W0 : World} : IfcOK sg W0 glsT U0 := mkIfc_ok (tab := tab0) (by kernel_rfl) (by kernel_rfl) ⟨mem_Memory_part_c1.S, hart_hart_lui.S, hart_hart_jal.S, hart_hart_jalr.S, hart_hart_lr.S, hart_hart_sc.S, hart_hart_amo.S, hart_hart_nothing.S, hart_hart_ecall.S, hart_hart_sret.S, hart_hart_wfi.S, hart_hart_sfence.S, hart_hart_math.S, hart_hart_load.S, hart_hart_store.S, hart_hart_branch.S, hart_hart_control.S, trivial⟩

noncomputable def tab1 : CTab := [(2, mem_Memory_part_c1.C), (146, hart_hart_lui.C), (147, hart_hart_jal.C), (148, hart_hart_jalr.C), (149, hart_hart_lr.C), (150, hart_hart_sc.C), (151, hart_hart_amo.C), (152, hart_hart_nothing.C), (153, hart_hart_ecall.C), (154, hart_hart_sret.C), (155, hart_hart_wfi.C), (156, hart_hart_sfence.C), (157, hart_hart_math.C), (158, hart_hart_load.C), (159, hart_hart_store.C), (160, hart_hart_branch.C), (161, hart_hart_control.C)]
noncomputable def U1 : Ifc := mkIfc (backs glsT) tab1 mtT
theorem U1.ok {W0 : World} : IfcOK sg W0 glsT U1 := mkIfc_ok (tab := tab1) (by kernel_rfl) (by kernel_rfl) ⟨mem_Memory_part_c1.S, hart_hart_lui.S, hart_hart_jal.S, hart_hart_jalr.S, hart_hart_lr.S, hart_hart_sc.S, hart_hart_amo.S, hart_hart_nothing.S, hart_hart_ecall.S, hart_hart_sret.S, hart_hart_wfi.S, hart_hart_sfence.S, hart_hart_math.S, hart_hart_load.S, hart_hart_store.S, hart_hart_branch.S, hart_hart_control.S, trivial⟩

noncomputable def tab2 : CTab := [(2, mem_Memory_part_c1.C), (146, hart_hart_lui.C), (147, hart_hart_jal.C), (148, hart_hart_jalr.C), (149, hart_hart_lr.C), (150, hart_hart_sc.C), (151, hart_hart_amo.C), (152, hart_hart_nothing.C), (153, hart_hart_ecall.C), (154, hart_hart_sret.C), (155, hart_hart_wfi.C), (156, hart_hart_sfence.C), (157, hart_hart_math.C), (158, hart_hart_load.C), (159, hart_hart_store.C), (160, hart_hart_branch.C), (161, hart_hart_control.C)]
noncomputable def U2 : Ifc := mkIfc (backs glsT) tab2 mtT
theorem U2.ok {W0 : World} : IfcOK sg W0 glsT U2 := mkIfc_ok (tab := tab2) (by kernel_rfl) (by kernel_rfl) ⟨mem_Memory_part_c1.S, hart_hart_lui.S, hart_hart_jal.S, hart_hart_jalr.S, hart_hart_lr.S, hart_hart_sc.S, hart_hart_amo.S, hart_hart_nothing.S, hart_hart_ecall.S, hart_hart_sret.S, hart_hart_wfi.S, hart_hart_sfence.S, hart_hart_math.S, hart_hart_load.S, hart_hart_store.S, hart_hart_branch.S, hart_hart_control.S, trivial⟩

noncomputable def tab3 : CTab := [(2, mem_Memory_part_c1.C), (146, hart_hart_lui.C), (147, hart_hart_jal.C), (148, hart_hart_jalr.C), (149, hart_hart_lr.C), (150, hart_hart_sc.C), (151, hart_hart_amo.C), (152, hart_hart_nothing.C), (153, hart_hart_ecall.C), (154, hart_hart_sret.C), (155, hart_hart_wfi.C), (156, hart_hart_sfence.C), (157, hart_hart_math.C), (158, hart_hart_load.C), (159, hart_hart_store.C), (160, hart_hart_branch.C), (161, hart_hart_control.C)]
noncomputable def U3 : Ifc := mkIfc (backs glsT) tab3 mtT
theorem U3.ok {W0 : World} : IfcOK sg W0 glsT U3 := mkIfc_ok (tab := tab3) (by kernel_rfl) (by kernel_rfl) ⟨mem_Memory_part_c1.S, hart_hart_lui.S, hart_hart_jal.S, hart_hart_jalr.S, hart_hart_lr.S, hart_hart_sc.S, hart_hart_amo.S, hart_hart_nothing.S, hart_hart_ecall.S, hart_hart_sret.S, hart_hart_wfi.S, hart_hart_sfence.S, hart_hart_math.S, hart_hart_load.S, hart_hart_store.S, hart_hart_branch.S, hart_hart_control.S, trivial⟩

end Go.Fn

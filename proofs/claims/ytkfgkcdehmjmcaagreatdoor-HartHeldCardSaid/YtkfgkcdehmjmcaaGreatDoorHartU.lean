/- What a hart reaches by methods and by its table, by the tables. -/
import Derived.Test.YtkfgkcdehmjmcaaGreatDoorHartC
import Derived.Test.YtkfgkcdehmjmcaaGreatDoorGc
set_option linter.unusedSimpArgs false
set_option linter.unusedVariables false
set_option maxRecDepth 100000
namespace Go.Hart
open Go.Lift Go.Fn

theorem inv_mk {glob : Nat → Nat} {tab : CTab} {mt : List (Nat × List (String × Nat))} {t g : Nat} {u : V} {m : String} {vs : List V} {κ : V → Heap → Prop} {h : Heap} (hm : methT mt t m = some g) (hu : V.wfb u = true) (hx : inTab tab g (u :: vs) κ h) : (mkIfc glob tab mt).inv (.iface t u) m vs κ h := by
  simp only [mkIfc, hm, hu]
  exact hx

theorem mLoad : methT mtT 3 "Load" = some 234 := by decide
theorem mTranslate : methT mtT 3 "Translate" = some 250 := by decide
theorem huU : HU U3 U2 := ⟨rfl, fun _ _ _ _ _ hx => inv_mk mLoad rfl hx, fun _ _ _ _ _ _ _ hx => inv_mk mTranslate rfl hx⟩

theorem arr_get {h : Heap} {n : Nat} {k : IntKind} {l : List V} (f : Fits h (.arr n 1 (.int k)) l) {i : Nat} (hi : i < n) : ∃ v, l[i]? = some (.int k v) ∧ (Lit.int k v).wf = true := by
  obtain ⟨hl, hf⟩ := f
  obtain ⟨v, hv, hw⟩ := hf i hi
  refine ⟨v, ?_, hw⟩
  have := congrArg (fun l => l[0]?) hv
  rw [List.getElem?_take_of_lt (by omega), List.getElem?_drop, Nat.mul_one] at this
  simpa using this

theorem state_regs {h : Heap} {fs gs : DSL} {l : List V} (f : FitsL h (.cons 0 18 (.struct (.cons 0 16 (.arr 16 1 (.int .u64)) gs)) fs) l) (i : Nat) (hi : i < 16) : ∃ v, l[i]? = some (.int .u64 v) ∧ 0 ≤ v ∧ v ≤ 18446744073709551615 := by
  obtain ⟨v, hv, hw⟩ := arr_get f.1.1 hi
  refine ⟨v, ?_, wf_u64 hw⟩
  rw [List.getElem?_take_of_lt hi, List.getElem?_drop, List.getElem?_take_of_lt (by omega), List.getElem?_drop] at hv
  simpa using hv

theorem state_mode {h : Heap} {fs : DSL} {d e : DS} {l : List V} (f : FitsL h (.cons 0 18 (.struct (.cons 0 16 d (.cons 16 1 e (.cons 17 1 (.int .i64) .nil)))) fs) l) : ∃ v, l[17]? = some (.int .i64 v) := by
  obtain ⟨v, hv, -⟩ := f.1.2.2.1
  refine ⟨v, ?_⟩
  have := congrArg (fun l => l[0]?) hv
  rw [List.getElem?_take_of_lt (by omega), List.getElem?_drop, List.getElem?_take_of_lt (by omega), List.getElem?_drop] at this
  simpa using this

end Go.Hart

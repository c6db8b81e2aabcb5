/- The program's order of an operation's fields. -/
import Derived.Test.YtgigbjieppllgaaDoorShI
set_option linter.unusedSimpArgs false
set_option linter.unusedVariables false
set_option maxRecDepth 100000
namespace Go.Insn
open Go.Lift Go.Fn

section
variable {h : Heap}

theorem Contains_of {b c n : Nat} {ks : List Int} {mk : Bool} {rest : List V} (ho : h.obj b = some (.cells (ks.map (V.int .i64) ++ rest) mk)) (hn : ks.length = n) (hl : n ≤ 1000) (a : Int) {Q : Bool → Heap → Prop} (hq : Q (decide (a ∈ ks)) h) : slices_Contains_int_int ⟨some ⟨b, 0⟩, n, c⟩ a Q h := by
  unfold slices_Contains_int_int slices_Index_int_int slices_Index_int_int.j2
  intro I HI
  have main : ∀ k i : Nat, i + k = n → a ∉ ks.take i → I ⟨some ⟨b, 0⟩, n, c⟩ a (n : Int) (i : Int) h := by
    intro k
    induction k with
    | zero =>
      intro i hi hni
      refine HI _ _ _ _ _ ?_
      unfold slices_Index_int_int.b2
      refine br_f (decide_eq_false (by omega)) ?_
      rw [List.take_of_length_le (by omega)] at hni
      rw [decide_eq_false hni] at hq
      exact hq
    | succ k ih =>
      intro i hi hni
      refine HI _ _ _ _ _ ?_
      unfold slices_Index_int_int.b2
      refine br_t (decide_eq_true (by omega)) (ix_of (by omega) (by show (i : Int) < (n : Int); omega) ?_)
      rw [der_some, Int.toNat_natCast]
      have hg : h.get b (0 + i * 1) = some (.int .i64 (ks[i]'(by omega))) := by
        rw [get_cells ho, Nat.zero_add, Nat.mul_one, List.getElem?_append_left (by simp; omega), List.getElem?_map, List.getElem?_eq_getElem (by omega)]
        rfl
      refine rdI_of hg ?_
      by_cases e : a = ks[i]'(by omega)
      · refine br_t (by rw [beq_iff_eq]; exact e) ?_
        have hm : a ∈ ks := by rw [e]; exact List.getElem_mem _
        rw [decide_eq_true hm] at hq
        show Q (decide ((i : Int) ≥ 0)) h
        rw [decide_eq_true (by omega)]; exact hq
      · refine br_f (beq_false_of_ne e) ?_
        have ew : IntKind.i64.wrap ((i : Int) + 1) = ((i + 1 : Nat) : Int) := by rw [wrap64] <;> omega
        rw [ew]
        refine ih (i + 1) (by omega) ?_
        rw [List.take_add_one, List.getElem?_eq_getElem (by omega)]
        intro hm
        rcases List.mem_append.1 hm with hm | hm
        · exact hni hm
        · simp at hm; exact e hm
  exact main n 0 (by omega) (by simp)

def ordTab : List (List UInt8) := [] :: [100, 97, 98] :: [100, 97, 105] :: [98, 105, 97] :: [97, 98, 109] :: [100, 105] :: [97] :: []

theorem Order_asm {n : Nat} (hn : n < 64) (hs : rshape (n : Int) ≠ -1) {Q : List UInt8 → Heap → Prop} (hq : ∀ h', Keeps none_ h h' → Q (ordOf (n : Int)) h') : asm_order (n : Int) Q h := by
  have key : ∀ n : Fin 64, rshape ((n.val : Nat) : Int) ≠ -1 → ordOf ((n.val : Nat) : Int) = (if ((n.val : Nat) : Int) = 37 then [100, 97] else if ((n.val : Nat) : Int) = 35 then [100, 109] else if ((n.val : Nat) : Int) ∈ ([23, 24, 25, 36, 46, 47, 48] : List Int) then [100, 105, 97] else ordTab.getD (rshape ((n.val : Nat) : Int)).toNat []) := by decide +kernel
  have key := key ⟨n, hn⟩ hs
  simp only at key
  rw [key] at hq
  unfold asm_order
  refine Shape_of (fun g1 k1 => ?_)
  rw [shapeOf_of hs]
  simp only [Option.getD_some]
  by_cases e1 : (n : Int) = 37
  · rw [if_pos e1] at hq
    exact br_t (by rw [beq_iff_eq]; exact e1) (hq g1 k1)
  rw [if_neg e1] at hq
  refine br_f (beq_false_of_ne e1) ?_
  by_cases e2 : (n : Int) = 35
  · rw [if_pos e2] at hq
    exact br_t (by rw [beq_iff_eq]; exact e2) (hq g1 k1)
  rw [if_neg e2] at hq
  refine br_f (beq_false_of_ne e2) ?_
  refine al_of (fun b3 g3 hb3 ho3 k3 => ?_)
  refine Contains_of (ks := [23, 24, 25, 36, 46, 47, 48]) (rest := []) (mk := false) (by rw [List.append_nil]; exact ho3) rfl (by decide) (n : Int) ?_
  by_cases e3 : (n : Int) ∈ ([23, 24, 25, 36, 46, 47, 48] : List Int)
  · rw [if_pos e3] at hq
    rw [decide_eq_true e3]
    exact br_t rfl (hq g3 (k1.trans k3))
  rw [if_neg e3] at hq
  rw [decide_eq_false e3]
  refine br_f rfl (al_of (fun b5 g5 hb5 ho5 k5 => ?_))
  have hr := rshape_range hn
  obtain ⟨s, es⟩ : ∃ s : Nat, rshape (n : Int) = (s : Int) := ⟨(rshape (n : Int)).toNat, by omega⟩
  rw [es] at hq ⊢
  refine ix_of (by omega) (by omega) ?_
  rw [Int.toNat_natCast] at hq ⊢
  have hg : g5.get b5 (0 + s * 1) = some (.str (ordTab.getD s [])) := by
    rw [get_cells ho5, Nat.zero_add, Nat.mul_one]
    rcases (by omega : s = 0 ∨ s = 1 ∨ s = 2 ∨ s = 3 ∨ s = 4 ∨ s = 5 ∨ s = 6) with rfl | rfl | rfl | rfl | rfl | rfl | rfl <;> rfl
  exact rdStr_of hg (hq g5 ((k1.trans k3).trans k5))

end
end Go.Insn

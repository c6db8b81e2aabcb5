/- A hart's world from any state: whatever words and numbers stand in the memory. -/
import Derived.Test.YthapldoonognpaaGreatDoorHartB
set_option linter.unusedSimpArgs false
set_option linter.unusedVariables false
set_option maxRecDepth 100000
namespace Go.Hart
open Go.Lift Go.Fn Go.Mem

def W32 (v : Int) : Prop := 0 ≤ v ∧ v ≤ 4294967295

theorem wrapu32_range (v : Int) : W32 (IntKind.u32.wrap v) := by
  have e : IntKind.u32.wrap v = v % 4294967296 := by simp [IntKind.wrap, IntKind.bits, IntKind.signed]
  rw [e]
  exact ⟨by omega, by omega⟩

theorem w32_or (a b : Int) : W32 (ibits .or .u32 a b) := wrapu32_range _
theorem w32_andNot (a b : Int) : W32 (ibits .andNot .u32 a b) := wrapu32_range _

theorem br_any {b : Bool} {A B : Prop} (hA : A) (hB : B) : br b A B := by
  cases b
  · exact hB
  · exact hA

section
variable {h : Heap}

theorem Place_any {w v a n : Int} (hw : W32 w) (ha : 0 ≤ a ∧ a ≤ 31) (hn : 0 ≤ n ∧ n ≤ 32) {Q : Int → Heap → Prop} (hq : ∀ v, W32 v → Q v h) : palisaderef01_Place w v a n Q h := by
  unfold palisaderef01_Place palisaderef01_Place.j2
  refine br_any (hq w hw) (br_any (hq w hw) (br_any (hq w hw) (br_any (hq w hw) (br_any (hq w hw) ?_))))
  unfold palisaderef01_Place.j4
  intro I HI
  have key : ∀ (j : Nat) (i w : Int), W32 w → 0 ≤ i → i + j = n → I w v a n i h := by
    intro j
    induction j with
    | zero =>
      intro i w hw hi hj
      refine HI _ _ _ _ _ _ ?_
      unfold palisaderef01_Place.b4
      exact br_f (decide_eq_false (by omega)) (hq w hw)
    | succ j ih =>
      intro i w hw hi hj
      refine HI _ _ _ _ _ _ ?_
      unfold palisaderef01_Place.b4 palisaderef01_Place.j5
      refine br_t (decide_eq_true (by omega)) (nneg_of (by rw [wrap64 (x := a + i), wrapu64] <;> omega) (nneg_of (by rw [wrapu64] <;> omega) ?_))
      rw [wrap64 (x := i + 1)]
      exact br_any (ih (i + 1) _ (w32_or _ _) (by omega) (by omega)) (ih (i + 1) _ (w32_andNot _ _) (by omega) (by omega))
  have := key n.toNat 0 w hw (by decide) (by omega)
  exact this

theorem Fits_any {v n : Int} (hn : n = 14 ∨ n = 18) {Q : Bool → Heap → Prop} (hq : ∀ b, Q b h) : palisaderef01_Fits v n Q h := by
  unfold palisaderef01_Fits
  refine br_any (br_any (nneg_of ?_ (br_any (nneg_of ?_ (hq _)) (hq _))) (hq _)) (hq _)
  · rcases hn with rfl | rfl <;> decide
  · rcases hn with rfl | rfl <;> decide

theorem Shape_any {op : Int} {Q : Int → Heap → Prop} (hq : ∀ v, Q v h) : palisaderef02_Shape op Q h := by
  unfold palisaderef02_Shape palisaderef02_Shape.j3 palisaderef02_Shape.j4 palisaderef02_Shape.j5 palisaderef02_Shape.j7 palisaderef02_Shape.j9
  repeat (first | exact hq _ | refine br_any ?_ ?_)

theorem imm_any {op v : Int} {Q : Bool → Heap → Prop} (hq : ∀ b, Q b h) : palisaderef02_imm op v Q h := by
  have j5 : palisaderef02_imm.j5 op v Q h := by
    unfold palisaderef02_imm.j5
    refine Shape_any (fun r => ?_)
    exact br_any (Fits_any (.inl rfl) hq) (br_any (Fits_any (.inl rfl) hq) (br_any (Fits_any (.inl rfl) hq) (br_any (Fits_any (.inr rfl) hq) (hq _))))
  unfold palisaderef02_imm palisaderef02_imm.j3
  repeat (first | exact hq _ | exact j5 | refine br_any ?_ ?_)

theorem reg_any {v : Int} {Q : Bool → Heap → Prop} (hq : ∀ b, Q b h) : palisaderef02_reg v Q h := br_any (hq _) (hq _)

theorem Valid_any {a b c d e : Int} {Q : Bool → Heap → Prop} (hq : ∀ b h', Keeps none_ h h' → Q b h') : palisaderef02_Valid a b c d e Q h := by
  have S := St.start h none_
  unfold palisaderef02_Valid
  ((with_reducible apply St.al); assumption; intro b1 g_ S_)
  have hq' : ∀ b, Q b g_ := fun b => hq b g_ S_.keeps
  have j7 : ∀ x y z, palisaderef02_Valid.j7 ⟨b1, 0⟩ x y z Q g_ := by
    intro x y z
    unfold palisaderef02_Valid.j7
    repeat (first | exact hq' _ | refine br_any ?_ ?_ | refine S_.rI (p := (⟨b1, 0⟩ : Ptr).add _) i0 rfl ?_)
  have j6 : ∀ x y z, palisaderef02_Valid.j6 ⟨b1, 0⟩ x y z Q g_ := by
    intro x y z
    unfold palisaderef02_Valid.j6
    repeat (first | exact j7 _ _ _ | refine br_any ?_ ?_ | refine S_.rI (p := (⟨b1, 0⟩ : Ptr).add _) i0 rfl ?_)
  have j4 : ∀ x, palisaderef02_Valid.j4 ⟨b1, 0⟩ x Q g_ := by
    intro x
    unfold palisaderef02_Valid.j4 palisaderef02_Valid.j5
    repeat (first | exact j6 _ _ _ | refine br_any ?_ ?_)
  refine S_.rI (p := (⟨b1, 0⟩ : Ptr).add _) i0 rfl (Shape_any (fun r => br_any (hq' _) ?_))
  refine S_.rI (p := (⟨b1, 0⟩ : Ptr).add _) i0 rfl (reg_any (fun r => br_any (hq' _) ?_))
  refine S_.rI (p := (⟨b1, 0⟩ : Ptr).add _) i0 rfl (reg_any (fun r => br_any (hq' _) ?_))
  refine S_.rI (p := (⟨b1, 0⟩ : Ptr).add _) i0 rfl (reg_any (fun r => br_any (hq' _) ?_))
  refine S_.rI (p := (⟨b1, 0⟩ : Ptr).add _) i0 rfl (S_.rI (p := (⟨b1, 0⟩ : Ptr).add _) i0 rfl (imm_any (fun r => br_any (hq' _) (j4 _))))

theorem Encode_any {a b c d e : Int} {Q : Int → Int → Heap → Prop} (hq : ∀ v e h', W32 v → Keeps none_ h h' → Q v e h') : palisaderef02_Encode a b c d e Q h := by
  have S := St.start h none_
  unfold palisaderef02_Encode
  ((with_reducible apply St.al); assumption; intro b1 g_ S_)
  repeat (first | ((with_reducible first|apply St.rI|apply St.rB|apply St.rP|apply St.rSl|apply St.rV|apply St.rM|apply St.rS|apply St.rN|apply St.ckA);assumption;(first|exact i0|exact i1|exact i2|exact i3|exact i4|exact i5|exact i6|exact i7|exact i8|exact i9|exact i10|exact i11|exact i12|exact i13|exact i14|exact i15);(first|rfl|exact Nat.le_of_ble_eq_true rfl)) | with_reducible refine der_of ?_ | ((with_reducible refine br_t ?_ ?_);rfl) | ((with_reducible refine br_f ?_ ?_);rfl) | ((with_reducible refine br_t ?_ ?_);assumption) | ((with_reducible refine br_f ?_ ?_);assumption) | ((with_reducible first|apply St.wrL|apply St.wr);assumption;(first|exact i0|exact i1|exact i2|exact i3|exact i4|exact i5|exact i6|exact i7|exact i8|exact i9|exact i10|exact i11|exact i12|exact i13|exact i14|exact i15);(first|exact Nat.le_of_ble_eq_true rfl|rfl);intro g_ S_;simp only [Ptr.add, List.set, splice, List.take, List.drop, List.nil_append, List.append_nil, List.cons_append, List.length_cons, List.length_nil, Nat.zero_add, Nat.add_zero, Nat.reduceAdd, Nat.reduceMul, Nat.mul_one, Int.toNat_zero, Int.toNat_one, Int.reduceToNat] at S_) | ((with_reducible refine ix_of ?_ ?_ ?_);exact of_decide_eq_true rfl;exact of_decide_eq_true rfl) | ((with_reducible first|refine nz_of ?_ ?_|refine nneg_of ?_ ?_);exact of_decide_eq_true rfl) | ((with_reducible refine chk_of ?_ ?_);rfl) | (with_reducible first|apply asI_of|apply asB_of|apply asP_of|apply asSl_of|apply asAggV_of|apply asTupV_of|apply asCons_of|apply asNil_of|apply isNil_n|apply isNil_i|apply nilC_i|apply nilCU_i|apply nilCU_f|apply mthC_i) | ((with_reducible refine And.intro ?_ ?_);rfl) | ((with_reducible apply exAnd);rfl))
  refine Valid_any (fun r g1 k1 => ?_)
  have S1 := S_.keep k1
  have hq' : ∀ v e, W32 v → Q v e g1 := fun v e hv => hq v e g1 hv S1.keeps
  clear S_
  refine br_any (hq' 0 10 ⟨by decide, by decide⟩) ?_
  refine S1.rI (p := (⟨b1, 0⟩ : Ptr).add _) i0 rfl (Place_any ⟨by decide, by decide⟩ ⟨by decide, by decide⟩ ⟨by decide, by decide⟩ (fun v1 h1 => ?_))
  refine S1.rI (p := (⟨b1, 0⟩ : Ptr).add _) i0 rfl (Place_any h1 ⟨by decide, by decide⟩ ⟨by decide, by decide⟩ (fun v2 h2 => ?_))
  refine S1.rI (p := (⟨b1, 0⟩ : Ptr).add _) i0 rfl (Shape_any (fun r => br_any ?_ ?_))
  · exact S1.rI (p := (⟨b1, 0⟩ : Ptr).add _) i0 rfl (Place_any h2 ⟨by decide, by decide⟩ ⟨by decide, by decide⟩ (fun v3 h3 => hq' _ _ h3))
  · refine S1.rI (p := (⟨b1, 0⟩ : Ptr).add _) i0 rfl (Place_any h2 ⟨by decide, by decide⟩ ⟨by decide, by decide⟩ (fun v3 h3 => ?_))
    refine S1.rI (p := (⟨b1, 0⟩ : Ptr).add _) i0 rfl (Place_any h3 ⟨by decide, by decide⟩ ⟨by decide, by decide⟩ (fun v4 h4 => ?_))
    unfold palisaderef02_Encode.j9
    exact S1.rI (p := (⟨b1, 0⟩ : Ptr).add _) i0 rfl (Place_any h4 ⟨by decide, by decide⟩ ⟨by decide, by decide⟩ (fun v5 h5 => hq' _ _ h5))

end
end Go.Hart

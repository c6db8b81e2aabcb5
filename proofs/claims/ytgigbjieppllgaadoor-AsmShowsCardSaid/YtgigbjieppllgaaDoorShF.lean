/- The reference reads a word as the program does. -/
import Derived.Test.YtgigbjieppllgaaDoorShE
set_option linter.unusedSimpArgs false
set_option linter.unusedVariables false
set_option maxRecDepth 100000
namespace Go.Insn
open Go.Lift Go.Fn

section
variable {h : Heap}

theorem j7_ref {w : Int} {op rd rs1 rs2 : Nat} {v : Int} (h0 : op < 64) (h1 : rd < 16) (h2 : rs1 < 16) (h3 : rs2 < 16) (hf : FitsB (rshape (op : Int)) v) (h5 : rshape (op : Int) = 5 → rs1 = 0 ∧ rs2 = 0) {b1 b4 : Nat} {g0 : Heap} (S : St g0 none_ [(b4, .cells [.int .i64 op, .int .i64 rd, .int .i64 rs1, .int .i64 rs2, .int .i64 v] false), (b1, .cells [.int .i64 0, .int .i64 0, .int .i64 0, .int .i64 0, .int .i64 0] false)] h) {Q : Int → Int → Int → Int → Int → Int → Heap → Prop}
    (hq : ∀ h', Keeps none_ g0 h' → Q (decRest w op rd rs1 rs2 v).op (decRest w op rd rs1 rs2 v).rd (decRest w op rd rs1 rs2 v).rs1 (decRest w op rd rs1 rs2 v).rs2 (decRest w op rd rs1 rs2 v).imm (decRest w op rd rs1 rs2 v).e h') :
    palisaderef02_Decode.j7 w ⟨b1, 0⟩ ⟨b4, 0⟩ Q h := by
  have S_ := S
  unfold palisaderef02_Decode.j7
  repeat (first | ((with_reducible first|apply St.rI|apply St.rB|apply St.rP|apply St.rSl|apply St.rV|apply St.rM|apply St.rS|apply St.rN|apply St.ckA);assumption;(first|exact i0|exact i1|exact i2|exact i3|exact i4|exact i5|exact i6|exact i7|exact i8|exact i9|exact i10|exact i11|exact i12|exact i13|exact i14|exact i15);(first|rfl|exact Nat.le_of_ble_eq_true rfl)) | with_reducible refine der_of ?_ | ((with_reducible refine br_t ?_ ?_);rfl) | ((with_reducible refine br_f ?_ ?_);rfl) | ((with_reducible refine br_t ?_ ?_);assumption) | ((with_reducible refine br_f ?_ ?_);assumption) | ((with_reducible first|apply St.wrL|apply St.wr);assumption;(first|exact i0|exact i1|exact i2|exact i3|exact i4|exact i5|exact i6|exact i7|exact i8|exact i9|exact i10|exact i11|exact i12|exact i13|exact i14|exact i15);(first|exact Nat.le_of_ble_eq_true rfl|rfl);intro g_ S_;simp only [Ptr.add, List.set, splice, List.take, List.drop, List.nil_append, List.append_nil, List.cons_append, List.length_cons, List.length_nil, Nat.zero_add, Nat.add_zero, Nat.reduceAdd, Nat.reduceMul, Nat.mul_one, Int.toNat_zero, Int.toNat_one, Int.reduceToNat] at S_) | ((with_reducible refine ix_of ?_ ?_ ?_);exact of_decide_eq_true rfl;exact of_decide_eq_true rfl) | ((with_reducible first|refine nz_of ?_ ?_|refine nneg_of ?_ ?_);exact of_decide_eq_true rfl) | ((with_reducible refine chk_of ?_ ?_);rfl) | (with_reducible first|apply asI_of|apply asB_of|apply asP_of|apply asSl_of|apply asAggV_of|apply asTupV_of|apply asCons_of|apply asNil_of|apply isNil_n|apply isNil_i|apply nilC_i|apply nilCU_i|apply nilCU_f|apply mthC_i) | ((with_reducible refine And.intro ?_ ?_);rfl) | ((with_reducible apply exAnd);rfl))
  refine Encode_ref h0 h1 h2 h3 hf h5 (fun g1 k1 => ?_)
  have S1 := S_.keep k1
  clear S_
  have S_ := S1
  unfold decRest at hq
  by_cases e1 : (encOf (op : Int) rd rs1 rs2 v).2 = 0
  · refine br_f (by rw [e1]; rfl) ?_
    rw [if_neg (fun hh => hh e1)] at hq
    by_cases e2 : (encOf (op : Int) rd rs1 rs2 v).1 = w
    · refine br_f (by rw [e2]; simp) ?_
      rw [if_neg (fun hh => hh e2)] at hq
      repeat (first | ((with_reducible first|apply St.rI|apply St.rB|apply St.rP|apply St.rSl|apply St.rV|apply St.rM|apply St.rS|apply St.rN|apply St.ckA);assumption;(first|exact i0|exact i1|exact i2|exact i3|exact i4|exact i5|exact i6|exact i7|exact i8|exact i9|exact i10|exact i11|exact i12|exact i13|exact i14|exact i15);(first|rfl|exact Nat.le_of_ble_eq_true rfl)) | with_reducible refine der_of ?_ | ((with_reducible refine br_t ?_ ?_);rfl) | ((with_reducible refine br_f ?_ ?_);rfl) | ((with_reducible refine br_t ?_ ?_);assumption) | ((with_reducible refine br_f ?_ ?_);assumption) | ((with_reducible first|apply St.wrL|apply St.wr);assumption;(first|exact i0|exact i1|exact i2|exact i3|exact i4|exact i5|exact i6|exact i7|exact i8|exact i9|exact i10|exact i11|exact i12|exact i13|exact i14|exact i15);(first|exact Nat.le_of_ble_eq_true rfl|rfl);intro g_ S_;simp only [Ptr.add, List.set, splice, List.take, List.drop, List.nil_append, List.append_nil, List.cons_append, List.length_cons, List.length_nil, Nat.zero_add, Nat.add_zero, Nat.reduceAdd, Nat.reduceMul, Nat.mul_one, Int.toNat_zero, Int.toNat_one, Int.reduceToNat] at S_) | ((with_reducible refine ix_of ?_ ?_ ?_);exact of_decide_eq_true rfl;exact of_decide_eq_true rfl) | ((with_reducible first|refine nz_of ?_ ?_|refine nneg_of ?_ ?_);exact of_decide_eq_true rfl) | ((with_reducible refine chk_of ?_ ?_);rfl) | (with_reducible first|apply asI_of|apply asB_of|apply asP_of|apply asSl_of|apply asAggV_of|apply asTupV_of|apply asCons_of|apply asNil_of|apply isNil_n|apply isNil_i|apply nilC_i|apply nilCU_i|apply nilCU_f|apply mthC_i) | ((with_reducible refine And.intro ?_ ?_);rfl) | ((with_reducible apply exAnd);rfl))
      exact hq _ S_.keeps
    · refine br_t (by rw [bne_iff_ne]; exact e2) ?_
      rw [if_pos e2] at hq
      repeat (first | ((with_reducible first|apply St.rI|apply St.rB|apply St.rP|apply St.rSl|apply St.rV|apply St.rM|apply St.rS|apply St.rN|apply St.ckA);assumption;(first|exact i0|exact i1|exact i2|exact i3|exact i4|exact i5|exact i6|exact i7|exact i8|exact i9|exact i10|exact i11|exact i12|exact i13|exact i14|exact i15);(first|rfl|exact Nat.le_of_ble_eq_true rfl)) | with_reducible refine der_of ?_ | ((with_reducible refine br_t ?_ ?_);rfl) | ((with_reducible refine br_f ?_ ?_);rfl) | ((with_reducible refine br_t ?_ ?_);assumption) | ((with_reducible refine br_f ?_ ?_);assumption) | ((with_reducible first|apply St.wrL|apply St.wr);assumption;(first|exact i0|exact i1|exact i2|exact i3|exact i4|exact i5|exact i6|exact i7|exact i8|exact i9|exact i10|exact i11|exact i12|exact i13|exact i14|exact i15);(first|exact Nat.le_of_ble_eq_true rfl|rfl);intro g_ S_;simp only [Ptr.add, List.set, splice, List.take, List.drop, List.nil_append, List.append_nil, List.cons_append, List.length_cons, List.length_nil, Nat.zero_add, Nat.add_zero, Nat.reduceAdd, Nat.reduceMul, Nat.mul_one, Int.toNat_zero, Int.toNat_one, Int.reduceToNat] at S_) | ((with_reducible refine ix_of ?_ ?_ ?_);exact of_decide_eq_true rfl;exact of_decide_eq_true rfl) | ((with_reducible first|refine nz_of ?_ ?_|refine nneg_of ?_ ?_);exact of_decide_eq_true rfl) | ((with_reducible refine chk_of ?_ ?_);rfl) | (with_reducible first|apply asI_of|apply asB_of|apply asP_of|apply asSl_of|apply asAggV_of|apply asTupV_of|apply asCons_of|apply asNil_of|apply isNil_n|apply isNil_i|apply nilC_i|apply nilCU_i|apply nilCU_f|apply mthC_i) | ((with_reducible refine And.intro ?_ ?_);rfl) | ((with_reducible apply exAnd);rfl))
      exact hq _ S_.keeps
  · refine br_t (by rw [bne_iff_ne]; exact e1) ?_
    rw [if_pos e1] at hq
    repeat (first | ((with_reducible first|apply St.rI|apply St.rB|apply St.rP|apply St.rSl|apply St.rV|apply St.rM|apply St.rS|apply St.rN|apply St.ckA);assumption;(first|exact i0|exact i1|exact i2|exact i3|exact i4|exact i5|exact i6|exact i7|exact i8|exact i9|exact i10|exact i11|exact i12|exact i13|exact i14|exact i15);(first|rfl|exact Nat.le_of_ble_eq_true rfl)) | with_reducible refine der_of ?_ | ((with_reducible refine br_t ?_ ?_);rfl) | ((with_reducible refine br_f ?_ ?_);rfl) | ((with_reducible refine br_t ?_ ?_);assumption) | ((with_reducible refine br_f ?_ ?_);assumption) | ((with_reducible first|apply St.wrL|apply St.wr);assumption;(first|exact i0|exact i1|exact i2|exact i3|exact i4|exact i5|exact i6|exact i7|exact i8|exact i9|exact i10|exact i11|exact i12|exact i13|exact i14|exact i15);(first|exact Nat.le_of_ble_eq_true rfl|rfl);intro g_ S_;simp only [Ptr.add, List.set, splice, List.take, List.drop, List.nil_append, List.append_nil, List.cons_append, List.length_cons, List.length_nil, Nat.zero_add, Nat.add_zero, Nat.reduceAdd, Nat.reduceMul, Nat.mul_one, Int.toNat_zero, Int.toNat_one, Int.reduceToNat] at S_) | ((with_reducible refine ix_of ?_ ?_ ?_);exact of_decide_eq_true rfl;exact of_decide_eq_true rfl) | ((with_reducible first|refine nz_of ?_ ?_|refine nneg_of ?_ ?_);exact of_decide_eq_true rfl) | ((with_reducible refine chk_of ?_ ?_);rfl) | (with_reducible first|apply asI_of|apply asB_of|apply asP_of|apply asSl_of|apply asAggV_of|apply asTupV_of|apply asCons_of|apply asNil_of|apply isNil_n|apply isNil_i|apply nilC_i|apply nilCU_i|apply nilCU_f|apply mthC_i) | ((with_reducible refine And.intro ?_ ?_);rfl) | ((with_reducible apply exAnd);rfl))
    exact hq _ S_.keeps

theorem Decode_ref {w : Nat} (hw : w < 2 ^ 32) {Q : Int → Int → Int → Int → Int → Int → Heap → Prop} (hq : ∀ h', Keeps none_ h h' → Q (decOf (w : Int)).op (decOf (w : Int)).rd (decOf (w : Int)).rs1 (decOf (w : Int)).rs2 (decOf (w : Int)).imm (decOf (w : Int)).e h') : palisaderef02_Decode (w : Int) Q h := by
  have f0 : wfield (w : Int) 26 6 = fld w 26 6 := wfield_eq (at_ := 26) (n := 6) hw (by decide)
  have f1 : wfield (w : Int) 22 4 = fld w 22 4 := wfield_eq (at_ := 22) (n := 4) hw (by decide)
  have f2 : wfield (w : Int) 18 4 = fld w 18 4 := wfield_eq (at_ := 18) (n := 4) hw (by decide)
  have f3 : wfield (w : Int) 14 4 = fld w 14 4 := wfield_eq (at_ := 14) (n := 4) hw (by decide)
  have f4 : wfield (w : Int) 0 14 = fld w 0 14 := wfield_eq (at_ := 0) (n := 14) hw (by decide)
  have f5 : wfield (w : Int) 0 18 = fld w 0 18 := wfield_eq (at_ := 0) (n := 18) hw (by decide)
  have b4 : 0 ≤ fld w 0 14 ∧ fld w 0 14 < 16384 := by unfold fld; omega
  have b5 : 0 ≤ fld w 0 18 ∧ fld w 0 18 < 262144 := by unfold fld; omega
  unfold decOf at hq
  rw [f0, f1, f2, f3, f4, f5, wsign14 b4.1 b4.2, wsign18 b5.1 b5.2] at hq
  have l0 : w / 2 ^ 26 % 2 ^ 6 < 64 := by omega
  have l1 : w / 2 ^ 22 % 2 ^ 4 < 16 := by omega
  have l2 : w / 2 ^ 18 % 2 ^ 4 < 16 := by omega
  have l3 : w / 2 ^ 14 % 2 ^ 4 < 16 := by omega
  have e0 : fld w 26 6 = ((w / 2 ^ 26 % 2 ^ 6 : Nat) : Int) := rfl
  have e1 : fld w 22 4 = ((w / 2 ^ 22 % 2 ^ 4 : Nat) : Int) := rfl
  have e2 : fld w 18 4 = ((w / 2 ^ 18 % 2 ^ 4 : Nat) : Int) := rfl
  have e3 : fld w 14 4 = ((w / 2 ^ 14 % 2 ^ 4 : Nat) : Int) := rfl
  rw [e0, e1, e2, e3] at hq
  have S_ := St.start h none_
  unfold palisaderef02_Decode
  ((with_reducible apply St.al); assumption; intro b1 g_ S_)
  refine Field_ref (at_ := 26) (n := 6) hw (by decide) (by decide) (Field_ref (at_ := 22) (n := 4) hw (by decide) (by decide) ?_)
  rw [e0, e1]
  generalize w / 2 ^ 26 % 2 ^ 6 = op at hq l0 ⊢
  generalize w / 2 ^ 22 % 2 ^ 4 = rd at hq l1 ⊢
  ((with_reducible apply St.al); assumption; intro b4' g_ S_)
  repeat (first | ((with_reducible first|apply St.rI|apply St.rB|apply St.rP|apply St.rSl|apply St.rV|apply St.rM|apply St.rS|apply St.rN|apply St.ckA);assumption;(first|exact i0|exact i1|exact i2|exact i3|exact i4|exact i5|exact i6|exact i7|exact i8|exact i9|exact i10|exact i11|exact i12|exact i13|exact i14|exact i15);(first|rfl|exact Nat.le_of_ble_eq_true rfl)) | with_reducible refine der_of ?_ | ((with_reducible refine br_t ?_ ?_);rfl) | ((with_reducible refine br_f ?_ ?_);rfl) | ((with_reducible refine br_t ?_ ?_);assumption) | ((with_reducible refine br_f ?_ ?_);assumption) | ((with_reducible first|apply St.wrL|apply St.wr);assumption;(first|exact i0|exact i1|exact i2|exact i3|exact i4|exact i5|exact i6|exact i7|exact i8|exact i9|exact i10|exact i11|exact i12|exact i13|exact i14|exact i15);(first|exact Nat.le_of_ble_eq_true rfl|rfl);intro g_ S_;simp only [Ptr.add, List.set, splice, List.take, List.drop, List.nil_append, List.append_nil, List.cons_append, List.length_cons, List.length_nil, Nat.zero_add, Nat.add_zero, Nat.reduceAdd, Nat.reduceMul, Nat.mul_one, Int.toNat_zero, Int.toNat_one, Int.reduceToNat] at S_) | ((with_reducible refine ix_of ?_ ?_ ?_);exact of_decide_eq_true rfl;exact of_decide_eq_true rfl) | ((with_reducible first|refine nz_of ?_ ?_|refine nneg_of ?_ ?_);exact of_decide_eq_true rfl) | ((with_reducible refine chk_of ?_ ?_);rfl) | (with_reducible first|apply asI_of|apply asB_of|apply asP_of|apply asSl_of|apply asAggV_of|apply asTupV_of|apply asCons_of|apply asNil_of|apply isNil_n|apply isNil_i|apply nilC_i|apply nilCU_i|apply nilCU_f|apply mthC_i) | ((with_reducible refine And.intro ?_ ?_);rfl) | ((with_reducible apply exAnd);rfl))
  refine Shape_ref l0 ?_
  by_cases e5 : rshape (op : Int) = 5
  · refine br_t (by rw [e5]; rfl) ?_
    refine Field_ref (at_ := 0) (n := 18) hw (by decide) (by decide) (Sign18 b5.1 b5.2 ?_)
    rw [shapeOf_of (by rw [e5]; decide), e5] at hq
    simp only [if_true] at hq
    repeat (first | ((with_reducible first|apply St.rI|apply St.rB|apply St.rP|apply St.rSl|apply St.rV|apply St.rM|apply St.rS|apply St.rN|apply St.ckA);assumption;(first|exact i0|exact i1|exact i2|exact i3|exact i4|exact i5|exact i6|exact i7|exact i8|exact i9|exact i10|exact i11|exact i12|exact i13|exact i14|exact i15);(first|rfl|exact Nat.le_of_ble_eq_true rfl)) | with_reducible refine der_of ?_ | ((with_reducible refine br_t ?_ ?_);rfl) | ((with_reducible refine br_f ?_ ?_);rfl) | ((with_reducible refine br_t ?_ ?_);assumption) | ((with_reducible refine br_f ?_ ?_);assumption) | ((with_reducible first|apply St.wrL|apply St.wr);assumption;(first|exact i0|exact i1|exact i2|exact i3|exact i4|exact i5|exact i6|exact i7|exact i8|exact i9|exact i10|exact i11|exact i12|exact i13|exact i14|exact i15);(first|exact Nat.le_of_ble_eq_true rfl|rfl);intro g_ S_;simp only [Ptr.add, List.set, splice, List.take, List.drop, List.nil_append, List.append_nil, List.cons_append, List.length_cons, List.length_nil, Nat.zero_add, Nat.add_zero, Nat.reduceAdd, Nat.reduceMul, Nat.mul_one, Int.toNat_zero, Int.toNat_one, Int.reduceToNat] at S_) | ((with_reducible refine ix_of ?_ ?_ ?_);exact of_decide_eq_true rfl;exact of_decide_eq_true rfl) | ((with_reducible first|refine nz_of ?_ ?_|refine nneg_of ?_ ?_);exact of_decide_eq_true rfl) | ((with_reducible refine chk_of ?_ ?_);rfl) | (with_reducible first|apply asI_of|apply asB_of|apply asP_of|apply asSl_of|apply asAggV_of|apply asTupV_of|apply asCons_of|apply asNil_of|apply isNil_n|apply isNil_i|apply nilC_i|apply nilCU_i|apply nilCU_f|apply mthC_i) | ((with_reducible refine And.intro ?_ ?_);rfl) | ((with_reducible apply exAnd);rfl))
    refine j7_ref (rs1 := 0) (rs2 := 0) l0 l1 (by decide) (by decide) ⟨fun _ => ?_, fun hh => absurd e5 hh⟩ (fun _ => ⟨rfl, rfl⟩) S_ hq
    rw [sgn18]; split <;> omega
  · refine br_f (beq_false_of_ne e5) ?_
    refine Field_ref (at_ := 18) (n := 4) hw (by decide) (by decide) ?_
    rw [e2]
    generalize w / 2 ^ 18 % 2 ^ 4 = rs1 at hq l2 ⊢
    repeat (first | ((with_reducible first|apply St.rI|apply St.rB|apply St.rP|apply St.rSl|apply St.rV|apply St.rM|apply St.rS|apply St.rN|apply St.ckA);assumption;(first|exact i0|exact i1|exact i2|exact i3|exact i4|exact i5|exact i6|exact i7|exact i8|exact i9|exact i10|exact i11|exact i12|exact i13|exact i14|exact i15);(first|rfl|exact Nat.le_of_ble_eq_true rfl)) | with_reducible refine der_of ?_ | ((with_reducible refine br_t ?_ ?_);rfl) | ((with_reducible refine br_f ?_ ?_);rfl) | ((with_reducible refine br_t ?_ ?_);assumption) | ((with_reducible refine br_f ?_ ?_);assumption) | ((with_reducible first|apply St.wrL|apply St.wr);assumption;(first|exact i0|exact i1|exact i2|exact i3|exact i4|exact i5|exact i6|exact i7|exact i8|exact i9|exact i10|exact i11|exact i12|exact i13|exact i14|exact i15);(first|exact Nat.le_of_ble_eq_true rfl|rfl);intro g_ S_;simp only [Ptr.add, List.set, splice, List.take, List.drop, List.nil_append, List.append_nil, List.cons_append, List.length_cons, List.length_nil, Nat.zero_add, Nat.add_zero, Nat.reduceAdd, Nat.reduceMul, Nat.mul_one, Int.toNat_zero, Int.toNat_one, Int.reduceToNat] at S_) | ((with_reducible refine ix_of ?_ ?_ ?_);exact of_decide_eq_true rfl;exact of_decide_eq_true rfl) | ((with_reducible first|refine nz_of ?_ ?_|refine nneg_of ?_ ?_);exact of_decide_eq_true rfl) | ((with_reducible refine chk_of ?_ ?_);rfl) | (with_reducible first|apply asI_of|apply asB_of|apply asP_of|apply asSl_of|apply asAggV_of|apply asTupV_of|apply asCons_of|apply asNil_of|apply isNil_n|apply isNil_i|apply nilC_i|apply nilCU_i|apply nilCU_f|apply mthC_i) | ((with_reducible refine And.intro ?_ ?_);rfl) | ((with_reducible apply exAnd);rfl))
    refine Field_ref (at_ := 14) (n := 4) hw (by decide) (by decide) ?_
    rw [e3]
    generalize w / 2 ^ 14 % 2 ^ 4 = rs2 at hq l3 ⊢
    repeat (first | ((with_reducible first|apply St.rI|apply St.rB|apply St.rP|apply St.rSl|apply St.rV|apply St.rM|apply St.rS|apply St.rN|apply St.ckA);assumption;(first|exact i0|exact i1|exact i2|exact i3|exact i4|exact i5|exact i6|exact i7|exact i8|exact i9|exact i10|exact i11|exact i12|exact i13|exact i14|exact i15);(first|rfl|exact Nat.le_of_ble_eq_true rfl)) | with_reducible refine der_of ?_ | ((with_reducible refine br_t ?_ ?_);rfl) | ((with_reducible refine br_f ?_ ?_);rfl) | ((with_reducible refine br_t ?_ ?_);assumption) | ((with_reducible refine br_f ?_ ?_);assumption) | ((with_reducible first|apply St.wrL|apply St.wr);assumption;(first|exact i0|exact i1|exact i2|exact i3|exact i4|exact i5|exact i6|exact i7|exact i8|exact i9|exact i10|exact i11|exact i12|exact i13|exact i14|exact i15);(first|exact Nat.le_of_ble_eq_true rfl|rfl);intro g_ S_;simp only [Ptr.add, List.set, splice, List.take, List.drop, List.nil_append, List.append_nil, List.cons_append, List.length_cons, List.length_nil, Nat.zero_add, Nat.add_zero, Nat.reduceAdd, Nat.reduceMul, Nat.mul_one, Int.toNat_zero, Int.toNat_one, Int.reduceToNat] at S_) | ((with_reducible refine ix_of ?_ ?_ ?_);exact of_decide_eq_true rfl;exact of_decide_eq_true rfl) | ((with_reducible first|refine nz_of ?_ ?_|refine nneg_of ?_ ?_);exact of_decide_eq_true rfl) | ((with_reducible refine chk_of ?_ ?_);rfl) | (with_reducible first|apply asI_of|apply asB_of|apply asP_of|apply asSl_of|apply asAggV_of|apply asTupV_of|apply asCons_of|apply asNil_of|apply isNil_n|apply isNil_i|apply nilC_i|apply nilCU_i|apply nilCU_f|apply mthC_i) | ((with_reducible refine And.intro ?_ ?_);rfl) | ((with_reducible apply exAnd);rfl))
    refine Field_ref (at_ := 0) (n := 14) hw (by decide) (by decide) (Sign14 b4.1 b4.2 ?_)
    repeat (first | ((with_reducible first|apply St.rI|apply St.rB|apply St.rP|apply St.rSl|apply St.rV|apply St.rM|apply St.rS|apply St.rN|apply St.ckA);assumption;(first|exact i0|exact i1|exact i2|exact i3|exact i4|exact i5|exact i6|exact i7|exact i8|exact i9|exact i10|exact i11|exact i12|exact i13|exact i14|exact i15);(first|rfl|exact Nat.le_of_ble_eq_true rfl)) | with_reducible refine der_of ?_ | ((with_reducible refine br_t ?_ ?_);rfl) | ((with_reducible refine br_f ?_ ?_);rfl) | ((with_reducible refine br_t ?_ ?_);assumption) | ((with_reducible refine br_f ?_ ?_);assumption) | ((with_reducible first|apply St.wrL|apply St.wr);assumption;(first|exact i0|exact i1|exact i2|exact i3|exact i4|exact i5|exact i6|exact i7|exact i8|exact i9|exact i10|exact i11|exact i12|exact i13|exact i14|exact i15);(first|exact Nat.le_of_ble_eq_true rfl|rfl);intro g_ S_;simp only [Ptr.add, List.set, splice, List.take, List.drop, List.nil_append, List.append_nil, List.cons_append, List.length_cons, List.length_nil, Nat.zero_add, Nat.add_zero, Nat.reduceAdd, Nat.reduceMul, Nat.mul_one, Int.toNat_zero, Int.toNat_one, Int.reduceToNat] at S_) | ((with_reducible refine ix_of ?_ ?_ ?_);exact of_decide_eq_true rfl;exact of_decide_eq_true rfl) | ((with_reducible first|refine nz_of ?_ ?_|refine nneg_of ?_ ?_);exact of_decide_eq_true rfl) | ((with_reducible refine chk_of ?_ ?_);rfl) | (with_reducible first|apply asI_of|apply asB_of|apply asP_of|apply asSl_of|apply asAggV_of|apply asTupV_of|apply asCons_of|apply asNil_of|apply isNil_n|apply isNil_i|apply nilC_i|apply nilCU_i|apply nilCU_f|apply mthC_i) | ((with_reducible refine And.intro ?_ ?_);rfl) | ((with_reducible apply exAnd);rfl))
    refine j7_ref (w := (w : Int)) l0 l1 l2 l3 ⟨fun hh => absurd hh e5, fun _ => ?_⟩ (fun hh => absurd hh e5) S_ (fun h' k' => ?_)
    · rw [sgn14]; split <;> omega
    · have hq := hq h' k'
      by_cases en : rshape (op : Int) = -1
      · rw [shapeOf_none l0 en] at hq
        have ev : decRest (w : Int) (op : Int) rd rs1 rs2 (sgn (fld w 0 14) 14) = ⟨0, 0, 0, 0, 0, 10⟩ := by
          unfold decRest
          have : (encOf (op : Int) rd rs1 rs2 (sgn (fld w 0 14) 14)).2 = 10 := by
            unfold encOf validOf
            rw [shapeOf_none l0 en]; rfl
          rw [if_pos (by rw [this]; decide)]
        rw [ev]; exact hq
      · rw [shapeOf_of en] at hq
        simp only [if_neg e5] at hq
        exact hq

end
end Go.Insn

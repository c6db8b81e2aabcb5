/- A request is laid and offered. -/
import Derived.Test.YtmpjgafkdhineaaDoorKb
import Derived.Test.YtmpjgafkdhineaaDoorKa

set_option linter.unusedSimpArgs false
set_option linter.unusedVariables false
set_option maxRecDepth 100000
namespace Go.Back
open Go.Lift Go.Fn Go.Mem Go.Frames

def reqM (m : Nat → Int) (kind block : Int) : Nat → Int := upd (upd (upd m 128 kind) 129 block) 137 8608480567731124087
def fl1 (w1 : Bool) : Int := if w1 then 3 else 1
def descM (m : Nat → Int) (a0 l0 a1 l1 : Int) (w1 : Bool) (a2 l2 : Int) : Nat → Int :=
  upd (upd (upd (upd (upd (upd (upd (upd (upd (upd (upd (upd m 0 a0) 1 l0) 2 1) 3 1) 4 a1) 5 l1) 6 (fl1 w1)) 7 2) 8 a2) 9 l2) 10 2) 11 3
def offM (m : Nat → Int) (c : Nat) (a0 l0 a1 l1 : Int) (w1 : Bool) (a2 l2 : Int) : Nat → Int := upd (upd (descM m a0 l0 a1 l1 w1 a2 l2) (33 + c % 8) 0) 32 ((c + 1 : Nat) : Int)

theorem off_low {m : Nat → Int} {c : Nat} {a0 l0 a1 l1 a2 l2 : Int} {w1 : Bool} {k : Nat} (hk : k < 32) : offM m c a0 l0 a1 l1 w1 a2 l2 k = descM m a0 l0 a1 l1 w1 a2 l2 k := by
  unfold offM
  simp only [upd]
  rw [if_neg (by omega), if_neg (by omega)]
theorem off_high {m : Nat → Int} {c : Nat} {a0 l0 a1 l1 a2 l2 : Int} {w1 : Bool} {k : Nat} (hk : 41 ≤ k) : offM m c a0 l0 a1 l1 w1 a2 l2 k = m k := by
  unfold offM descM
  simp only [upd]
  iterate 14 rw [if_neg (by omega)]
theorem off_cnt {m : Nat → Int} {c : Nat} {a0 l0 a1 l1 a2 l2 : Int} {w1 : Bool} : offM m c a0 l0 a1 l1 w1 a2 l2 32 = ((c + 1 : Nat) : Int) := by
  unfold offM
  simp only [upd]
  rw [if_pos trivial]
theorem fl1_ok (w1 : Bool) : (0 ≤ fl1 w1 ∧ fl1 w1 ≤ 3) ∧ (ibits .and .u64 (fl1 w1) 2 != 0) = w1 ∧ (ibits .and .u64 (fl1 w1) 1 != 0) = true := by
  cases w1
  · exact ⟨by decide, rfl, rfl⟩
  · exact ⟨by decide, rfl, rfl⟩

theorem off_three {m : Nat → Int} {c : Nat} {a0 l0 a1 l1 a2 l2 : Int} {w1 : Bool} (h0 : 1 ≤ l0 ∧ l0 ≤ 4096) (h1 : 1 ≤ l1 ∧ l1 ≤ 4096) (h2 : 1 ≤ l2 ∧ l2 ≤ 4096) (g0 : 0 ≤ a0 ∧ a0 ≤ 1000000) (g1 : 0 ≤ a1 ∧ a1 ≤ 1000000) (g2 : 0 ≤ a2 ∧ a2 ≤ 1000000) :
    Three (offM m c a0 l0 a1 l1 w1 a2 l2) a0 l0 a1 l1 w1 a2 l2 :=
  ⟨(off_low (by decide)).trans rfl, (off_low (by decide)).trans rfl, (off_low (by decide)).trans rfl, (off_low (by decide)).trans rfl, (off_low (by decide)).trans rfl, (off_low (by decide)).trans rfl, ⟨fl1 w1, (off_low (by decide)).trans rfl, (fl1_ok w1).1, (fl1_ok w1).2.1, (fl1_ok w1).2.2⟩, (off_low (by decide)).trans rfl, (off_low (by decide)).trans rfl, (off_low (by decide)).trans rfl, (off_low (by decide)).trans rfl, h0, h1, h2, g0, g1, g2⟩

section
variable {U : Ifc} {x : Nat → Int} {h0 h : Heap} {W : Nat → Prop}

theorem request_of (w : Wid U h0 x) (hw : ¬ W (U.glob 1)) (hk8 : knownB x 8 = true) {gb pm bm base : Nat} {bs : List UInt8} {mk : Bool} {m : Nat → Int} (M : MemIs bs base m) (hb : base + 16 ≤ 40) {kind block page : Int} (hkd : 0 ≤ kind ∧ kind ≤ 18446744073709551615) (hbl : 0 ≤ block ∧ block ≤ 18446744073709551615) (hpg : 0 ≤ page ∧ page ≤ 1000)
    (S : St h0 W [(gb, .cells (flatC pm (base : Int)) false), (pm, .cells (memC bm) false), (bm, .cells (strCells bs) mk)] h) {Q : Sl → Heap → Prop}
    (hq : ∀ pb bs' mk' h', MemIs bs' base (reqM m kind block) → St h0 W [(pb, .cells (partsC 1024 16 (256 * page) 256 (kind == 0) 1100 1) false), (gb, .cells (flatC pm (base : Int)) false), (pm, .cells (memC bm) false), (bm, .cells (strCells bs') mk')] h' → Q ⟨some ⟨pb, 0⟩, 3, 3⟩ h') : zf50 U (some ⟨gb, 0⟩) kind block page Q h := by
  unfold zf50
  refine gstore (g := 0) (p := 1) (b := 2) w hw hk8 S rfl rfl rfl (by decide) M hb (k := 128) (by decide) rfl hkd.1 hkd.2 (fun bs1 mk1 g1 M1 S1 => ?_)
  simp only [List.set] at S1
  refine gstore (g := 0) (p := 1) (b := 2) w hw hk8 S1 rfl rfl rfl (by decide) M1 hb (k := 129) (by decide) rfl hbl.1 hbl.2 (fun bs2 mk2 g2 M2 S2 => ?_)
  simp only [List.set] at S2
  refine gstore (g := 0) (p := 1) (b := 2) w hw hk8 S2 rfl rfl rfl (by decide) M2 hb (k := 137) (by decide) rfl (by decide) (by decide) (fun bs3 mk3 g3 M3 S3 => ?_)
  simp only [List.set] at S3
  clear S S1 S2
  ((with_reducible apply St.al); assumption; intro pb g_ S_)
  have e : IntKind.u64.wrap (IntKind.i64.wrap (256 * page)) = 256 * page := by rw [wrap64 (x := 256 * page), wrapu64] <;> omega
  rw [e] at S_
  exact hq pb bs3 mk3 _ M3 S_

theorem offer_of (w : Wid U h0 x) (hw : ¬ W (U.glob 1)) (hk8 : knownB x 8 = true) {pb gb pm bm base c : Nat} {bs : List UInt8} {mk : Bool} {m : Nat → Int} (M : MemIs bs base m) (hb : base + 16 ≤ 40) (hc : c ≤ 1000) {a0 l0 a1 l1 a2 l2 : Int} {w1 : Bool} (r0 : 0 ≤ a0 ∧ a0 ≤ 1000000) (r1 : 0 ≤ a1 ∧ a1 ≤ 1000000) (r2 : 0 ≤ a2 ∧ a2 ≤ 1000000) (q0 : 0 ≤ l0 ∧ l0 ≤ 4096) (q1 : 0 ≤ l1 ∧ l1 ≤ 4096) (q2 : 0 ≤ l2 ∧ l2 ≤ 4096)
    (S : St h0 W [(pb, .cells (partsC a0 l0 a1 l1 w1 a2 l2) false), (gb, .cells (flatC pm (base : Int)) false), (pm, .cells (memC bm) false), (bm, .cells (strCells bs) mk)] h) {Q : Heap → Prop}
    (hq : ∀ bs' mk' h', MemIs bs' base (offM m c a0 l0 a1 l1 w1 a2 l2) → St h0 W [(pb, .cells (partsC a0 l0 a1 l1 w1 a2 l2) false), (gb, .cells (flatC pm (base : Int)) false), (pm, .cells (memC bm) false), (bm, .cells (strCells bs') mk')] h' → Q h') {a2' : Int} (ec : a2' = (c : Int)) : zf49 U (some ⟨gb, 0⟩) a2' ⟨some ⟨pb, 0⟩, 3, 3⟩ Q h := by
  subst ec
  have f1 : IntKind.u64.wrap l0 = l0 := wrapu64
  have f2 : IntKind.u64.wrap l1 = l1 := wrapu64
  have f3 : IntKind.u64.wrap l2 = l2 := wrapu64
  unfold zf49 zf49.j1
  intro I HI
  refine HI _ _ _ _ _ ?_
  unfold zf49.b1
  repeat (first | ((with_reducible first|apply St.rI|apply St.rB|apply St.rP|apply St.rSl|apply St.rV|apply St.rM|apply St.rS|apply St.rN|apply St.ckA);assumption;(first|exact i0|exact i1|exact i2|exact i3|exact i4|exact i5|exact i6|exact i7|exact i8|exact i9|exact i10|exact i11|exact i12|exact i13|exact i14|exact i15);(first|rfl|exact Nat.le_of_ble_eq_true rfl)) | with_reducible refine der_of ?_ | ((with_reducible refine br_t ?_ ?_);rfl) | ((with_reducible refine br_f ?_ ?_);rfl) | ((with_reducible refine br_t ?_ ?_);assumption) | ((with_reducible refine br_f ?_ ?_);assumption) | ((with_reducible first|apply St.wrL|apply St.wr);assumption;(first|exact i0|exact i1|exact i2|exact i3|exact i4|exact i5|exact i6|exact i7|exact i8|exact i9|exact i10|exact i11|exact i12|exact i13|exact i14|exact i15);(first|exact Nat.le_of_ble_eq_true rfl|rfl);intro g_ S_;simp only [Ptr.add, List.set, splice, List.take, List.drop, List.nil_append, List.append_nil, List.cons_append, List.length_cons, List.length_nil, Nat.zero_add, Nat.add_zero, Nat.reduceAdd, Nat.reduceMul, Nat.mul_one, Int.toNat_zero, Int.toNat_one, Int.reduceToNat] at S_) | ((with_reducible refine ix_of ?_ ?_ ?_);exact of_decide_eq_true rfl;exact of_decide_eq_true rfl) | ((with_reducible first|refine nz_of ?_ ?_|refine nneg_of ?_ ?_);exact of_decide_eq_true rfl) | ((with_reducible refine chk_of ?_ ?_);rfl) | (with_reducible first|apply asI_of|apply asB_of|apply asP_of|apply asSl_of|apply asAggV_of|apply asTupV_of|apply asCons_of|apply asNil_of|apply isNil_n|apply isNil_i|apply nilC_i|apply nilCU_i|apply nilCU_f|apply mthC_i) | ((with_reducible refine And.intro ?_ ?_);rfl) | ((with_reducible apply exAnd);rfl))
  unfold zf49.j6
  repeat (first | ((with_reducible first|apply St.rI|apply St.rB|apply St.rP|apply St.rSl|apply St.rV|apply St.rM|apply St.rS|apply St.rN|apply St.ckA);assumption;(first|exact i0|exact i1|exact i2|exact i3|exact i4|exact i5|exact i6|exact i7|exact i8|exact i9|exact i10|exact i11|exact i12|exact i13|exact i14|exact i15);(first|rfl|exact Nat.le_of_ble_eq_true rfl)) | with_reducible refine der_of ?_ | ((with_reducible refine br_t ?_ ?_);rfl) | ((with_reducible refine br_f ?_ ?_);rfl) | ((with_reducible refine br_t ?_ ?_);assumption) | ((with_reducible refine br_f ?_ ?_);assumption) | ((with_reducible first|apply St.wrL|apply St.wr);assumption;(first|exact i0|exact i1|exact i2|exact i3|exact i4|exact i5|exact i6|exact i7|exact i8|exact i9|exact i10|exact i11|exact i12|exact i13|exact i14|exact i15);(first|exact Nat.le_of_ble_eq_true rfl|rfl);intro g_ S_;simp only [Ptr.add, List.set, splice, List.take, List.drop, List.nil_append, List.append_nil, List.cons_append, List.length_cons, List.length_nil, Nat.zero_add, Nat.add_zero, Nat.reduceAdd, Nat.reduceMul, Nat.mul_one, Int.toNat_zero, Int.toNat_one, Int.reduceToNat] at S_) | ((with_reducible refine ix_of ?_ ?_ ?_);exact of_decide_eq_true rfl;exact of_decide_eq_true rfl) | ((with_reducible first|refine nz_of ?_ ?_|refine nneg_of ?_ ?_);exact of_decide_eq_true rfl) | ((with_reducible refine chk_of ?_ ?_);rfl) | (with_reducible first|apply asI_of|apply asB_of|apply asP_of|apply asSl_of|apply asAggV_of|apply asTupV_of|apply asCons_of|apply asNil_of|apply isNil_n|apply isNil_i|apply nilC_i|apply nilCU_i|apply nilCU_f|apply mthC_i) | ((with_reducible refine And.intro ?_ ?_);rfl) | ((with_reducible apply exAnd);rfl))
  unfold zf49.j8
  repeat (first | ((with_reducible first|apply St.rI|apply St.rB|apply St.rP|apply St.rSl|apply St.rV|apply St.rM|apply St.rS|apply St.rN|apply St.ckA);assumption;(first|exact i0|exact i1|exact i2|exact i3|exact i4|exact i5|exact i6|exact i7|exact i8|exact i9|exact i10|exact i11|exact i12|exact i13|exact i14|exact i15);(first|rfl|exact Nat.le_of_ble_eq_true rfl)) | with_reducible refine der_of ?_ | ((with_reducible refine br_t ?_ ?_);rfl) | ((with_reducible refine br_f ?_ ?_);rfl) | ((with_reducible refine br_t ?_ ?_);assumption) | ((with_reducible refine br_f ?_ ?_);assumption) | ((with_reducible first|apply St.wrL|apply St.wr);assumption;(first|exact i0|exact i1|exact i2|exact i3|exact i4|exact i5|exact i6|exact i7|exact i8|exact i9|exact i10|exact i11|exact i12|exact i13|exact i14|exact i15);(first|exact Nat.le_of_ble_eq_true rfl|rfl);intro g_ S_;simp only [Ptr.add, List.set, splice, List.take, List.drop, List.nil_append, List.append_nil, List.cons_append, List.length_cons, List.length_nil, Nat.zero_add, Nat.add_zero, Nat.reduceAdd, Nat.reduceMul, Nat.mul_one, Int.toNat_zero, Int.toNat_one, Int.reduceToNat] at S_) | ((with_reducible refine ix_of ?_ ?_ ?_);exact of_decide_eq_true rfl;exact of_decide_eq_true rfl) | ((with_reducible first|refine nz_of ?_ ?_|refine nneg_of ?_ ?_);exact of_decide_eq_true rfl) | ((with_reducible refine chk_of ?_ ?_);rfl) | (with_reducible first|apply asI_of|apply asB_of|apply asP_of|apply asSl_of|apply asAggV_of|apply asTupV_of|apply asCons_of|apply asNil_of|apply isNil_n|apply isNil_i|apply nilC_i|apply nilCU_i|apply nilCU_f|apply mthC_i) | ((with_reducible refine And.intro ?_ ?_);rfl) | ((with_reducible apply exAnd);rfl))
  refine gstore (g := 1) (p := 2) (b := 3) w hw hk8 S rfl rfl rfl (by decide) M hb (k := 0) (by decide) (by decide) r0.1 (by omega) (fun bs mk gg M S => ?_)
  simp only [List.set] at S
  repeat (first | ((with_reducible first|apply St.rI|apply St.rB|apply St.rP|apply St.rSl|apply St.rV|apply St.rM|apply St.rS|apply St.rN|apply St.ckA);assumption;(first|exact i0|exact i1|exact i2|exact i3|exact i4|exact i5|exact i6|exact i7|exact i8|exact i9|exact i10|exact i11|exact i12|exact i13|exact i14|exact i15);(first|rfl|exact Nat.le_of_ble_eq_true rfl)) | with_reducible refine der_of ?_ | ((with_reducible refine br_t ?_ ?_);rfl) | ((with_reducible refine br_f ?_ ?_);rfl) | ((with_reducible refine br_t ?_ ?_);assumption) | ((with_reducible refine br_f ?_ ?_);assumption) | ((with_reducible first|apply St.wrL|apply St.wr);assumption;(first|exact i0|exact i1|exact i2|exact i3|exact i4|exact i5|exact i6|exact i7|exact i8|exact i9|exact i10|exact i11|exact i12|exact i13|exact i14|exact i15);(first|exact Nat.le_of_ble_eq_true rfl|rfl);intro g_ S_;simp only [Ptr.add, List.set, splice, List.take, List.drop, List.nil_append, List.append_nil, List.cons_append, List.length_cons, List.length_nil, Nat.zero_add, Nat.add_zero, Nat.reduceAdd, Nat.reduceMul, Nat.mul_one, Int.toNat_zero, Int.toNat_one, Int.reduceToNat] at S_) | ((with_reducible refine ix_of ?_ ?_ ?_);exact of_decide_eq_true rfl;exact of_decide_eq_true rfl) | ((with_reducible first|refine nz_of ?_ ?_|refine nneg_of ?_ ?_);exact of_decide_eq_true rfl) | ((with_reducible refine chk_of ?_ ?_);rfl) | (with_reducible first|apply asI_of|apply asB_of|apply asP_of|apply asSl_of|apply asAggV_of|apply asTupV_of|apply asCons_of|apply asNil_of|apply isNil_n|apply isNil_i|apply nilC_i|apply nilCU_i|apply nilCU_f|apply mthC_i) | ((with_reducible refine And.intro ?_ ?_);rfl) | ((with_reducible apply exAnd);rfl))
  rw [f1]
  refine gstore (g := 1) (p := 2) (b := 3) w hw hk8 S rfl rfl rfl (by decide) M hb (k := 1) (by decide) (by decide) q0.1 (by omega) (fun bs mk gg M S => ?_)
  simp only [List.set] at S
  rw [show IntKind.u64.wrap (0 + 1) = 1 by decide]
  refine gstore (g := 1) (p := 2) (b := 3) w hw hk8 S rfl rfl rfl (by decide) M hb (k := 2) (by decide) (by decide) (by decide) (by decide) (fun bs mk gg M S => ?_)
  simp only [List.set] at S
  unfold zf49.j12
  rw [show IntKind.u64.wrap (IntKind.i64.wrap (0 + 1)) = 1 by decide]
  refine gstore (g := 1) (p := 2) (b := 3) w hw hk8 S rfl rfl rfl (by decide) M hb (k := 3) (by decide) (by decide) (by decide) (by decide) (fun bs mk gg M S => ?_)
  simp only [List.set] at S
  unfold zf49.j2
  simp only [w64_0, w64_1, w64_2, w64_3, w64_4, w64_5, w64_6, w64_7, w64_8, w64_9, w64_10, w64_11, w64_12, w64_13, w64_14, w64_15, w64_16, w64_17, w64_18, w64_19]
  refine HI _ _ _ _ _ ?_
  unfold zf49.b1
  repeat (first | ((with_reducible first|apply St.rI|apply St.rB|apply St.rP|apply St.rSl|apply St.rV|apply St.rM|apply St.rS|apply St.rN|apply St.ckA);assumption;(first|exact i0|exact i1|exact i2|exact i3|exact i4|exact i5|exact i6|exact i7|exact i8|exact i9|exact i10|exact i11|exact i12|exact i13|exact i14|exact i15);(first|rfl|exact Nat.le_of_ble_eq_true rfl)) | with_reducible refine der_of ?_ | ((with_reducible refine br_t ?_ ?_);rfl) | ((with_reducible refine br_f ?_ ?_);rfl) | ((with_reducible refine br_t ?_ ?_);assumption) | ((with_reducible refine br_f ?_ ?_);assumption) | ((with_reducible first|apply St.wrL|apply St.wr);assumption;(first|exact i0|exact i1|exact i2|exact i3|exact i4|exact i5|exact i6|exact i7|exact i8|exact i9|exact i10|exact i11|exact i12|exact i13|exact i14|exact i15);(first|exact Nat.le_of_ble_eq_true rfl|rfl);intro g_ S_;simp only [Ptr.add, List.set, splice, List.take, List.drop, List.nil_append, List.append_nil, List.cons_append, List.length_cons, List.length_nil, Nat.zero_add, Nat.add_zero, Nat.reduceAdd, Nat.reduceMul, Nat.mul_one, Int.toNat_zero, Int.toNat_one, Int.reduceToNat] at S_) | ((with_reducible refine ix_of ?_ ?_ ?_);exact of_decide_eq_true rfl;exact of_decide_eq_true rfl) | ((with_reducible first|refine nz_of ?_ ?_|refine nneg_of ?_ ?_);exact of_decide_eq_true rfl) | ((with_reducible refine chk_of ?_ ?_);rfl) | (with_reducible first|apply asI_of|apply asB_of|apply asP_of|apply asSl_of|apply asAggV_of|apply asTupV_of|apply asCons_of|apply asNil_of|apply isNil_n|apply isNil_i|apply nilC_i|apply nilCU_i|apply nilCU_f|apply mthC_i) | ((with_reducible refine And.intro ?_ ?_);rfl) | ((with_reducible apply exAnd);rfl))
  have two : ∀ f : Int, IntKind.u64.wrap (f + 1) = fl1 w1 → zf49.j6 U I (some ⟨gb, 0⟩) (c : Int) ⟨some ⟨pb, 0⟩, 3, 3⟩ 1 f Q gg := by
    intro f hf
    unfold zf49.j6
    repeat (first | ((with_reducible first|apply St.rI|apply St.rB|apply St.rP|apply St.rSl|apply St.rV|apply St.rM|apply St.rS|apply St.rN|apply St.ckA);assumption;(first|exact i0|exact i1|exact i2|exact i3|exact i4|exact i5|exact i6|exact i7|exact i8|exact i9|exact i10|exact i11|exact i12|exact i13|exact i14|exact i15);(first|rfl|exact Nat.le_of_ble_eq_true rfl)) | with_reducible refine der_of ?_ | ((with_reducible refine br_t ?_ ?_);rfl) | ((with_reducible refine br_f ?_ ?_);rfl) | ((with_reducible refine br_t ?_ ?_);assumption) | ((with_reducible refine br_f ?_ ?_);assumption) | ((with_reducible first|apply St.wrL|apply St.wr);assumption;(first|exact i0|exact i1|exact i2|exact i3|exact i4|exact i5|exact i6|exact i7|exact i8|exact i9|exact i10|exact i11|exact i12|exact i13|exact i14|exact i15);(first|exact Nat.le_of_ble_eq_true rfl|rfl);intro g_ S_;simp only [Ptr.add, List.set, splice, List.take, List.drop, List.nil_append, List.append_nil, List.cons_append, List.length_cons, List.length_nil, Nat.zero_add, Nat.add_zero, Nat.reduceAdd, Nat.reduceMul, Nat.mul_one, Int.toNat_zero, Int.toNat_one, Int.reduceToNat] at S_) | ((with_reducible refine ix_of ?_ ?_ ?_);exact of_decide_eq_true rfl;exact of_decide_eq_true rfl) | ((with_reducible first|refine nz_of ?_ ?_|refine nneg_of ?_ ?_);exact of_decide_eq_true rfl) | ((with_reducible refine chk_of ?_ ?_);rfl) | (with_reducible first|apply asI_of|apply asB_of|apply asP_of|apply asSl_of|apply asAggV_of|apply asTupV_of|apply asCons_of|apply asNil_of|apply isNil_n|apply isNil_i|apply nilC_i|apply nilCU_i|apply nilCU_f|apply mthC_i) | ((with_reducible refine And.intro ?_ ?_);rfl) | ((with_reducible apply exAnd);rfl))
    unfold zf49.j8
    repeat (first | ((with_reducible first|apply St.rI|apply St.rB|apply St.rP|apply St.rSl|apply St.rV|apply St.rM|apply St.rS|apply St.rN|apply St.ckA);assumption;(first|exact i0|exact i1|exact i2|exact i3|exact i4|exact i5|exact i6|exact i7|exact i8|exact i9|exact i10|exact i11|exact i12|exact i13|exact i14|exact i15);(first|rfl|exact Nat.le_of_ble_eq_true rfl)) | with_reducible refine der_of ?_ | ((with_reducible refine br_t ?_ ?_);rfl) | ((with_reducible refine br_f ?_ ?_);rfl) | ((with_reducible refine br_t ?_ ?_);assumption) | ((with_reducible refine br_f ?_ ?_);assumption) | ((with_reducible first|apply St.wrL|apply St.wr);assumption;(first|exact i0|exact i1|exact i2|exact i3|exact i4|exact i5|exact i6|exact i7|exact i8|exact i9|exact i10|exact i11|exact i12|exact i13|exact i14|exact i15);(first|exact Nat.le_of_ble_eq_true rfl|rfl);intro g_ S_;simp only [Ptr.add, List.set, splice, List.take, List.drop, List.nil_append, List.append_nil, List.cons_append, List.length_cons, List.length_nil, Nat.zero_add, Nat.add_zero, Nat.reduceAdd, Nat.reduceMul, Nat.mul_one, Int.toNat_zero, Int.toNat_one, Int.reduceToNat] at S_) | ((with_reducible refine ix_of ?_ ?_ ?_);exact of_decide_eq_true rfl;exact of_decide_eq_true rfl) | ((with_reducible first|refine nz_of ?_ ?_|refine nneg_of ?_ ?_);exact of_decide_eq_true rfl) | ((with_reducible refine chk_of ?_ ?_);rfl) | (with_reducible first|apply asI_of|apply asB_of|apply asP_of|apply asSl_of|apply asAggV_of|apply asTupV_of|apply asCons_of|apply asNil_of|apply isNil_n|apply isNil_i|apply nilC_i|apply nilCU_i|apply nilCU_f|apply mthC_i) | ((with_reducible refine And.intro ?_ ?_);rfl) | ((with_reducible apply exAnd);rfl))
    refine gstore (g := 1) (p := 2) (b := 3) w hw hk8 S rfl rfl rfl (by decide) M hb (k := 4) (by decide) (by decide) r1.1 (by omega) (fun bs mk gg M S => ?_)
    simp only [List.set] at S
    repeat (first | ((with_reducible first|apply St.rI|apply St.rB|apply St.rP|apply St.rSl|apply St.rV|apply St.rM|apply St.rS|apply St.rN|apply St.ckA);assumption;(first|exact i0|exact i1|exact i2|exact i3|exact i4|exact i5|exact i6|exact i7|exact i8|exact i9|exact i10|exact i11|exact i12|exact i13|exact i14|exact i15);(first|rfl|exact Nat.le_of_ble_eq_true rfl)) | with_reducible refine der_of ?_ | ((with_reducible refine br_t ?_ ?_);rfl) | ((with_reducible refine br_f ?_ ?_);rfl) | ((with_reducible refine br_t ?_ ?_);assumption) | ((with_reducible refine br_f ?_ ?_);assumption) | ((with_reducible first|apply St.wrL|apply St.wr);assumption;(first|exact i0|exact i1|exact i2|exact i3|exact i4|exact i5|exact i6|exact i7|exact i8|exact i9|exact i10|exact i11|exact i12|exact i13|exact i14|exact i15);(first|exact Nat.le_of_ble_eq_true rfl|rfl);intro g_ S_;simp only [Ptr.add, List.set, splice, List.take, List.drop, List.nil_append, List.append_nil, List.cons_append, List.length_cons, List.length_nil, Nat.zero_add, Nat.add_zero, Nat.reduceAdd, Nat.reduceMul, Nat.mul_one, Int.toNat_zero, Int.toNat_one, Int.reduceToNat] at S_) | ((with_reducible refine ix_of ?_ ?_ ?_);exact of_decide_eq_true rfl;exact of_decide_eq_true rfl) | ((with_reducible first|refine nz_of ?_ ?_|refine nneg_of ?_ ?_);exact of_decide_eq_true rfl) | ((with_reducible refine chk_of ?_ ?_);rfl) | (with_reducible first|apply asI_of|apply asB_of|apply asP_of|apply asSl_of|apply asAggV_of|apply asTupV_of|apply asCons_of|apply asNil_of|apply isNil_n|apply isNil_i|apply nilC_i|apply nilCU_i|apply nilCU_f|apply mthC_i) | ((with_reducible refine And.intro ?_ ?_);rfl) | ((with_reducible apply exAnd);rfl))
    rw [f2]
    refine gstore (g := 1) (p := 2) (b := 3) w hw hk8 S rfl rfl rfl (by decide) M hb (k := 5) (by decide) (by decide) q1.1 (by omega) (fun bs mk gg M S => ?_)
    simp only [List.set] at S
    rw [hf]
    refine gstore (g := 1) (p := 2) (b := 3) w hw hk8 S rfl rfl rfl (by decide) M hb (k := 6) (by decide) (by decide) (fl1_ok w1).1.1 (by have := (fl1_ok w1).1.2; omega) (fun bs mk gg M S => ?_)
    simp only [List.set] at S
    unfold zf49.j12
    rw [show IntKind.u64.wrap (IntKind.i64.wrap (1 + 1)) = 2 by decide]
    refine gstore (g := 1) (p := 2) (b := 3) w hw hk8 S rfl rfl rfl (by decide) M hb (k := 7) (by decide) (by decide) (by decide) (by decide) (fun bs mk gg M S => ?_)
    simp only [List.set] at S
    unfold zf49.j2
    simp only [w64_0, w64_1, w64_2, w64_3, w64_4, w64_5, w64_6, w64_7, w64_8, w64_9, w64_10, w64_11, w64_12, w64_13, w64_14, w64_15, w64_16, w64_17, w64_18, w64_19]
    refine HI _ _ _ _ _ ?_
    unfold zf49.b1
    repeat (first | ((with_reducible first|apply St.rI|apply St.rB|apply St.rP|apply St.rSl|apply St.rV|apply St.rM|apply St.rS|apply St.rN|apply St.ckA);assumption;(first|exact i0|exact i1|exact i2|exact i3|exact i4|exact i5|exact i6|exact i7|exact i8|exact i9|exact i10|exact i11|exact i12|exact i13|exact i14|exact i15);(first|rfl|exact Nat.le_of_ble_eq_true rfl)) | with_reducible refine der_of ?_ | ((with_reducible refine br_t ?_ ?_);rfl) | ((with_reducible refine br_f ?_ ?_);rfl) | ((with_reducible refine br_t ?_ ?_);assumption) | ((with_reducible refine br_f ?_ ?_);assumption) | ((with_reducible first|apply St.wrL|apply St.wr);assumption;(first|exact i0|exact i1|exact i2|exact i3|exact i4|exact i5|exact i6|exact i7|exact i8|exact i9|exact i10|exact i11|exact i12|exact i13|exact i14|exact i15);(first|exact Nat.le_of_ble_eq_true rfl|rfl);intro g_ S_;simp only [Ptr.add, List.set, splice, List.take, List.drop, List.nil_append, List.append_nil, List.cons_append, List.length_cons, List.length_nil, Nat.zero_add, Nat.add_zero, Nat.reduceAdd, Nat.reduceMul, Nat.mul_one, Int.toNat_zero, Int.toNat_one, Int.reduceToNat] at S_) | ((with_reducible refine ix_of ?_ ?_ ?_);exact of_decide_eq_true rfl;exact of_decide_eq_true rfl) | ((with_reducible first|refine nz_of ?_ ?_|refine nneg_of ?_ ?_);exact of_decide_eq_true rfl) | ((with_reducible refine chk_of ?_ ?_);rfl) | (with_reducible first|apply asI_of|apply asB_of|apply asP_of|apply asSl_of|apply asAggV_of|apply asTupV_of|apply asCons_of|apply asNil_of|apply isNil_n|apply isNil_i|apply nilC_i|apply nilCU_i|apply nilCU_f|apply mthC_i) | ((with_reducible refine And.intro ?_ ?_);rfl) | ((with_reducible apply exAnd);rfl))
    unfold zf49.j6
    repeat (first | ((with_reducible first|apply St.rI|apply St.rB|apply St.rP|apply St.rSl|apply St.rV|apply St.rM|apply St.rS|apply St.rN|apply St.ckA);assumption;(first|exact i0|exact i1|exact i2|exact i3|exact i4|exact i5|exact i6|exact i7|exact i8|exact i9|exact i10|exact i11|exact i12|exact i13|exact i14|exact i15);(first|rfl|exact Nat.le_of_ble_eq_true rfl)) | with_reducible refine der_of ?_ | ((with_reducible refine br_t ?_ ?_);rfl) | ((with_reducible refine br_f ?_ ?_);rfl) | ((with_reducible refine br_t ?_ ?_);assumption) | ((with_reducible refine br_f ?_ ?_);assumption) | ((with_reducible first|apply St.wrL|apply St.wr);assumption;(first|exact i0|exact i1|exact i2|exact i3|exact i4|exact i5|exact i6|exact i7|exact i8|exact i9|exact i10|exact i11|exact i12|exact i13|exact i14|exact i15);(first|exact Nat.le_of_ble_eq_true rfl|rfl);intro g_ S_;simp only [Ptr.add, List.set, splice, List.take, List.drop, List.nil_append, List.append_nil, List.cons_append, List.length_cons, List.length_nil, Nat.zero_add, Nat.add_zero, Nat.reduceAdd, Nat.reduceMul, Nat.mul_one, Int.toNat_zero, Int.toNat_one, Int.reduceToNat] at S_) | ((with_reducible refine ix_of ?_ ?_ ?_);exact of_decide_eq_true rfl;exact of_decide_eq_true rfl) | ((with_reducible first|refine nz_of ?_ ?_|refine nneg_of ?_ ?_);exact of_decide_eq_true rfl) | ((with_reducible refine chk_of ?_ ?_);rfl) | (with_reducible first|apply asI_of|apply asB_of|apply asP_of|apply asSl_of|apply asAggV_of|apply asTupV_of|apply asCons_of|apply asNil_of|apply isNil_n|apply isNil_i|apply nilC_i|apply nilCU_i|apply nilCU_f|apply mthC_i) | ((with_reducible refine And.intro ?_ ?_);rfl) | ((with_reducible apply exAnd);rfl))
    unfold zf49.j8
    repeat (first | ((with_reducible first|apply St.rI|apply St.rB|apply St.rP|apply St.rSl|apply St.rV|apply St.rM|apply St.rS|apply St.rN|apply St.ckA);assumption;(first|exact i0|exact i1|exact i2|exact i3|exact i4|exact i5|exact i6|exact i7|exact i8|exact i9|exact i10|exact i11|exact i12|exact i13|exact i14|exact i15);(first|rfl|exact Nat.le_of_ble_eq_true rfl)) | with_reducible refine der_of ?_ | ((with_reducible refine br_t ?_ ?_);rfl) | ((with_reducible refine br_f ?_ ?_);rfl) | ((with_reducible refine br_t ?_ ?_);assumption) | ((with_reducible refine br_f ?_ ?_);assumption) | ((with_reducible first|apply St.wrL|apply St.wr);assumption;(first|exact i0|exact i1|exact i2|exact i3|exact i4|exact i5|exact i6|exact i7|exact i8|exact i9|exact i10|exact i11|exact i12|exact i13|exact i14|exact i15);(first|exact Nat.le_of_ble_eq_true rfl|rfl);intro g_ S_;simp only [Ptr.add, List.set, splice, List.take, List.drop, List.nil_append, List.append_nil, List.cons_append, List.length_cons, List.length_nil, Nat.zero_add, Nat.add_zero, Nat.reduceAdd, Nat.reduceMul, Nat.mul_one, Int.toNat_zero, Int.toNat_one, Int.reduceToNat] at S_) | ((with_reducible refine ix_of ?_ ?_ ?_);exact of_decide_eq_true rfl;exact of_decide_eq_true rfl) | ((with_reducible first|refine nz_of ?_ ?_|refine nneg_of ?_ ?_);exact of_decide_eq_true rfl) | ((with_reducible refine chk_of ?_ ?_);rfl) | (with_reducible first|apply asI_of|apply asB_of|apply asP_of|apply asSl_of|apply asAggV_of|apply asTupV_of|apply asCons_of|apply asNil_of|apply isNil_n|apply isNil_i|apply nilC_i|apply nilCU_i|apply nilCU_f|apply mthC_i) | ((with_reducible refine And.intro ?_ ?_);rfl) | ((with_reducible apply exAnd);rfl))
    refine gstore (g := 1) (p := 2) (b := 3) w hw hk8 S rfl rfl rfl (by decide) M hb (k := 8) (by decide) (by decide) r2.1 (by omega) (fun bs mk gg M S => ?_)
    simp only [List.set] at S
    repeat (first | ((with_reducible first|apply St.rI|apply St.rB|apply St.rP|apply St.rSl|apply St.rV|apply St.rM|apply St.rS|apply St.rN|apply St.ckA);assumption;(first|exact i0|exact i1|exact i2|exact i3|exact i4|exact i5|exact i6|exact i7|exact i8|exact i9|exact i10|exact i11|exact i12|exact i13|exact i14|exact i15);(first|rfl|exact Nat.le_of_ble_eq_true rfl)) | with_reducible refine der_of ?_ | ((with_reducible refine br_t ?_ ?_);rfl) | ((with_reducible refine br_f ?_ ?_);rfl) | ((with_reducible refine br_t ?_ ?_);assumption) | ((with_reducible refine br_f ?_ ?_);assumption) | ((with_reducible first|apply St.wrL|apply St.wr);assumption;(first|exact i0|exact i1|exact i2|exact i3|exact i4|exact i5|exact i6|exact i7|exact i8|exact i9|exact i10|exact i11|exact i12|exact i13|exact i14|exact i15);(first|exact Nat.le_of_ble_eq_true rfl|rfl);intro g_ S_;simp only [Ptr.add, List.set, splice, List.take, List.drop, List.nil_append, List.append_nil, List.cons_append, List.length_cons, List.length_nil, Nat.zero_add, Nat.add_zero, Nat.reduceAdd, Nat.reduceMul, Nat.mul_one, Int.toNat_zero, Int.toNat_one, Int.reduceToNat] at S_) | ((with_reducible refine ix_of ?_ ?_ ?_);exact of_decide_eq_true rfl;exact of_decide_eq_true rfl) | ((with_reducible first|refine nz_of ?_ ?_|refine nneg_of ?_ ?_);exact of_decide_eq_true rfl) | ((with_reducible refine chk_of ?_ ?_);rfl) | (with_reducible first|apply asI_of|apply asB_of|apply asP_of|apply asSl_of|apply asAggV_of|apply asTupV_of|apply asCons_of|apply asNil_of|apply isNil_n|apply isNil_i|apply nilC_i|apply nilCU_i|apply nilCU_f|apply mthC_i) | ((with_reducible refine And.intro ?_ ?_);rfl) | ((with_reducible apply exAnd);rfl))
    rw [f3]
    refine gstore (g := 1) (p := 2) (b := 3) w hw hk8 S rfl rfl rfl (by decide) M hb (k := 9) (by decide) (by decide) q2.1 (by omega) (fun bs mk gg M S => ?_)
    simp only [List.set] at S
    refine gstore (g := 1) (p := 2) (b := 3) w hw hk8 S rfl rfl rfl (by decide) M hb (k := 10) (by decide) (by decide) (by decide) (by decide) (fun bs mk gg M S => ?_)
    simp only [List.set] at S
    unfold zf49.j12
    rw [show IntKind.u64.wrap (IntKind.i64.wrap (2 + 1)) = 3 by decide]
    refine gstore (g := 1) (p := 2) (b := 3) w hw hk8 S rfl rfl rfl (by decide) M hb (k := 11) (by decide) (by decide) (by decide) (by decide) (fun bs mk gg M S => ?_)
    simp only [List.set] at S
    unfold zf49.j2
    simp only [w64_0, w64_1, w64_2, w64_3, w64_4, w64_5, w64_6, w64_7, w64_8, w64_9, w64_10, w64_11, w64_12, w64_13, w64_14, w64_15, w64_16, w64_17, w64_18, w64_19]
    refine HI _ _ _ _ _ ?_
    unfold zf49.b1
    repeat (first | ((with_reducible first|apply St.rI|apply St.rB|apply St.rP|apply St.rSl|apply St.rV|apply St.rM|apply St.rS|apply St.rN|apply St.ckA);assumption;(first|exact i0|exact i1|exact i2|exact i3|exact i4|exact i5|exact i6|exact i7|exact i8|exact i9|exact i10|exact i11|exact i12|exact i13|exact i14|exact i15);(first|rfl|exact Nat.le_of_ble_eq_true rfl)) | with_reducible refine der_of ?_ | ((with_reducible refine br_t ?_ ?_);rfl) | ((with_reducible refine br_f ?_ ?_);rfl) | ((with_reducible refine br_t ?_ ?_);assumption) | ((with_reducible refine br_f ?_ ?_);assumption) | ((with_reducible first|apply St.wrL|apply St.wr);assumption;(first|exact i0|exact i1|exact i2|exact i3|exact i4|exact i5|exact i6|exact i7|exact i8|exact i9|exact i10|exact i11|exact i12|exact i13|exact i14|exact i15);(first|exact Nat.le_of_ble_eq_true rfl|rfl);intro g_ S_;simp only [Ptr.add, List.set, splice, List.take, List.drop, List.nil_append, List.append_nil, List.cons_append, List.length_cons, List.length_nil, Nat.zero_add, Nat.add_zero, Nat.reduceAdd, Nat.reduceMul, Nat.mul_one, Int.toNat_zero, Int.toNat_one, Int.reduceToNat] at S_) | ((with_reducible refine ix_of ?_ ?_ ?_);exact of_decide_eq_true rfl;exact of_decide_eq_true rfl) | ((with_reducible first|refine nz_of ?_ ?_|refine nneg_of ?_ ?_);exact of_decide_eq_true rfl) | ((with_reducible refine chk_of ?_ ?_);rfl) | (with_reducible first|apply asI_of|apply asB_of|apply asP_of|apply asSl_of|apply asAggV_of|apply asTupV_of|apply asCons_of|apply asNil_of|apply isNil_n|apply isNil_i|apply nilC_i|apply nilCU_i|apply nilCU_f|apply mthC_i) | ((with_reducible refine And.intro ?_ ?_);rfl) | ((with_reducible apply exAnd);rfl))
    have ead : IntKind.u64.wrap (264 + IntKind.u64.wrap (8 * IntKind.u64.wrap ((c : Int).tmod 8))) = ((8 * (33 + c % 8) : Nat) : Int) := by
      rw [Int.tmod_eq_emod_of_nonneg (by omega), wrapu64 (x := (c : Int) % 8), wrapu64 (x := 8 * ((c : Int) % 8)), wrapu64] <;> omega
    refine gstore (g := 1) (p := 2) (b := 3) w hw hk8 S rfl rfl rfl (by decide) M hb (k := 33 + c % 8) (by omega) ead (by decide) (by decide) (fun bs mk gg M S => ?_)
    simp only [List.set] at S
    have ecn : IntKind.u64.wrap (IntKind.i64.wrap ((c : Int) + 1)) = ((c + 1 : Nat) : Int) := by rw [wrap64 (x := (c : Int) + 1), wrapu64] <;> omega
    rw [ecn]
    refine gstore (g := 1) (p := 2) (b := 3) w hw hk8 S rfl rfl rfl (by decide) M hb (k := 32) (by decide) (by decide) (by omega) (by omega) (fun bs mk gg M S => ?_)
    simp only [List.set] at S
    exact hq bs mk _ M S
  cases w1
  · repeat (first | ((with_reducible first|apply St.rI|apply St.rB|apply St.rP|apply St.rSl|apply St.rV|apply St.rM|apply St.rS|apply St.rN|apply St.ckA);assumption;(first|exact i0|exact i1|exact i2|exact i3|exact i4|exact i5|exact i6|exact i7|exact i8|exact i9|exact i10|exact i11|exact i12|exact i13|exact i14|exact i15);(first|rfl|exact Nat.le_of_ble_eq_true rfl)) | with_reducible refine der_of ?_ | ((with_reducible refine br_t ?_ ?_);rfl) | ((with_reducible refine br_f ?_ ?_);rfl) | ((with_reducible refine br_t ?_ ?_);assumption) | ((with_reducible refine br_f ?_ ?_);assumption) | ((with_reducible first|apply St.wrL|apply St.wr);assumption;(first|exact i0|exact i1|exact i2|exact i3|exact i4|exact i5|exact i6|exact i7|exact i8|exact i9|exact i10|exact i11|exact i12|exact i13|exact i14|exact i15);(first|exact Nat.le_of_ble_eq_true rfl|rfl);intro g_ S_;simp only [Ptr.add, List.set, splice, List.take, List.drop, List.nil_append, List.append_nil, List.cons_append, List.length_cons, List.length_nil, Nat.zero_add, Nat.add_zero, Nat.reduceAdd, Nat.reduceMul, Nat.mul_one, Int.toNat_zero, Int.toNat_one, Int.reduceToNat] at S_) | ((with_reducible refine ix_of ?_ ?_ ?_);exact of_decide_eq_true rfl;exact of_decide_eq_true rfl) | ((with_reducible first|refine nz_of ?_ ?_|refine nneg_of ?_ ?_);exact of_decide_eq_true rfl) | ((with_reducible refine chk_of ?_ ?_);rfl) | (with_reducible first|apply asI_of|apply asB_of|apply asP_of|apply asSl_of|apply asAggV_of|apply asTupV_of|apply asCons_of|apply asNil_of|apply isNil_n|apply isNil_i|apply nilC_i|apply nilCU_i|apply nilCU_f|apply mthC_i) | ((with_reducible refine And.intro ?_ ?_);rfl) | ((with_reducible apply exAnd);rfl))
    exact two 0 rfl
  · repeat (first | ((with_reducible first|apply St.rI|apply St.rB|apply St.rP|apply St.rSl|apply St.rV|apply St.rM|apply St.rS|apply St.rN|apply St.ckA);assumption;(first|exact i0|exact i1|exact i2|exact i3|exact i4|exact i5|exact i6|exact i7|exact i8|exact i9|exact i10|exact i11|exact i12|exact i13|exact i14|exact i15);(first|rfl|exact Nat.le_of_ble_eq_true rfl)) | with_reducible refine der_of ?_ | ((with_reducible refine br_t ?_ ?_);rfl) | ((with_reducible refine br_f ?_ ?_);rfl) | ((with_reducible refine br_t ?_ ?_);assumption) | ((with_reducible refine br_f ?_ ?_);assumption) | ((with_reducible first|apply St.wrL|apply St.wr);assumption;(first|exact i0|exact i1|exact i2|exact i3|exact i4|exact i5|exact i6|exact i7|exact i8|exact i9|exact i10|exact i11|exact i12|exact i13|exact i14|exact i15);(first|exact Nat.le_of_ble_eq_true rfl|rfl);intro g_ S_;simp only [Ptr.add, List.set, splice, List.take, List.drop, List.nil_append, List.append_nil, List.cons_append, List.length_cons, List.length_nil, Nat.zero_add, Nat.add_zero, Nat.reduceAdd, Nat.reduceMul, Nat.mul_one, Int.toNat_zero, Int.toNat_one, Int.reduceToNat] at S_) | ((with_reducible refine ix_of ?_ ?_ ?_);exact of_decide_eq_true rfl;exact of_decide_eq_true rfl) | ((with_reducible first|refine nz_of ?_ ?_|refine nneg_of ?_ ?_);exact of_decide_eq_true rfl) | ((with_reducible refine chk_of ?_ ?_);rfl) | (with_reducible first|apply asI_of|apply asB_of|apply asP_of|apply asSl_of|apply asAggV_of|apply asTupV_of|apply asCons_of|apply asNil_of|apply isNil_n|apply isNil_i|apply nilC_i|apply nilCU_i|apply nilCU_f|apply mthC_i) | ((with_reducible refine And.intro ?_ ?_);rfl) | ((with_reducible apply exAnd);rfl))
    exact two 2 rfl

end
end Go.Back

set_option linter.unusedSimpArgs false
set_option linter.unusedVariables false
set_option maxRecDepth 100000
namespace Go.Back
open Go.Lift Go.Fn Go.Mem Go.Frames

theorem shl8 {v x : Nat} (hv : v < 72057594037927936) (hx : x < 256) : ibits .or .u64 (shlI .u64 (v : Int) 8) (x : Int) = ((x + 256 * v : Nat) : Int) := by
  have e : shlI .u64 (v : Int) 8 = ((v * 256 : Nat) : Int) := by
    unfold shlI
    have : (v : Int) * 2 ^ min ((8 : Int)).toNat IntKind.u64.bits = ((v * 256 : Nat) : Int) := by
      have h8 : min ((8 : Int)).toNat IntKind.u64.bits = 8 := by decide
      rw [h8]; push_cast; rfl
    rw [this, wrapu64] <;> omega
  rw [e, or_u64 (by omega) (by omega)]
  have := Nat.shiftLeft_add_eq_or_of_lt (show x < 2 ^ 8 by omega) v
  rw [Nat.shiftLeft_eq] at this
  rw [show (256 : Nat) = 2 ^ 8 by decide, ← this]
  congr 1; omega

theorem byteSum_le8 : ∀ l : List UInt8, byteSum l < 256 ^ l.length
  | [] => by simp [byteSum]
  | b :: l => by
    have := byteSum_le8 l
    have hb : b.toNat < 256 := b.toNat_lt
    simp only [byteSum, List.length_cons, Nat.pow_succ]
    omega

theorem num8 {h : Heap} {s : Sl} {l : List UInt8} (H : Held h s 1 (strCells l)) (hl : 8 ≤ l.length) {Q : Int → Heap → Prop} (hq : Q ((byteSum (l.take 8) : Nat) : Int) h) : zf7 s Q h := by
  unfold zf7 zf7.j2
  intro I HI
  have hlen : s.len = l.length := by have := H.len; rw [strCells_length] at this; omega
  obtain ⟨p, hp⟩ : ∃ p, s.p = some p := by
    cases hp : s.p with
    | none => have := H.nil hp; omega
    | some p => exact ⟨p, rfl⟩
  have key : ∀ (k : Nat) (v : Int), k ≤ 8 → v = ((byteSum ((l.take 8).drop k) : Nat) : Int) → I s v ((k : Int) - 1) h := by
    intro k
    induction k with
    | zero =>
      intro v hk hv
      refine HI _ _ _ _ ?_
      unfold zf7.b2
      refine br_f (by simp) ?_
      rw [hv]
      exact hq
    | succ k ih =>
      intro v hk hv
      refine HI _ _ _ _ ?_
      unfold zf7.b2
      have hkl : k < l.length := by omega
      have hget : l[k]? = some l[k] := List.getElem?_eq_getElem hkl
      refine br_t (decide_eq_true (by omega)) (nneg_of (by decide) (ix_of (by omega) (by omega) ?_))
      rw [hp, der_some]
      have ek : (((k + 1 : Nat) : Int) - 1).toNat = k := by omega
      rw [ek]
      refine rdI_of (x := (l[k].toNat : Int)) (by rw [Nat.mul_one]; exact H.row p hp k _ (by rw [strCells_get, hget]; rfl)) ?_
      have eu : IntKind.u64.wrap (l[k].toNat : Int) = l[k].toNat := by have := l[k].toNat_lt; rw [wrapu64] <;> omega
      have ew : IntKind.i64.wrap (((k + 1 : Nat) : Int) - 1 - 1) = (k : Int) - 1 := by rw [wrap64] <;> omega
      have hd : (l.take 8).drop k = l[k] :: (l.take 8).drop (k + 1) := by
        have hk8 : k < (l.take 8).length := by simp; omega
        rw [List.drop_eq_getElem_cons hk8]
        congr 1
        simp
      have hlt : byteSum ((l.take 8).drop (k + 1)) < 72057594037927936 := by
        have h1 := byteSum_le8 ((l.take 8).drop (k + 1))
        have h2 : ((l.take 8).drop (k + 1)).length ≤ 7 := by simp; omega
        have h3 : (256 : Nat) ^ ((l.take 8).drop (k + 1)).length ≤ 256 ^ 7 := Nat.pow_le_pow_right (by decide) h2
        have : (256 : Nat) ^ 7 = 72057594037927936 := by decide
        omega
      rw [eu, ew, hv, shl8 hlt l[k].toNat_lt]
      refine ih _ (by omega) ?_
      rw [hd]
      rfl
  exact key 8 0 (by decide) (by rw [List.drop_eq_nil_of_le (by simp; omega)]; rfl)

section
variable {U U' : Ifc} {x : Nat → Int} {h0 h : Heap} {W : Nat → Prop} {L : List (Nat × HO)}

/-- A guest's bytes are read: a fresh copy. -/
theorem gbytes {gb pm bm g p b base k n : Nat} {bs : List UInt8} {mk : Bool} {m : Nat → Int} (S : St h0 W L h)
    (hg : L[g]? = some (gb, .cells (flatC pm (base : Int)) false)) (hp : L[p]? = some (pm, .cells (memC bm) false)) (hm : L[b]? = some (bm, .cells (strCells bs) mk)) (hpb : p ≠ b) (M : MemIs bs base m) (hb : base + 16 ≤ 40) (hk : k + n ≤ 4096) {a n' : Int} (ea : a = (k : Int)) (en : n' = (n : Int))
    {Q : Sl → Int → Heap → Prop} (hq : ∀ s cb rest mk' h', St h0 W ((cb, .cells (strCells ((bs.drop (256 * base + k)).take n) ++ rest) mk') :: L) h' → s.p = some ⟨cb, 0⟩ → s.len = n → n ≤ s.cap → Q s 0 h') : zf42 (some ⟨gb, 0⟩) a n' Q h := by
  subst ea en
  have e16 : IntKind.u64.wrap (IntKind.i64.wrap (256 * 16)) = 4096 := by decide
  unfold zf42
  refine br_f (decide_eq_false (by omega)) ?_
  rw [der_some]
  refine S.rI hg rfl (br_f (decide_eq_false (by rw [e16]; omega)) ?_)
  rw [der_some]
  refine S.rI hg rfl (br_f (decide_eq_false (by rw [e16, wrapu64 (x := (n : Int)), wrapu64] <;> omega)) ?_)
  unfold zf42.j3
  rw [der_some]
  refine S.rP hg rfl ?_
  rw [der_some]
  refine S.rI hg rfl ?_
  have e : IntKind.u64.wrap ((k : Int) + IntKind.u64.wrap (IntKind.i64.wrap (256 * (base : Int)))) = ((256 * base + k : Nat) : Int) := by
    rw [wrap64 (x := 256 * (base : Int)), wrapu64 (x := 256 * (base : Int)), wrapu64] <;> omega
  rw [e]
  have hl := M.len
  refine Bytes_of (mrep S hp hm hpb M.len) (by omega) (by omega) (by omega) (by omega) (fun hn => absurd hn (by omega)) (fun _ hn => ?_) (fun _ _ _ s g1 cb O hs hcb k1 => ?_)
  · exfalso
    rw [hl] at hn
    simp [lies] at hn
    omega
  · obtain ⟨rest, mk', ho, _⟩ := O.obj
    rw [Int.toNat_natCast, Int.toNat_natCast] at ho
    rw [Int.toNat_natCast] at hs
    exact hq s cb rest mk' g1 (S.more hcb ho k1) O.p hs (by have := O.cap; omega)

end
end Go.Back

set_option linter.unusedSimpArgs false
set_option linter.unusedVariables false
set_option maxRecDepth 100000
namespace Go.Back
open Go.Lift Go.Fn Go.Mem Go.Frames

def blkC (rg db fb wq : Nat) (first blocks owner asked : Int) : List V := [.ptr (some ⟨rg, 0⟩), .ptr (some ⟨db, 0⟩), .int .i64 first, .int .i64 blocks, .ptr (some ⟨fb, 0⟩), .int .i64 owner, .int .i64 asked, .map (some wq)]

section
variable {U U' : Ifc} {x : Nat → Int} {h0 h : Heap} {W : Nat → Prop}

theorem ask_of (hu : GU U U') {cb blk rg db wq gb pm bm base fb tm wm c : Nat} {F : FS} {bt bw : List Nat} {ct cw : Nat} {bs : List UInt8} {mk mk' : Bool} {rest : List V} {m : Nat → Int} {kind block page asked first owner v : Int} (M : MemIs bs base m) (hb : base + 16 ≤ 40) (ok : A3ok F bt ct bw cw)
    (hkd : kind = 0 ∨ kind = 1) (hbl : 0 ≤ block ∧ block < 4) (hpg : 0 ≤ page ∧ page < 16) (hk : m 128 = kind) (hbk : m 129 = block) (hask : 0 ≤ asked ∧ asked ≤ 1000) (hown : owner = 1 ∨ owner = 2) (hf : 0 ≤ first ∧ first ≤ 100)
    (ht : ifind ((base : Int) + page) F.t = some (.int .i64 v)) (hv : v ≠ 0) (hw : ifind ((base : Int) + page) F.w = some (.int .i64 owner))
    (S : St h0 W [(cb, .cells (partsC 1024 16 (256 * page) 256 (kind == 0) 1100 1 ++ rest) mk'), (blk, .cells (blkC rg db fb wq first 4 owner asked) false), (gb, .cells (flatC pm (base : Int)) false), (pm, .cells (memC bm) false), (bm, .cells (strCells bs) mk), (fb, .cells (F.cells tm wm) false), (tm, .map (.int .i64) (ikeys .i64 F.t) bt ct), (wm, .map (.int .i64) (ikeys .i64 F.w) bw cw)] h)
    {Q : Int → Bool → Int → Int → Int → Heap → Prop} (hq : ∀ h', St h0 W [(cb, .cells (partsC 1024 16 (256 * page) 256 (kind == 0) 1100 1 ++ rest) mk'), (blk, .cells (blkC rg db fb wq first 4 owner asked) false), (gb, .cells (flatC pm (base : Int)) false), (pm, .cells (memC bm) false), (bm, .cells (strCells bs) mk), (fb, .cells (F.cells tm wm) false), (tm, .map (.int .i64) (ikeys .i64 F.t) bt ct), (wm, .map (.int .i64) (ikeys .i64 F.w) bw cw)] h' → Q (owner * 4294967296 + asked) (kind == 1) (first + block) ((base : Int) + page) 0 h') :
    zf3 U (some ⟨blk, 0⟩) (.iface 4 (.ptr (some ⟨gb, 0⟩))) 0 ⟨some ⟨cb, 0⟩, 3, c⟩ Q h := by
  unfold zf3
  ((with_reducible apply St.al); assumption; intro c1 g_ S_)
  ((with_reducible apply St.al); assumption; intro c2 g_ S_)
  repeat (first | ((with_reducible first|apply St.rI|apply St.rB|apply St.rP|apply St.rSl|apply St.rV|apply St.rM|apply St.rS|apply St.rN|apply St.ckA);assumption;(first|exact i0|exact i1|exact i2|exact i3|exact i4|exact i5|exact i6|exact i7|exact i8|exact i9|exact i10|exact i11|exact i12|exact i13|exact i14|exact i15);(first|rfl|exact Nat.le_of_ble_eq_true rfl)) | with_reducible refine der_of ?_ | ((with_reducible refine br_t ?_ ?_);rfl) | ((with_reducible refine br_f ?_ ?_);rfl) | ((with_reducible refine br_t ?_ ?_);assumption) | ((with_reducible refine br_f ?_ ?_);assumption) | ((with_reducible first|apply St.wrL|apply St.wr);assumption;(first|exact i0|exact i1|exact i2|exact i3|exact i4|exact i5|exact i6|exact i7|exact i8|exact i9|exact i10|exact i11|exact i12|exact i13|exact i14|exact i15);(first|exact Nat.le_of_ble_eq_true rfl|rfl);intro g_ S_;simp only [Ptr.add, List.set, splice, List.take, List.drop, List.nil_append, List.append_nil, List.cons_append, List.length_cons, List.length_nil, Nat.zero_add, Nat.add_zero, Nat.reduceAdd, Nat.reduceMul, Nat.mul_one, Int.toNat_zero, Int.toNat_one, Int.reduceToNat] at S_) | ((with_reducible refine ix_of ?_ ?_ ?_);exact of_decide_eq_true rfl;exact of_decide_eq_true rfl) | ((with_reducible first|refine nz_of ?_ ?_|refine nneg_of ?_ ?_);exact of_decide_eq_true rfl) | ((with_reducible refine chk_of ?_ ?_);rfl) | (with_reducible first|apply asI_of|apply asB_of|apply asP_of|apply asSl_of|apply asAggV_of|apply asTupV_of|apply asCons_of|apply asNil_of|apply isNil_n|apply isNil_i|apply nilC_i|apply nilCU_i|apply nilCU_f|apply mthC_i) | ((with_reducible refine And.intro ?_ ?_);rfl) | ((with_reducible apply exAnd);rfl))
  have fin : ∀ {L : List (Nat × HO)} {g : Heap} {p3 p4 p5 : Nat} (is : List Nat), St h0 W L g → is.Nodup → is.map (fun i => L[i]?) = [(c2, .cells [.int .i64 0, .bool false, .int .i64 0, .int .i64 0] false), (p3, .cells [.int .u64 1024, .int .i64 16, .bool false] false), (p4, .cells [.int .u64 (256 * page), .int .i64 256, .bool (kind == 0)] false), (p5, .cells [.int .u64 1100, .int .i64 1, .bool true] false), (cb, .cells (partsC 1024 16 (256 * page) 256 (kind == 0) 1100 1 ++ rest) mk'), (blk, .cells (blkC rg db fb wq first 4 owner asked) false), (gb, .cells (flatC pm (base : Int)) false), (pm, .cells (memC bm) false), (bm, .cells (strCells bs) mk), (fb, .cells (F.cells tm wm) false), (tm, .map (.int .i64) (ikeys .i64 F.t) bt ct), (wm, .map (.int .i64) (ikeys .i64 F.w) bw cw)].map some →
      zf3.j4 U (some ⟨blk, 0⟩) (.iface 4 (.ptr (some ⟨gb, 0⟩))) ⟨c2, 0⟩ ⟨p3, 0⟩ ⟨p4, 0⟩ ⟨p5, 0⟩ Q g := by
    intro L g p3 p4 p5 is SL hn he
    have S := SL.pick is hn he
    clear SL hn he
    unfold zf3.j4
    repeat (first | ((with_reducible first|apply St.rI|apply St.rB|apply St.rP|apply St.rSl|apply St.rV|apply St.rM|apply St.rS|apply St.rN|apply St.ckA);assumption;(first|exact i0|exact i1|exact i2|exact i3|exact i4|exact i5|exact i6|exact i7|exact i8|exact i9|exact i10|exact i11|exact i12|exact i13|exact i14|exact i15);(first|rfl|exact Nat.le_of_ble_eq_true rfl)) | with_reducible refine der_of ?_ | ((with_reducible refine br_t ?_ ?_);rfl) | ((with_reducible refine br_f ?_ ?_);rfl) | ((with_reducible refine br_t ?_ ?_);assumption) | ((with_reducible refine br_f ?_ ?_);assumption) | ((with_reducible first|apply St.wrL|apply St.wr);assumption;(first|exact i0|exact i1|exact i2|exact i3|exact i4|exact i5|exact i6|exact i7|exact i8|exact i9|exact i10|exact i11|exact i12|exact i13|exact i14|exact i15);(first|exact Nat.le_of_ble_eq_true rfl|rfl);intro g_ S_;simp only [Ptr.add, List.set, splice, List.take, List.drop, List.nil_append, List.append_nil, List.cons_append, List.length_cons, List.length_nil, Nat.zero_add, Nat.add_zero, Nat.reduceAdd, Nat.reduceMul, Nat.mul_one, Int.toNat_zero, Int.toNat_one, Int.reduceToNat] at S_) | ((with_reducible refine ix_of ?_ ?_ ?_);exact of_decide_eq_true rfl;exact of_decide_eq_true rfl) | ((with_reducible first|refine nz_of ?_ ?_|refine nneg_of ?_ ?_);exact of_decide_eq_true rfl) | ((with_reducible refine chk_of ?_ ?_);rfl) | (with_reducible first|apply asI_of|apply asB_of|apply asP_of|apply asSl_of|apply asAggV_of|apply asTupV_of|apply asCons_of|apply asNil_of|apply isNil_n|apply isNil_i|apply nilC_i|apply nilCU_i|apply nilCU_f|apply mthC_i) | ((with_reducible refine And.intro ?_ ?_);rfl) | ((with_reducible apply exAnd);rfl))
    refine br_f (by rw [Int.mul_tmod_right]; rfl) ?_
    repeat (first | ((with_reducible first|apply St.rI|apply St.rB|apply St.rP|apply St.rSl|apply St.rV|apply St.rM|apply St.rS|apply St.rN|apply St.ckA);assumption;(first|exact i0|exact i1|exact i2|exact i3|exact i4|exact i5|exact i6|exact i7|exact i8|exact i9|exact i10|exact i11|exact i12|exact i13|exact i14|exact i15);(first|rfl|exact Nat.le_of_ble_eq_true rfl)) | with_reducible refine der_of ?_ | ((with_reducible refine br_t ?_ ?_);rfl) | ((with_reducible refine br_f ?_ ?_);rfl) | ((with_reducible refine br_t ?_ ?_);assumption) | ((with_reducible refine br_f ?_ ?_);assumption) | ((with_reducible first|apply St.wrL|apply St.wr);assumption;(first|exact i0|exact i1|exact i2|exact i3|exact i4|exact i5|exact i6|exact i7|exact i8|exact i9|exact i10|exact i11|exact i12|exact i13|exact i14|exact i15);(first|exact Nat.le_of_ble_eq_true rfl|rfl);intro g_ S_;simp only [Ptr.add, List.set, splice, List.take, List.drop, List.nil_append, List.append_nil, List.cons_append, List.length_cons, List.length_nil, Nat.zero_add, Nat.add_zero, Nat.reduceAdd, Nat.reduceMul, Nat.mul_one, Int.toNat_zero, Int.toNat_one, Int.reduceToNat] at S_) | ((with_reducible refine ix_of ?_ ?_ ?_);exact of_decide_eq_true rfl;exact of_decide_eq_true rfl) | ((with_reducible first|refine nz_of ?_ ?_|refine nneg_of ?_ ?_);exact of_decide_eq_true rfl) | ((with_reducible refine chk_of ?_ ?_);rfl) | (with_reducible first|apply asI_of|apply asB_of|apply asP_of|apply asSl_of|apply asAggV_of|apply asTupV_of|apply asCons_of|apply asNil_of|apply isNil_n|apply isNil_i|apply nilC_i|apply nilCU_i|apply nilCU_f|apply mthC_i) | ((with_reducible refine And.intro ?_ ?_);rfl) | ((with_reducible apply exAnd);rfl))
    unfold zf3.j6
    repeat (first | ((with_reducible first|apply St.rI|apply St.rB|apply St.rP|apply St.rSl|apply St.rV|apply St.rM|apply St.rS|apply St.rN|apply St.ckA);assumption;(first|exact i0|exact i1|exact i2|exact i3|exact i4|exact i5|exact i6|exact i7|exact i8|exact i9|exact i10|exact i11|exact i12|exact i13|exact i14|exact i15);(first|rfl|exact Nat.le_of_ble_eq_true rfl)) | with_reducible refine der_of ?_ | ((with_reducible refine br_t ?_ ?_);rfl) | ((with_reducible refine br_f ?_ ?_);rfl) | ((with_reducible refine br_t ?_ ?_);assumption) | ((with_reducible refine br_f ?_ ?_);assumption) | ((with_reducible first|apply St.wrL|apply St.wr);assumption;(first|exact i0|exact i1|exact i2|exact i3|exact i4|exact i5|exact i6|exact i7|exact i8|exact i9|exact i10|exact i11|exact i12|exact i13|exact i14|exact i15);(first|exact Nat.le_of_ble_eq_true rfl|rfl);intro g_ S_;simp only [Ptr.add, List.set, splice, List.take, List.drop, List.nil_append, List.append_nil, List.cons_append, List.length_cons, List.length_nil, Nat.zero_add, Nat.add_zero, Nat.reduceAdd, Nat.reduceMul, Nat.mul_one, Int.toNat_zero, Int.toNat_one, Int.reduceToNat] at S_) | ((with_reducible refine ix_of ?_ ?_ ?_);exact of_decide_eq_true rfl;exact of_decide_eq_true rfl) | ((with_reducible first|refine nz_of ?_ ?_|refine nneg_of ?_ ?_);exact of_decide_eq_true rfl) | ((with_reducible refine chk_of ?_ ?_);rfl) | (with_reducible first|apply asI_of|apply asB_of|apply asP_of|apply asSl_of|apply asAggV_of|apply asTupV_of|apply asCons_of|apply asNil_of|apply isNil_n|apply isNil_i|apply nilC_i|apply nilCU_i|apply nilCU_f|apply mthC_i) | ((with_reducible refine And.intro ?_ ?_);rfl) | ((with_reducible apply exAnd);rfl))
    refine hu.bytes _ _ _ _ _ (gbytes (g := 6) (p := 7) (b := 8) S rfl rfl rfl (by decide) M hb (k := 1024) (n := 16) (by decide) rfl rfl (fun s sb rest2 mk2 g2 S2 hsp hsl hsc => ?_))
    clear S
    obtain ⟨sp, sl, sc⟩ := s
    simp only at hsp hsl hsc
    subst hsp hsl
    repeat (first | ((with_reducible first|apply St.rI|apply St.rB|apply St.rP|apply St.rSl|apply St.rV|apply St.rM|apply St.rS|apply St.rN|apply St.ckA);assumption;(first|exact i0|exact i1|exact i2|exact i3|exact i4|exact i5|exact i6|exact i7|exact i8|exact i9|exact i10|exact i11|exact i12|exact i13|exact i14|exact i15);(first|rfl|exact Nat.le_of_ble_eq_true rfl)) | with_reducible refine der_of ?_ | ((with_reducible refine br_t ?_ ?_);rfl) | ((with_reducible refine br_f ?_ ?_);rfl) | ((with_reducible refine br_t ?_ ?_);assumption) | ((with_reducible refine br_f ?_ ?_);assumption) | ((with_reducible first|apply St.wrL|apply St.wr);assumption;(first|exact i0|exact i1|exact i2|exact i3|exact i4|exact i5|exact i6|exact i7|exact i8|exact i9|exact i10|exact i11|exact i12|exact i13|exact i14|exact i15);(first|exact Nat.le_of_ble_eq_true rfl|rfl);intro g_ S_;simp only [Ptr.add, List.set, splice, List.take, List.drop, List.nil_append, List.append_nil, List.cons_append, List.length_cons, List.length_nil, Nat.zero_add, Nat.add_zero, Nat.reduceAdd, Nat.reduceMul, Nat.mul_one, Int.toNat_zero, Int.toNat_one, Int.reduceToNat] at S_) | ((with_reducible refine ix_of ?_ ?_ ?_);exact of_decide_eq_true rfl;exact of_decide_eq_true rfl) | ((with_reducible first|refine nz_of ?_ ?_|refine nneg_of ?_ ?_);exact of_decide_eq_true rfl) | ((with_reducible refine chk_of ?_ ?_);rfl) | (with_reducible first|apply asI_of|apply asB_of|apply asP_of|apply asSl_of|apply asAggV_of|apply asTupV_of|apply asCons_of|apply asNil_of|apply isNil_n|apply isNil_i|apply nilC_i|apply nilCU_i|apply nilCU_f|apply mthC_i) | ((with_reducible refine And.intro ?_ ?_);rfl) | ((with_reducible apply exAnd);rfl))
    refine sb_of (by decide) (by show (8 : Int) ≤ ((16 : Nat) : Int); decide) ?_
    have hl := M.len
    have H0 : Held g2 ⟨some ⟨sb, 0⟩, 16, sc⟩ 1 (strCells ((bs.drop (256 * base + 1024)).take 16)) := by
      refine ⟨by rw [strCells_length]; simp; omega, fun p hp i u hu => ?_, fun hp => by cases hp⟩
      cases hp
      rw [get_cells (S2.obj i0), Nat.zero_add, List.getElem?_append_left, hu]
      rcases Nat.lt_or_ge i (strCells ((bs.drop (256 * base + 1024)).take 16)).length with h1 | h1
      · exact h1
      · rw [List.getElem?_eq_none h1] at hu; cases hu
    have H1 : Held g2 ⟨slp (some ⟨sb, 0⟩) ((8 : Int).toNat * 1) (8 : Int).toNat sc, 16 - (8 : Int).toNat, sc - (8 : Int).toNat⟩ 1 (strCells (((bs.drop (256 * base + 1024)).take 16).drop 8)) := by
      have e1 : slp (some ⟨sb, 0⟩) ((8 : Int).toNat * 1) (8 : Int).toNat sc = some ⟨sb, 8⟩ := by
        unfold slp
        rw [if_neg (by show ¬ sc = 8; omega)]
        rfl
      rw [e1]
      refine ⟨by rw [strCells_length]; simp; omega, fun p hp i u hu => ?_, fun hp => by cases hp⟩
      cases hp
      have := H0.row ⟨sb, 0⟩ rfl (8 + i) u (by rw [strCells_get] at hu ⊢; rw [List.getElem?_drop] at hu; exact hu)
      rw [Nat.zero_add] at this
      exact this
    have n0 : ((byteSum (((bs.drop (256 * base + 1024)).take 16).take 8) : Nat) : Int) = kind := by
      rw [List.take_take, ← hk, ← M.word 128 (by decide)]
      unfold valN sx
      rw [if_neg (by decide), Int.toNat_natCast]
      rfl
    have n1 : ((byteSum ((((bs.drop (256 * base + 1024)).take 16).drop 8).take 8) : Nat) : Int) = block := by
      rw [← hbk, ← M.word 129 (by decide)]
      unfold valN sx
      rw [if_neg (by decide), Int.toNat_natCast, List.drop_take, List.drop_drop, List.take_take]
      rfl
    refine num8 H0 (by simp; omega) (num8 H1 (by simp; omega) ?_)
    rw [n0, n1]
    refine br_f (decide_eq_false (by omega)) ?_
    repeat (first | ((with_reducible first|apply St.rI|apply St.rB|apply St.rP|apply St.rSl|apply St.rV|apply St.rM|apply St.rS|apply St.rN|apply St.ckA);assumption;(first|exact i0|exact i1|exact i2|exact i3|exact i4|exact i5|exact i6|exact i7|exact i8|exact i9|exact i10|exact i11|exact i12|exact i13|exact i14|exact i15);(first|rfl|exact Nat.le_of_ble_eq_true rfl)) | with_reducible refine der_of ?_ | ((with_reducible refine br_t ?_ ?_);rfl) | ((with_reducible refine br_f ?_ ?_);rfl) | ((with_reducible refine br_t ?_ ?_);assumption) | ((with_reducible refine br_f ?_ ?_);assumption) | ((with_reducible first|apply St.wrL|apply St.wr);assumption;(first|exact i0|exact i1|exact i2|exact i3|exact i4|exact i5|exact i6|exact i7|exact i8|exact i9|exact i10|exact i11|exact i12|exact i13|exact i14|exact i15);(first|exact Nat.le_of_ble_eq_true rfl|rfl);intro g_ S_;simp only [Ptr.add, List.set, splice, List.take, List.drop, List.nil_append, List.append_nil, List.cons_append, List.length_cons, List.length_nil, Nat.zero_add, Nat.add_zero, Nat.reduceAdd, Nat.reduceMul, Nat.mul_one, Int.toNat_zero, Int.toNat_one, Int.reduceToNat] at S_) | ((with_reducible refine ix_of ?_ ?_ ?_);exact of_decide_eq_true rfl;exact of_decide_eq_true rfl) | ((with_reducible first|refine nz_of ?_ ?_|refine nneg_of ?_ ?_);exact of_decide_eq_true rfl) | ((with_reducible refine chk_of ?_ ?_);rfl) | (with_reducible first|apply asI_of|apply asB_of|apply asP_of|apply asSl_of|apply asAggV_of|apply asTupV_of|apply asCons_of|apply asNil_of|apply isNil_n|apply isNil_i|apply nilC_i|apply nilCU_i|apply nilCU_f|apply mthC_i) | ((with_reducible refine And.intro ?_ ?_);rfl) | ((with_reducible apply exAnd);rfl))
    refine br_f (by simp) ?_
    unfold zf3.j12
    repeat (first | ((with_reducible first|apply St.rI|apply St.rB|apply St.rP|apply St.rSl|apply St.rV|apply St.rM|apply St.rS|apply St.rN|apply St.ckA);assumption;(first|exact i0|exact i1|exact i2|exact i3|exact i4|exact i5|exact i6|exact i7|exact i8|exact i9|exact i10|exact i11|exact i12|exact i13|exact i14|exact i15);(first|rfl|exact Nat.le_of_ble_eq_true rfl)) | with_reducible refine der_of ?_ | ((with_reducible refine br_t ?_ ?_);rfl) | ((with_reducible refine br_f ?_ ?_);rfl) | ((with_reducible refine br_t ?_ ?_);assumption) | ((with_reducible refine br_f ?_ ?_);assumption) | ((with_reducible first|apply St.wrL|apply St.wr);assumption;(first|exact i0|exact i1|exact i2|exact i3|exact i4|exact i5|exact i6|exact i7|exact i8|exact i9|exact i10|exact i11|exact i12|exact i13|exact i14|exact i15);(first|exact Nat.le_of_ble_eq_true rfl|rfl);intro g_ S_;simp only [Ptr.add, List.set, splice, List.take, List.drop, List.nil_append, List.append_nil, List.cons_append, List.length_cons, List.length_nil, Nat.zero_add, Nat.add_zero, Nat.reduceAdd, Nat.reduceMul, Nat.mul_one, Int.toNat_zero, Int.toNat_one, Int.reduceToNat] at S_) | ((with_reducible refine ix_of ?_ ?_ ?_);exact of_decide_eq_true rfl;exact of_decide_eq_true rfl) | ((with_reducible first|refine nz_of ?_ ?_|refine nneg_of ?_ ?_);exact of_decide_eq_true rfl) | ((with_reducible refine chk_of ?_ ?_);rfl) | (with_reducible first|apply asI_of|apply asB_of|apply asP_of|apply asSl_of|apply asAggV_of|apply asTupV_of|apply asCons_of|apply asNil_of|apply isNil_n|apply isNil_i|apply nilC_i|apply nilCU_i|apply nilCU_f|apply mthC_i) | ((with_reducible refine And.intro ?_ ?_);rfl) | ((with_reducible apply exAnd);rfl))
    have ep : IntKind.i64.wrap (IntKind.u64.wrap ((256 * page).tdiv 256)) = page := by
      rw [Int.mul_tdiv_cancel_left _ (by decide), wrapu64 (x := page), wrap64] <;> omega
    rw [ep]
    refine hu.frame _ _ _ _ _ ?_
    unfold zf43
    refine br_f (decide_eq_false (by omega)) ?_
    repeat (first | ((with_reducible first|apply St.rI|apply St.rB|apply St.rP|apply St.rSl|apply St.rV|apply St.rM|apply St.rS|apply St.rN|apply St.ckA);assumption;(first|exact i0|exact i1|exact i2|exact i3|exact i4|exact i5|exact i6|exact i7|exact i8|exact i9|exact i10|exact i11|exact i12|exact i13|exact i14|exact i15);(first|rfl|exact Nat.le_of_ble_eq_true rfl)) | with_reducible refine der_of ?_ | ((with_reducible refine br_t ?_ ?_);rfl) | ((with_reducible refine br_f ?_ ?_);rfl) | ((with_reducible refine br_t ?_ ?_);assumption) | ((with_reducible refine br_f ?_ ?_);assumption) | ((with_reducible first|apply St.wrL|apply St.wr);assumption;(first|exact i0|exact i1|exact i2|exact i3|exact i4|exact i5|exact i6|exact i7|exact i8|exact i9|exact i10|exact i11|exact i12|exact i13|exact i14|exact i15);(first|exact Nat.le_of_ble_eq_true rfl|rfl);intro g_ S_;simp only [Ptr.add, List.set, splice, List.take, List.drop, List.nil_append, List.append_nil, List.cons_append, List.length_cons, List.length_nil, Nat.zero_add, Nat.add_zero, Nat.reduceAdd, Nat.reduceMul, Nat.mul_one, Int.toNat_zero, Int.toNat_one, Int.reduceToNat] at S_) | ((with_reducible refine ix_of ?_ ?_ ?_);exact of_decide_eq_true rfl;exact of_decide_eq_true rfl) | ((with_reducible first|refine nz_of ?_ ?_|refine nneg_of ?_ ?_);exact of_decide_eq_true rfl) | ((with_reducible refine chk_of ?_ ?_);rfl) | (with_reducible first|apply asI_of|apply asB_of|apply asP_of|apply asSl_of|apply asAggV_of|apply asTupV_of|apply asCons_of|apply asNil_of|apply isNil_n|apply isNil_i|apply nilC_i|apply nilCU_i|apply nilCU_f|apply mthC_i) | ((with_reducible refine And.intro ?_ ?_);rfl) | ((with_reducible apply exAnd);rfl))
    refine br_f (decide_eq_false (by omega)) ?_
    repeat (first | ((with_reducible first|apply St.rI|apply St.rB|apply St.rP|apply St.rSl|apply St.rV|apply St.rM|apply St.rS|apply St.rN|apply St.ckA);assumption;(first|exact i0|exact i1|exact i2|exact i3|exact i4|exact i5|exact i6|exact i7|exact i8|exact i9|exact i10|exact i11|exact i12|exact i13|exact i14|exact i15);(first|rfl|exact Nat.le_of_ble_eq_true rfl)) | with_reducible refine der_of ?_ | ((with_reducible refine br_t ?_ ?_);rfl) | ((with_reducible refine br_f ?_ ?_);rfl) | ((with_reducible refine br_t ?_ ?_);assumption) | ((with_reducible refine br_f ?_ ?_);assumption) | ((with_reducible first|apply St.wrL|apply St.wr);assumption;(first|exact i0|exact i1|exact i2|exact i3|exact i4|exact i5|exact i6|exact i7|exact i8|exact i9|exact i10|exact i11|exact i12|exact i13|exact i14|exact i15);(first|exact Nat.le_of_ble_eq_true rfl|rfl);intro g_ S_;simp only [Ptr.add, List.set, splice, List.take, List.drop, List.nil_append, List.append_nil, List.cons_append, List.length_cons, List.length_nil, Nat.zero_add, Nat.add_zero, Nat.reduceAdd, Nat.reduceMul, Nat.mul_one, Int.toNat_zero, Int.toNat_one, Int.reduceToNat] at S_) | ((with_reducible refine ix_of ?_ ?_ ?_);exact of_decide_eq_true rfl;exact of_decide_eq_true rfl) | ((with_reducible first|refine nz_of ?_ ?_|refine nneg_of ?_ ?_);exact of_decide_eq_true rfl) | ((with_reducible refine chk_of ?_ ?_);rfl) | (with_reducible first|apply asI_of|apply asB_of|apply asP_of|apply asSl_of|apply asAggV_of|apply asTupV_of|apply asCons_of|apply asNil_of|apply isNil_n|apply isNil_i|apply nilC_i|apply nilCU_i|apply nilCU_f|apply mthC_i) | ((with_reducible refine And.intro ?_ ?_);rfl) | ((with_reducible apply exAnd);rfl))
    have ef : IntKind.i64.wrap ((base : Int) + page) = (base : Int) + page := by rw [wrap64] <;> omega
    rw [ef]
    refine Owner_of (rep_at (i := 10) (j := 11) (k := 12) S2 ok rfl rfl rfl (by decide)) ht hv hw ?_
    unfold zf3.j14
    repeat (first | ((with_reducible first|apply St.rI|apply St.rB|apply St.rP|apply St.rSl|apply St.rV|apply St.rM|apply St.rS|apply St.rN|apply St.ckA);assumption;(first|exact i0|exact i1|exact i2|exact i3|exact i4|exact i5|exact i6|exact i7|exact i8|exact i9|exact i10|exact i11|exact i12|exact i13|exact i14|exact i15);(first|rfl|exact Nat.le_of_ble_eq_true rfl)) | with_reducible refine der_of ?_ | ((with_reducible refine br_t ?_ ?_);rfl) | ((with_reducible refine br_f ?_ ?_);rfl) | ((with_reducible refine br_t ?_ ?_);assumption) | ((with_reducible refine br_f ?_ ?_);assumption) | ((with_reducible first|apply St.wrL|apply St.wr);assumption;(first|exact i0|exact i1|exact i2|exact i3|exact i4|exact i5|exact i6|exact i7|exact i8|exact i9|exact i10|exact i11|exact i12|exact i13|exact i14|exact i15);(first|exact Nat.le_of_ble_eq_true rfl|rfl);intro g_ S_;simp only [Ptr.add, List.set, splice, List.take, List.drop, List.nil_append, List.append_nil, List.cons_append, List.length_cons, List.length_nil, Nat.zero_add, Nat.add_zero, Nat.reduceAdd, Nat.reduceMul, Nat.mul_one, Int.toNat_zero, Int.toNat_one, Int.reduceToNat] at S_) | ((with_reducible refine ix_of ?_ ?_ ?_);exact of_decide_eq_true rfl;exact of_decide_eq_true rfl) | ((with_reducible first|refine nz_of ?_ ?_|refine nneg_of ?_ ?_);exact of_decide_eq_true rfl) | ((with_reducible refine chk_of ?_ ?_);rfl) | (with_reducible first|apply asI_of|apply asB_of|apply asP_of|apply asSl_of|apply asAggV_of|apply asTupV_of|apply asCons_of|apply asNil_of|apply isNil_n|apply isNil_i|apply nilC_i|apply nilCU_i|apply nilCU_f|apply mthC_i) | ((with_reducible refine And.intro ?_ ?_);rfl) | ((with_reducible apply exAnd);rfl))
    refine br_f (by simp) ?_
    repeat (first | ((with_reducible first|apply St.rI|apply St.rB|apply St.rP|apply St.rSl|apply St.rV|apply St.rM|apply St.rS|apply St.rN|apply St.ckA);assumption;(first|exact i0|exact i1|exact i2|exact i3|exact i4|exact i5|exact i6|exact i7|exact i8|exact i9|exact i10|exact i11|exact i12|exact i13|exact i14|exact i15);(first|rfl|exact Nat.le_of_ble_eq_true rfl)) | with_reducible refine der_of ?_ | ((with_reducible refine br_t ?_ ?_);rfl) | ((with_reducible refine br_f ?_ ?_);rfl) | ((with_reducible refine br_t ?_ ?_);assumption) | ((with_reducible refine br_f ?_ ?_);assumption) | ((with_reducible first|apply St.wrL|apply St.wr);assumption;(first|exact i0|exact i1|exact i2|exact i3|exact i4|exact i5|exact i6|exact i7|exact i8|exact i9|exact i10|exact i11|exact i12|exact i13|exact i14|exact i15);(first|exact Nat.le_of_ble_eq_true rfl|rfl);intro g_ S_;simp only [Ptr.add, List.set, splice, List.take, List.drop, List.nil_append, List.append_nil, List.cons_append, List.length_cons, List.length_nil, Nat.zero_add, Nat.add_zero, Nat.reduceAdd, Nat.reduceMul, Nat.mul_one, Int.toNat_zero, Int.toNat_one, Int.reduceToNat] at S_) | ((with_reducible refine ix_of ?_ ?_ ?_);exact of_decide_eq_true rfl;exact of_decide_eq_true rfl) | ((with_reducible first|refine nz_of ?_ ?_|refine nneg_of ?_ ?_);exact of_decide_eq_true rfl) | ((with_reducible refine chk_of ?_ ?_);rfl) | (with_reducible first|apply asI_of|apply asB_of|apply asP_of|apply asSl_of|apply asAggV_of|apply asTupV_of|apply asCons_of|apply asNil_of|apply isNil_n|apply isNil_i|apply nilC_i|apply nilCU_i|apply nilCU_f|apply mthC_i) | ((with_reducible refine And.intro ?_ ?_);rfl) | ((with_reducible apply exAnd);rfl))
    refine br_f (decide_eq_false (by rw [show IntKind.u64.wrap 4 = 4 by decide]; omega)) ?_
    repeat (first | ((with_reducible first|apply St.rI|apply St.rB|apply St.rP|apply St.rSl|apply St.rV|apply St.rM|apply St.rS|apply St.rN|apply St.ckA);assumption;(first|exact i0|exact i1|exact i2|exact i3|exact i4|exact i5|exact i6|exact i7|exact i8|exact i9|exact i10|exact i11|exact i12|exact i13|exact i14|exact i15);(first|rfl|exact Nat.le_of_ble_eq_true rfl)) | with_reducible refine der_of ?_ | ((with_reducible refine br_t ?_ ?_);rfl) | ((with_reducible refine br_f ?_ ?_);rfl) | ((with_reducible refine br_t ?_ ?_);assumption) | ((with_reducible refine br_f ?_ ?_);assumption) | ((with_reducible first|apply St.wrL|apply St.wr);assumption;(first|exact i0|exact i1|exact i2|exact i3|exact i4|exact i5|exact i6|exact i7|exact i8|exact i9|exact i10|exact i11|exact i12|exact i13|exact i14|exact i15);(first|exact Nat.le_of_ble_eq_true rfl|rfl);intro g_ S_;simp only [Ptr.add, List.set, splice, List.take, List.drop, List.nil_append, List.append_nil, List.cons_append, List.length_cons, List.length_nil, Nat.zero_add, Nat.add_zero, Nat.reduceAdd, Nat.reduceMul, Nat.mul_one, Int.toNat_zero, Int.toNat_one, Int.reduceToNat] at S_) | ((with_reducible refine ix_of ?_ ?_ ?_);exact of_decide_eq_true rfl;exact of_decide_eq_true rfl) | ((with_reducible first|refine nz_of ?_ ?_|refine nneg_of ?_ ?_);exact of_decide_eq_true rfl) | ((with_reducible refine chk_of ?_ ?_);rfl) | (with_reducible first|apply asI_of|apply asB_of|apply asP_of|apply asSl_of|apply asAggV_of|apply asTupV_of|apply asCons_of|apply asNil_of|apply isNil_n|apply isNil_i|apply nilC_i|apply nilCU_i|apply nilCU_f|apply mthC_i) | ((with_reducible refine And.intro ?_ ?_);rfl) | ((with_reducible apply exAnd);rfl))
    have e1 : IntKind.i64.wrap (shlI .i64 owner 32 + asked) = owner * 4294967296 + asked := by
      rcases hown with rfl | rfl
      · rw [show shlI .i64 1 32 = 4294967296 by decide, wrap64] <;> omega
      · rw [show shlI .i64 2 32 = 8589934592 by decide, wrap64] <;> omega
    have e2 : IntKind.i64.wrap (first + IntKind.i64.wrap block) = first + block := by rw [wrap64 (x := block), wrap64] <;> omega
    rw [e1, e2]
    exact hq _ (St.pick S_ [5, 6, 7, 8, 9, 10, 11, 12] (by decide) rfl)
  refine ⟨?_, ?_⟩
  all_goals repeat (first | ((with_reducible first|apply St.rI|apply St.rB|apply St.rP|apply St.rSl|apply St.rV|apply St.rM|apply St.rS|apply St.rN|apply St.ckA);assumption;(first|exact i0|exact i1|exact i2|exact i3|exact i4|exact i5|exact i6|exact i7|exact i8|exact i9|exact i10|exact i11|exact i12|exact i13|exact i14|exact i15);(first|rfl|exact Nat.le_of_ble_eq_true rfl)) | with_reducible refine der_of ?_ | ((with_reducible refine br_t ?_ ?_);rfl) | ((with_reducible refine br_f ?_ ?_);rfl) | ((with_reducible refine br_t ?_ ?_);assumption) | ((with_reducible refine br_f ?_ ?_);assumption) | ((with_reducible first|apply St.wrL|apply St.wr);assumption;(first|exact i0|exact i1|exact i2|exact i3|exact i4|exact i5|exact i6|exact i7|exact i8|exact i9|exact i10|exact i11|exact i12|exact i13|exact i14|exact i15);(first|exact Nat.le_of_ble_eq_true rfl|rfl);intro g_ S_;simp only [Ptr.add, List.set, splice, List.take, List.drop, List.nil_append, List.append_nil, List.cons_append, List.length_cons, List.length_nil, Nat.zero_add, Nat.add_zero, Nat.reduceAdd, Nat.reduceMul, Nat.mul_one, Int.toNat_zero, Int.toNat_one, Int.reduceToNat] at S_) | ((with_reducible first|apply St.al|apply St.alM);assumption;intro b_ g_ S_) | ((with_reducible refine ix_of ?_ ?_ ?_);exact of_decide_eq_true rfl;exact of_decide_eq_true rfl) | ((with_reducible first|refine nz_of ?_ ?_|refine nneg_of ?_ ?_);exact of_decide_eq_true rfl) | ((with_reducible refine chk_of ?_ ?_);rfl) | (with_reducible first|apply asI_of|apply asB_of|apply asP_of|apply asSl_of|apply asAggV_of|apply asTupV_of|apply asCons_of|apply asNil_of|apply isNil_n|apply isNil_i|apply nilC_i|apply nilCU_i|apply nilCU_f|apply mthC_i) | ((with_reducible refine And.intro ?_ ?_);rfl) | ((with_reducible apply exAnd);rfl))
  all_goals try (with_reducible refine And.intro ?_ ?_)
  all_goals repeat (first | ((with_reducible first|apply St.rI|apply St.rB|apply St.rP|apply St.rSl|apply St.rV|apply St.rM|apply St.rS|apply St.rN|apply St.ckA);assumption;(first|exact i0|exact i1|exact i2|exact i3|exact i4|exact i5|exact i6|exact i7|exact i8|exact i9|exact i10|exact i11|exact i12|exact i13|exact i14|exact i15);(first|rfl|exact Nat.le_of_ble_eq_true rfl)) | with_reducible refine der_of ?_ | ((with_reducible refine br_t ?_ ?_);rfl) | ((with_reducible refine br_f ?_ ?_);rfl) | ((with_reducible refine br_t ?_ ?_);assumption) | ((with_reducible refine br_f ?_ ?_);assumption) | ((with_reducible first|apply St.wrL|apply St.wr);assumption;(first|exact i0|exact i1|exact i2|exact i3|exact i4|exact i5|exact i6|exact i7|exact i8|exact i9|exact i10|exact i11|exact i12|exact i13|exact i14|exact i15);(first|exact Nat.le_of_ble_eq_true rfl|rfl);intro g_ S_;simp only [Ptr.add, List.set, splice, List.take, List.drop, List.nil_append, List.append_nil, List.cons_append, List.length_cons, List.length_nil, Nat.zero_add, Nat.add_zero, Nat.reduceAdd, Nat.reduceMul, Nat.mul_one, Int.toNat_zero, Int.toNat_one, Int.reduceToNat] at S_) | ((with_reducible first|apply St.al|apply St.alM);assumption;intro b_ g_ S_) | ((with_reducible refine ix_of ?_ ?_ ?_);exact of_decide_eq_true rfl;exact of_decide_eq_true rfl) | ((with_reducible first|refine nz_of ?_ ?_|refine nneg_of ?_ ?_);exact of_decide_eq_true rfl) | ((with_reducible refine chk_of ?_ ?_);rfl) | (with_reducible first|apply asI_of|apply asB_of|apply asP_of|apply asSl_of|apply asAggV_of|apply asTupV_of|apply asCons_of|apply asNil_of|apply isNil_n|apply isNil_i|apply nilC_i|apply nilCU_i|apply nilCU_f|apply mthC_i) | ((with_reducible refine And.intro ?_ ?_);rfl) | ((with_reducible apply exAnd);rfl))
  all_goals try (with_reducible refine And.intro ?_ ?_)
  all_goals repeat (first | ((with_reducible first|apply St.rI|apply St.rB|apply St.rP|apply St.rSl|apply St.rV|apply St.rM|apply St.rS|apply St.rN|apply St.ckA);assumption;(first|exact i0|exact i1|exact i2|exact i3|exact i4|exact i5|exact i6|exact i7|exact i8|exact i9|exact i10|exact i11|exact i12|exact i13|exact i14|exact i15);(first|rfl|exact Nat.le_of_ble_eq_true rfl)) | with_reducible refine der_of ?_ | ((with_reducible refine br_t ?_ ?_);rfl) | ((with_reducible refine br_f ?_ ?_);rfl) | ((with_reducible refine br_t ?_ ?_);assumption) | ((with_reducible refine br_f ?_ ?_);assumption) | ((with_reducible first|apply St.wrL|apply St.wr);assumption;(first|exact i0|exact i1|exact i2|exact i3|exact i4|exact i5|exact i6|exact i7|exact i8|exact i9|exact i10|exact i11|exact i12|exact i13|exact i14|exact i15);(first|exact Nat.le_of_ble_eq_true rfl|rfl);intro g_ S_;simp only [Ptr.add, List.set, splice, List.take, List.drop, List.nil_append, List.append_nil, List.cons_append, List.length_cons, List.length_nil, Nat.zero_add, Nat.add_zero, Nat.reduceAdd, Nat.reduceMul, Nat.mul_one, Int.toNat_zero, Int.toNat_one, Int.reduceToNat] at S_) | ((with_reducible first|apply St.al|apply St.alM);assumption;intro b_ g_ S_) | ((with_reducible refine ix_of ?_ ?_ ?_);exact of_decide_eq_true rfl;exact of_decide_eq_true rfl) | ((with_reducible first|refine nz_of ?_ ?_|refine nneg_of ?_ ?_);exact of_decide_eq_true rfl) | ((with_reducible refine chk_of ?_ ?_);rfl) | (with_reducible first|apply asI_of|apply asB_of|apply asP_of|apply asSl_of|apply asAggV_of|apply asTupV_of|apply asCons_of|apply asNil_of|apply isNil_n|apply isNil_i|apply nilC_i|apply nilCU_i|apply nilCU_f|apply mthC_i) | ((with_reducible refine And.intro ?_ ?_);rfl) | ((with_reducible apply exAnd);rfl))
  all_goals try (with_reducible refine And.intro ?_ ?_)
  all_goals repeat (first | ((with_reducible first|apply St.rI|apply St.rB|apply St.rP|apply St.rSl|apply St.rV|apply St.rM|apply St.rS|apply St.rN|apply St.ckA);assumption;(first|exact i0|exact i1|exact i2|exact i3|exact i4|exact i5|exact i6|exact i7|exact i8|exact i9|exact i10|exact i11|exact i12|exact i13|exact i14|exact i15);(first|rfl|exact Nat.le_of_ble_eq_true rfl)) | with_reducible refine der_of ?_ | ((with_reducible refine br_t ?_ ?_);rfl) | ((with_reducible refine br_f ?_ ?_);rfl) | ((with_reducible refine br_t ?_ ?_);assumption) | ((with_reducible refine br_f ?_ ?_);assumption) | ((with_reducible first|apply St.wrL|apply St.wr);assumption;(first|exact i0|exact i1|exact i2|exact i3|exact i4|exact i5|exact i6|exact i7|exact i8|exact i9|exact i10|exact i11|exact i12|exact i13|exact i14|exact i15);(first|exact Nat.le_of_ble_eq_true rfl|rfl);intro g_ S_;simp only [Ptr.add, List.set, splice, List.take, List.drop, List.nil_append, List.append_nil, List.cons_append, List.length_cons, List.length_nil, Nat.zero_add, Nat.add_zero, Nat.reduceAdd, Nat.reduceMul, Nat.mul_one, Int.toNat_zero, Int.toNat_one, Int.reduceToNat] at S_) | ((with_reducible first|apply St.al|apply St.alM);assumption;intro b_ g_ S_) | ((with_reducible refine ix_of ?_ ?_ ?_);exact of_decide_eq_true rfl;exact of_decide_eq_true rfl) | ((with_reducible first|refine nz_of ?_ ?_|refine nneg_of ?_ ?_);exact of_decide_eq_true rfl) | ((with_reducible refine chk_of ?_ ?_);rfl) | (with_reducible first|apply asI_of|apply asB_of|apply asP_of|apply asSl_of|apply asAggV_of|apply asTupV_of|apply asCons_of|apply asNil_of|apply isNil_n|apply isNil_i|apply nilC_i|apply nilCU_i|apply nilCU_f|apply mthC_i) | ((with_reducible refine And.intro ?_ ?_);rfl) | ((with_reducible apply exAnd);rfl))
  all_goals (first | (apply fin [3, 0, 1, 2, 5, 6, 7, 8, 9, 10, 11, 12]; assumption; decide; rfl) | (apply fin [3, 0, 2, 1, 5, 6, 7, 8, 9, 10, 11, 12]; assumption; decide; rfl) | (apply fin [3, 1, 0, 2, 5, 6, 7, 8, 9, 10, 11, 12]; assumption; decide; rfl) | (apply fin [3, 1, 2, 0, 5, 6, 7, 8, 9, 10, 11, 12]; assumption; decide; rfl) | (apply fin [3, 2, 0, 1, 5, 6, 7, 8, 9, 10, 11, 12]; assumption; decide; rfl) | (apply fin [3, 2, 1, 0, 5, 6, 7, 8, 9, 10, 11, 12]; assumption; decide; rfl))

end
end Go.Back

set_option linter.unusedSimpArgs false
set_option linter.unusedVariables false
set_option maxRecDepth 100000
namespace Go.Back
open Go.Lift Go.Fn Go.Mem Go.Frames

structure BW (h0 : Heap) (L : List (Nat × HO)) (db : Nat) (y : Disk.Lay) (d : Disk.Dsk) (h : Heap) : Prop where
  st : St h0 none_ L h
  R : Disk.Rep y d h
  ok : d.Ok
  pbe : y.pb = db
  out : ∀ b v, (b, v) ∈ L → ¬ y.Foot b
  fresh : ∀ z, y.Foot z → h0.obj z = none

section
variable {h0 h h' : Heap} {L L' : List (Nat × HO)} {db : Nat} {y : Disk.Lay} {d : Disk.Dsk}

theorem BW.step (B : BW h0 L db y d h) (S : St h (keysOf L) L' h') : BW h0 L' db y d h' := by
  refine ⟨B.st.back S, B.R.keeps S.keeps (fun x hx hk => ?_), B.ok, B.pbe, fun b v hb hf => ?_, B.fresh⟩
  · obtain ⟨v, hv⟩ := hk
    exact B.out x v hv hx
  · rcases S.new b v hb with h1 | ⟨u, hu⟩
    · exact B.R.known b hf h1
    · exact B.out b u hu hf

theorem BW.pick (B : BW h0 L db y d h) (is : List Nat) (hn : is.Nodup) (hl : is.map (fun i => L[i]?) = L'.map some) : BW h0 L' db y d h := by
  have S := B.st.pick is hn hl
  refine ⟨S, B.R, B.ok, B.pbe, fun b v hb => ?_, B.fresh⟩
  have : some (b, v) ∈ L'.map some := List.mem_map.2 ⟨_, hb, rfl⟩
  rw [← hl] at this
  obtain ⟨i, _, hi⟩ := List.mem_map.1 this
  exact B.out b v (List.mem_of_getElem? hi)

theorem BW.disk {y' : Disk.Lay} {d' : Disk.Dsk} (B : BW h0 L db y d h) (R' : Disk.Rep y' d' h') (ok : d'.Ok) (hp : y'.pb = y.pb) (g : Disk.Grow h y.Foot y'.Foot) (k : Keeps y.Foot h h') : BW h0 L db y' d' h' := by
  refine ⟨B.st.keepW k B.out (fun z hz hne => absurd (B.fresh z hz) hne), R', ok, hp.trans B.pbe, fun b v hb hf => ?_, fun z hz => ?_⟩
  · rcases g b hf with h1 | h1
    · exact B.out b v hb h1
    · obtain ⟨i, hi⟩ := List.getElem?_of_mem hb
      rw [B.st.obj hi] at h1
      cases h1
  · rcases g z hz with h1 | h1
    · exact B.fresh z h1
    · exact fresh_of B.st.keeps h1

theorem BW.submit {U : Ifc} (u : Disk.DU U) (B : BW h0 L db y d h) {r : Disk.Req} (he : d.subErr r = 0) {Q : Int → Heap → Prop} (hq : ∀ y' h', BW h0 L db y' { d with pend := d.pend ++ [r] } h' → Q 0 h') : zf17 U (some ⟨db, 0⟩) r.id r.write r.block r.frame Q h := by
  obtain rfl := B.pbe
  refine Disk.Submit_of u B.R B.ok (fun y' h' R' hp g k' => ?_)
  rw [he]
  have e : d.sub r = { d with pend := d.pend ++ [r] } := by unfold Disk.Dsk.sub; rw [if_pos he]
  have ok : (d.sub r).Ok := Disk.Ok.sub B.ok r
  rw [e] at R' ok
  exact hq y' h' (B.disk R' ok hp g k')

end
end Go.Back

set_option linter.unusedSimpArgs false
set_option linter.unusedVariables false
set_option maxRecDepth 100000
namespace Go.Back
open Go.Lift Go.Fn Go.Mem Go.Frames

section
variable {U U' : Ifc} {x : Nat → Int} {h0 h : Heap} {W : Nat → Prop} {L : List (Nat × HO)}

end
end Go.Back

set_option linter.unusedSimpArgs false
set_option linter.unusedVariables false
set_option maxRecDepth 100000
namespace Go.Back
open Go.Lift Go.Fn Go.Mem Go.Frames

end Go.Back

set_option linter.unusedSimpArgs false
set_option linter.unusedVariables false
set_option maxRecDepth 100000
namespace Go.Lift

theorem mem_pick {L L' : List (Nat × HO)} {is : List Nat} (hl : is.map (fun i => L[i]?) = L'.map some) {p : Nat × HO} (hp : p ∈ L') : p ∈ L := by
  have : some p ∈ L'.map some := List.mem_map.2 ⟨p, hp, rfl⟩
  rw [← hl] at this
  obtain ⟨i, _, e⟩ := List.mem_map.1 this
  exact List.mem_of_getElem? e

theorem St.perm {h0 h : Heap} {W : Nat → Prop} {L L' : List (Nat × HO)} (S : St h0 W L h) (p : L.Perm L') : St h0 W L' h :=
  ⟨(p.map _).nodup_iff.1 S.nodup, fun b x hb => S.objs b x (p.mem_iff.2 hb), fun b x hb => S.new b x (p.mem_iff.2 hb), S.keeps⟩

theorem St.pickR {h0 h : Heap} {W : Nat → Prop} {A A' R : List (Nat × HO)} (S : St h0 W (A ++ R) h) (is : List Nat) (hn : is.Nodup) (hl : is.map (fun i => A[i]?) = A'.map some) : St h0 W (A' ++ R) h := by
  have SA := (S.sub (List.sublist_append_left A R)).pick is hn hl
  refine ⟨?_, fun b x hb => ?_, fun b x hb => ?_, S.keeps⟩
  · have hnd := S.nodup
    rw [List.map_append, List.nodup_append] at hnd ⊢
    refine ⟨SA.nodup, hnd.2.1, fun a ha b hb => hnd.2.2 a ?_ b hb⟩
    obtain ⟨p, hp, rfl⟩ := List.mem_map.1 ha
    exact List.mem_map.2 ⟨p, mem_pick hl hp, rfl⟩
  · rcases List.mem_append.1 hb with h1 | h1
    · exact SA.objs b x h1
    · exact S.objs b x (List.mem_append.2 (.inr h1))
  · rcases List.mem_append.1 hb with h1 | h1
    · exact SA.new b x h1
    · exact S.new b x (List.mem_append.2 (.inr h1))

theorem iput_new {a : Int} {v : V} : ∀ l : List (Int × V), ifind a l = none → iput a v l = l ++ [(a, v)]
  | [], _ => rfl
  | (a', v') :: l, h => by
    simp only [ifind] at h
    simp only [iput]
    by_cases e : a = a'
    · rw [if_pos e] at h; cases h
    · rw [if_neg e] at h ⊢
      rw [iput_new l h]; rfl

end Go.Lift
namespace Go.Back
open Go.Lift Go.Fn Go.Mem Go.Frames

section
variable {h0 h : Heap} {L L' A A' R : List (Nat × HO)} {db : Nat} {y : Disk.Lay} {d : Disk.Dsk}

theorem BW.mono (B : BW h0 L db y d h) (S : St h0 none_ L' h) (hs : ∀ p, p ∈ L' → p ∈ L) : BW h0 L' db y d h := ⟨S, B.R, B.ok, B.pbe, fun b v hb => B.out b v (hs _ hb), B.fresh⟩
theorem BW.perm (B : BW h0 L db y d h) (p : L.Perm L') : BW h0 L' db y d h := B.mono (B.st.perm p) (fun _ hp => p.mem_iff.2 hp)
theorem BW.pickR (B : BW h0 (A ++ R) db y d h) (is : List Nat) (hn : is.Nodup) (hl : is.map (fun i => A[i]?) = A'.map some) : BW h0 (A' ++ R) db y d h :=
  B.mono (B.st.pickR is hn hl) (fun p hp => by
    rcases List.mem_append.1 hp with h1 | h1
    · exact List.mem_append.2 (.inl (mem_pick hl h1))
    · exact List.mem_append.2 (.inr h1))
theorem BW.off {z : Nat} (B : BW h0 L db y d h) (hz : h0.obj z ≠ none) : ¬ keysOf L z := fun hk => by
  obtain ⟨u, hu⟩ := hk
  rcases B.st.new _ u hu with h1 | h1
  · exact hz h1
  · exact h1
end

/-- A request that waits: its number, and where its chain lies. -/
structure Wt where
  n : Nat
  cb : Nat
  c : Nat
  rest : List V
  mt : Bool

def Wt.ent (o f : Int) (rd : Bool) (q : Wt) : Int × V := (o * 4294967296 + (q.n : Int), .agg [.int .i64 0, .sl ⟨some ⟨q.cb, 0⟩, 3, q.c⟩, .int .i64 f, .bool rd])
def Wt.blk (page : Int) (kb : Bool) (q : Wt) : Nat × HO := (q.cb, .cells (partsC 1024 16 (256 * page) 256 kb 1100 1 ++ q.rest) q.mt)
def Wt.req (o f b : Int) (wr : Bool) (q : Wt) : Disk.Req := ⟨o * 4294967296 + (q.n : Int), wr, b, f⟩

theorem ent_none {o f : Int} {rd : Bool} {k : Nat} : ∀ ws : List Wt, (∀ q, q ∈ ws → q.n < k) → ifind (o * 4294967296 + (k : Int)) (ws.map (Wt.ent o f rd)) = none
  | [], _ => rfl
  | q :: ws, h => by
    have h1 := h q (List.mem_cons_self)
    simp only [List.map_cons, Wt.ent, ifind]
    rw [if_neg (by omega)]
    exact ent_none ws (fun q hq => h q (List.mem_cons_of_mem _ hq))

/-- The requests have the numbers from g on. -/
def Row : Nat → List Wt → Prop
  | _, [] => True
  | g, q :: ws => q.n = g ∧ Row (g + 1) ws

theorem Row.lt : ∀ {g : Nat} {ws : List Wt}, Row g ws → ∀ q, q ∈ ws → q.n < g + ws.length
  | g, p :: ws, h, q, hq => by
    rcases List.mem_cons.1 hq with rfl | hq
    · have := h.1; simp only [List.length_cons]; omega
    · have := Row.lt h.2 q hq; simp only [List.length_cons]; omega

theorem Row.snoc {q : Wt} : ∀ {g : Nat} {ws : List Wt}, Row g ws → q.n = g + ws.length → Row g (ws ++ [q])
  | g, [], _, h => ⟨h, trivial⟩
  | g, p :: ws, h, hq => ⟨h.1, Row.snoc h.2 (by simp only [List.length_cons] at hq; omega)⟩

structure Ad where
  fb : Nat
  tm : Nat
  wm : Nat
  blk : Nat
  rg : Nat
  db : Nat
  wq : Nat
  gb : Nat
  pm : Nat
  bm : Nat
  base : Nat
  first : Int
  owner : Nat
  page : Int
  block : Int
  kind : Int

structure Ad.Ok (p : Ad) : Prop where
  b : p.base + 16 ≤ 40
  b4 : 4 ≤ p.base
  f : 0 ≤ p.first ∧ p.first ≤ 8
  o : p.owner = 1 ∨ p.owner = 2
  pg : 6 ≤ p.page ∧ p.page < 16
  bl : 0 ≤ p.block ∧ p.block < 4
  k : p.kind = 0 ∨ p.kind = 1

def Ad.fr (p : Ad) : Int := (p.base : Int) + p.page
def Ad.ent (p : Ad) : Wt → Int × V := Wt.ent (p.owner : Int) p.fr (!(p.kind == 1))
def Ad.cl (p : Ad) : Wt → Nat × HO := Wt.blk p.page (p.kind == 0)
def Ad.req (p : Ad) : Wt → Disk.Req := Wt.req (p.owner : Int) p.fr (p.first + p.block) (p.kind == 1)

def Ad.L (p : Ad) (F : FS) (bt : List Nat) (ct : Nat) (bw : List Nat) (cw : Nat) (asked : Int) (es : List (Int × V)) (eb : List Nat) (ec : Nat) (t g0 : Nat) (bs : List UInt8) (mk : Bool) : List (Nat × HO) :=
  [(p.fb, .cells (F.cells p.tm p.wm) false), (p.tm, .map (.int .i64) (ikeys .i64 F.t) bt ct), (p.wm, .map (.int .i64) (ikeys .i64 F.w) bw cw), (p.blk, .cells (blkC p.rg p.db p.fb p.wq p.first 4 (p.owner : Int) asked) false), (p.wq, .map (.int .i64) (ikeys .i64 es) eb ec), (p.rg, .cells (ringC ((t : Nat) : Int) ((g0 : Nat) : Int) false) false), (p.gb, .cells (flatC p.pm (p.base : Int)) false), (p.pm, .cells (memC p.bm) false), (p.bm, .cells (strCells bs) mk)]

/-- What is known of the frames: how often the page's is had. -/
structure FrOk (p : Ad) (F : FS) (v : Nat) : Prop where
  n : F.n = 40
  first : F.first = 4
  t : ifind p.fr F.t = some (.int .i64 (v : Int))
  w : ifind p.fr F.w = some (.int .i64 (p.owner : Int))

/-- The guest's block, with the requests ws that wait (ps at the disk); t were taken, g0 given back. -/
def Wld (p : Ad) (h0 : Heap) (X : List (Nat × HO)) (m : Nat → Int) (t g0 : Nat) (ws ps : List Wt) (h : Heap) : Prop :=
  ∃ F bs mk bt ct bw cw eb ec y d, MemIs bs p.base m ∧ A3ok F bt ct bw cw ∧ FrOk p F (1 + ws.length) ∧ (eb.Nodup ∧ (∀ b, b ∈ eb → b < ec) ∧ eb.length = (ws.map p.ent).length) ∧
    d.n = 12 ∧ d.pend = ps.map p.req ∧ Row g0 ws ∧ g0 + ws.length = t ∧ BW h0 (p.L F bt ct bw cw (t : Int) (ws.map p.ent) eb ec t g0 bs mk ++ (X ++ ws.map p.cl)) p.db y d h

end Go.Back

set_option linter.unusedSimpArgs false
set_option linter.unusedVariables false
set_option maxRecDepth 100000
namespace Go.Back
open Go.Lift Go.Fn Go.Mem Go.Frames

theorem subErr_ok {o f b : Int} {wr : Bool} {k : Nat} {d : Disk.Dsk} {ws : List Wt} (hn : d.n = 12) (hp : d.pend = ws.map (Wt.req o f b wr)) (hb : 0 ≤ b ∧ b < 12) (hl : ws.length < 8) (hlt : ∀ q, q ∈ ws → q.n < k) : d.subErr ⟨o * 4294967296 + (k : Int), wr, b, f⟩ = 0 := by
  have h1 : d.has b = true := by simp [Disk.Dsk.has, hn]; omega
  have h2 : d.pend.any (fun q => q.id == o * 4294967296 + (k : Int)) = false := by
    rw [List.any_eq_false]
    intro r hr
    rw [hp] at hr
    obtain ⟨q, hq, rfl⟩ := List.mem_map.1 hr
    have := hlt q hq
    simp [Wt.req]
    omega
  have h3 : ¬ d.pend.length ≥ 8 := by rw [hp]; simp; omega
  unfold Disk.Dsk.subErr
  simp only [h1, h2]
  rw [if_neg (by simp), if_neg (by simp), if_neg h3]

section
variable {U U' : Ifc} {x : Nat → Int} {h0 h : Heap}

end
end Go.Back

set_option linter.unusedSimpArgs false
set_option linter.unusedVariables false
set_option maxRecDepth 100000
namespace Go.Back
open Go.Lift Go.Fn Go.Mem Go.Frames

section
variable {U U' : Ifc} {x : Nat → Int} {h0 h : Heap}

end
end Go.Back

set_option linter.unusedSimpArgs false
set_option linter.unusedVariables false
set_option maxRecDepth 100000
namespace Go.Lift

theorem St.headW {h0 h h' : Heap} {W T : Nat → Prop} {L : List (Nat × HO)} {b : Nat} {x z : HO} (S : St h0 W ((b, x) :: L) h) (hy : h'.obj b = some z) (k : Keeps (fun c => T c ∨ c = b) h h') (hT : ∀ c v, (c, v) ∈ (b, x) :: L → ¬ T c) (hW : ∀ c, T c → h0.obj c ≠ none → W c) : St h0 W ((b, z) :: L) h' := by
  have hnd := S.nodup
  simp only [List.map_cons, List.nodup_cons] at hnd
  refine ⟨by simp only [List.map_cons, List.nodup_cons]; exact hnd, fun c v hc => ?_, fun c v hc => ?_, ⟨fun c hz hn => ?_, fun c hz => k.known c (S.keeps.known c hz)⟩⟩
  · rcases List.mem_cons.1 hc with e | hc1
    · cases e; exact hy
    · refine k.obj (S.objs c v (List.mem_cons_of_mem _ hc1)) (fun hh => ?_)
      rcases hh with h1 | rfl
      · exact hT c v (List.mem_cons_of_mem _ hc1) h1
      · exact hnd.1 (List.mem_map.2 ⟨(c, v), hc1, rfl⟩)
  · rcases List.mem_cons.1 hc with e | hc1
    · cases e; exact S.new _ _ (List.mem_cons_self)
    · exact S.new c v (List.mem_cons_of_mem _ hc1)
  · refine (k.same c (S.keeps.known c hz) (fun hh => ?_)).trans (S.keeps.same c hz hn)
    rcases hh with h1 | rfl
    · exact hn (hW c h1 hz)
    · rcases S.new _ _ (List.mem_cons_self) with h2 | h2
      · exact hz h2
      · exact hn h2

end Go.Lift
namespace Go.Back
open Go.Lift Go.Fn Go.Mem Go.Frames

theorem Row.ge : ∀ {g : Nat} {ws : List Wt}, Row g ws → ∀ q, q ∈ ws → g ≤ q.n
  | g, p :: ws, h, q, hq => by
    rcases List.mem_cons.1 hq with rfl | hq
    · have := h.1; omega
    · have := Row.ge h.2 q hq; omega

theorem Row.keys {p : Ad} : ∀ {g : Nat} {ws : List Wt}, Row g ws → IKeys (ws.map p.ent)
  | _, [], _ => by simp [IKeys]
  | g, q :: ws, h => by
    have ih := Row.keys (p := p) h.2
    unfold IKeys at ih ⊢
    simp only [List.map_cons, List.nodup_cons]
    refine ⟨fun hm => ?_, ih⟩
    simp only [List.mem_map] at hm
    obtain ⟨e, ⟨q', hq', rfl⟩, he⟩ := hm
    have := h.2.ge q' hq'
    have h1 := h.1
    simp only [Ad.ent, Wt.ent] at he
    omega

section
variable {U U' : Ifc} {x : Nat → Int} {h0 h : Heap}

end
end Go.Back

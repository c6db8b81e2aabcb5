/- A hart's small functions, the table of what operations do, and the reference's memory (weakly). -/
import Derived.Test.YthapldoonognpaaGreatDoorInsnA
import Derived.Test.YthapldoonognpaaGreatDoorMemW
set_option linter.unusedSimpArgs false
set_option linter.unusedVariables false
set_option maxRecDepth 100000
namespace Go.Hart
open Go.Lift Go.Fn Go.Mem

section
variable {h : Heap}

theorem trap_of {c v : Int} {Q : Int → Int → Int → Bool → Int → Heap → Prop} (hq : ∀ h', Keeps none_ h h' → Q c v 0 true 1 h') : hart_trap c v Q h := by
  unfold hart_trap
  have S := St.start h none_
  repeat (first | ((with_reducible first|apply St.rI|apply St.rB|apply St.rP|apply St.rSl|apply St.rV|apply St.rM|apply St.rS|apply St.rN|apply St.ckA);assumption;(first|exact i0|exact i1|exact i2|exact i3|exact i4|exact i5|exact i6|exact i7|exact i8|exact i9|exact i10|exact i11|exact i12|exact i13|exact i14|exact i15);(first|rfl|exact Nat.le_of_ble_eq_true rfl)) | with_reducible refine der_of ?_ | ((with_reducible refine br_t ?_ ?_);rfl) | ((with_reducible refine br_f ?_ ?_);rfl) | ((with_reducible refine br_t ?_ ?_);assumption) | ((with_reducible refine br_f ?_ ?_);assumption) | ((with_reducible first|apply St.wrL|apply St.wr);assumption;(first|exact i0|exact i1|exact i2|exact i3|exact i4|exact i5|exact i6|exact i7|exact i8|exact i9|exact i10|exact i11|exact i12|exact i13|exact i14|exact i15);(first|exact Nat.le_of_ble_eq_true rfl|rfl);intro g_ S_;simp only [Ptr.add, List.set, splice, List.take, List.drop, List.nil_append, List.append_nil, List.cons_append, List.length_cons, List.length_nil, Nat.zero_add, Nat.add_zero, Nat.reduceAdd, Nat.reduceMul, Nat.mul_one, Int.toNat_zero, Int.toNat_one, Int.reduceToNat] at S_) | ((with_reducible first|apply St.al|apply St.alM);assumption;intro b_ g_ S_) | ((with_reducible refine ix_of ?_ ?_ ?_);exact of_decide_eq_true rfl;exact of_decide_eq_true rfl) | ((with_reducible first|refine nz_of ?_ ?_|refine nneg_of ?_ ?_);exact of_decide_eq_true rfl) | ((with_reducible refine chk_of ?_ ?_);rfl) | (with_reducible first|apply asI_of|apply asB_of|apply asP_of|apply asSl_of|apply asAggV_of|apply asTupV_of|apply asCons_of|apply asNil_of|apply isNil_n|apply isNil_i|apply nilC_i|apply nilCU_i|apply nilCU_f|apply mthC_i) | ((with_reducible refine And.intro ?_ ?_);rfl) | ((with_reducible apply exAnd);rfl))
  exact hq _ (St.keeps ‹_›)

/-- No trap. -/
theorem of_none {Q : Int → Int → Int → Bool → Int → Heap → Prop} (hq : ∀ h', Keeps none_ h h' → Q 0 0 0 false 0 h') : hart_of 0 0 0 Q h := by
  unfold hart_of
  have S := St.start h none_
  repeat (first | ((with_reducible first|apply St.rI|apply St.rB|apply St.rP|apply St.rSl|apply St.rV|apply St.rM|apply St.rS|apply St.rN|apply St.ckA);assumption;(first|exact i0|exact i1|exact i2|exact i3|exact i4|exact i5|exact i6|exact i7|exact i8|exact i9|exact i10|exact i11|exact i12|exact i13|exact i14|exact i15);(first|rfl|exact Nat.le_of_ble_eq_true rfl)) | with_reducible refine der_of ?_ | ((with_reducible refine br_t ?_ ?_);rfl) | ((with_reducible refine br_f ?_ ?_);rfl) | ((with_reducible refine br_t ?_ ?_);assumption) | ((with_reducible refine br_f ?_ ?_);assumption) | ((with_reducible first|apply St.wrL|apply St.wr);assumption;(first|exact i0|exact i1|exact i2|exact i3|exact i4|exact i5|exact i6|exact i7|exact i8|exact i9|exact i10|exact i11|exact i12|exact i13|exact i14|exact i15);(first|exact Nat.le_of_ble_eq_true rfl|rfl);intro g_ S_;simp only [Ptr.add, List.set, splice, List.take, List.drop, List.nil_append, List.append_nil, List.cons_append, List.length_cons, List.length_nil, Nat.zero_add, Nat.add_zero, Nat.reduceAdd, Nat.reduceMul, Nat.mul_one, Int.toNat_zero, Int.toNat_one, Int.reduceToNat] at S_) | ((with_reducible first|apply St.al|apply St.alM);assumption;intro b_ g_ S_) | ((with_reducible refine ix_of ?_ ?_ ?_);exact of_decide_eq_true rfl;exact of_decide_eq_true rfl) | ((with_reducible first|refine nz_of ?_ ?_|refine nneg_of ?_ ?_);exact of_decide_eq_true rfl) | ((with_reducible refine chk_of ?_ ?_);rfl) | (with_reducible first|apply asI_of|apply asB_of|apply asP_of|apply asSl_of|apply asAggV_of|apply asTupV_of|apply asCons_of|apply asNil_of|apply isNil_n|apply isNil_i|apply nilC_i|apply nilCU_i|apply nilCU_f|apply mthC_i) | ((with_reducible refine And.intro ?_ ?_);rfl) | ((with_reducible apply exAnd);rfl))
  exact hq _ (St.keeps ‹_›)

theorem loop_put {I : Option Nat → Int → Heap → Prop} {m : Nat} {v : V} {hi : Int} (hi0 : hi ≤ 1000) (step : ∀ i g, i ≤ hi → mapPut (.int .i64) (some m) (.int .i64 i) v (fun h => I (some m) (IntKind.i64.wrap (i + 1)) h) g → I (some m) i g) :
    ∀ (n : Nat) (i : Int) (l : List (Int × V)) (g : Heap), i + n = hi + 1 → 0 ≤ i → MapAt g m .i64 l → (∀ g', MapAt g' m .i64 ((List.range n).foldl (fun l (j : Nat) => iput (i + j) v l) l) → Keeps (· = m) g g' → I (some m) (hi + 1) g') → I (some m) i g := by
  intro n
  induction n with
  | zero =>
    intro i l g hin h0 M hk
    have : i = hi + 1 := by omega
    subst this
    exact hk g M (Keeps.refl _ _)
  | succ n ih =>
    intro i l g hin h0 M hk
    refine step i g (by omega) (mapPut_of M (fun g1 M1 k1 => ?_))
    rw [wrap64]
    refine ih (i + 1) _ g1 (by omega) (by omega) M1 (fun g2 M2 k2 => hk g2 ?_ (k1.trans k2))
    rw [List.range_succ_eq_map, List.foldl_cons, List.foldl_map]
    have e : ∀ (l : List (Int × V)) (j : Nat), iput (i + ((j + 1 : Nat) : Int)) v l = iput (i + 1 + (j : Int)) v l := by
      intro l j; congr 1; omega
    have e0 : iput (i + ((0 : Nat) : Int)) v l = iput i v l := by congr 1; omega
    rw [e0]
    have : (fun (l : List (Int × V)) (j : Nat) => iput (i + ((Nat.succ j : Nat) : Int)) v l) = fun l (j : Nat) => iput (i + 1 + (j : Int)) v l := by
      funext l j; exact e l j
    rw [this]
    exact M2

def actsL : List (Int × V) :=
  let put := fun (l : List (Int × V)) (n : Nat) (i : Int) (f : Nat) => (List.range n).foldl (fun l (j : Nat) => iput (i + j) (.fn f []) l) l
  let one := fun (l : List (Int × V)) (i : Int) (f : Nat) => iput i (.fn f []) l
  put (put (put (put (put (one (one (one (one (one (one (one (one (one (one (one (one [] 22 146) 35 147) 36 148) 37 149) 38 150) 39 151) 40 151) 41 152) 42 153) 43 154) 44 155) 45 156) 21 1 157) 3 23 158) 3 26 159) 6 29 160) 3 46 161

theorem acts_of {Q : Option Nat → Heap → Prop} (hq : ∀ m h', MapAt h' m .i64 actsL → Keeps none_ h h' → Q (some m) h') : hart_acts Q h := by
  unfold hart_acts
  refine alM_of (fun m h1 hm M k => ?_)
  have fin : ∀ h', MapAt h' m .i64 actsL → Keeps (· = m) h1 h' → Q (some m) h' := fun h' M' k' => hq m h' M' (Keeps.widen' k k' hm)
  clear hq
  refine mapPut_of M (fun h2 M k2 => mapPut_of M (fun h3 M k3 => mapPut_of M (fun h4 M k4 => mapPut_of M (fun h5 M k5 => mapPut_of M (fun h6 M k6 => mapPut_of M (fun h7 M k7 => mapPut_of M (fun h8 M k8 => mapPut_of M (fun h9 M k9 => mapPut_of M (fun h10 M k10 => mapPut_of M (fun h11 M k11 => mapPut_of M (fun h12 M k12 => mapPut_of M (fun h13 M k13 => ?_))))))))))))
  have kk := ((((((((((k2.trans k3).trans k4).trans k5).trans k6).trans k7).trans k8).trans k9).trans k10).trans k11).trans k12).trans k13
  clear k2 k3 k4 k5 k6 k7 k8 k9 k10 k11 k12 k13
  unfold hart_acts.j3
  intro I HI
  refine loop_put (hi := 21) (by decide) (fun i g hi hx => HI _ _ _ (by unfold hart_acts.b3; exact br_t (by simpa using hi) hx)) 21 1 _ h13 (by decide) (by decide) M (fun g1 M q1 => HI _ _ _ ?_)
  unfold hart_acts.b3
  refine br_f rfl ?_
  unfold hart_acts.j7
  intro I HI
  refine loop_put (hi := 25) (by decide) (fun i g hi hx => HI _ _ _ (by unfold hart_acts.b7; exact br_t (by simpa using hi) hx)) 3 23 _ g1 (by decide) (by decide) M (fun g2 M q2 => HI _ _ _ ?_)
  unfold hart_acts.b7
  refine br_f rfl ?_
  unfold hart_acts.j11
  intro I HI
  refine loop_put (hi := 28) (by decide) (fun i g hi hx => HI _ _ _ (by unfold hart_acts.b11; exact br_t (by simpa using hi) hx)) 3 26 _ g2 (by decide) (by decide) M (fun g3 M q3 => HI _ _ _ ?_)
  unfold hart_acts.b11
  refine br_f rfl ?_
  unfold hart_acts.j15
  intro I HI
  refine loop_put (hi := 34) (by decide) (fun i g hi hx => HI _ _ _ (by unfold hart_acts.b15; exact br_t (by simpa using hi) hx)) 6 29 _ g3 (by decide) (by decide) M (fun g4 M q4 => HI _ _ _ ?_)
  unfold hart_acts.b15
  refine br_f rfl ?_
  unfold hart_acts.j19
  intro I HI
  refine loop_put (hi := 48) (by decide) (fun i g hi hx => HI _ _ _ (by unfold hart_acts.b19; exact br_t (by simpa using hi) hx)) 3 46 _ g4 (by decide) (by decide) M (fun g5 M q5 => HI _ _ _ ?_)
  unfold hart_acts.b19
  refine br_f rfl ?_
  exact fin g5 M ((((kk.trans q1).trans q2).trans q3).trans (q4.trans q5))

/-! ## the reference's memory -/

theorem rnew_of {n : Int} (h0 : 1 ≤ n) (h1 : n ≤ 65536) {Q : Option Ptr → Int → Heap → Prop} (hq : ∀ pb bb h', Mem.Rep pb bb (List.replicate (n * 256).toNat 0) h' → h.obj pb = none → h.obj bb = none → Keeps none_ h h' → Q (some ⟨pb, 0⟩) 0 h') : palisaderef04_New n Q h := by
  have := Mem.New_of (h := h) h0 h1 hq
  exact this

theorem rlies_of {pb bb : Nat} {bs : List UInt8} (R : Mem.Rep pb bb bs h) {a n : Int} (hn : 0 ≤ n) {Q : Bool → Heap → Prop} (hq : Q (lies bs.length a n) h) : palisaderef04_Memory_lies (some ⟨pb, 0⟩) a n Q h := by
  have hs := R.size
  unfold palisaderef04_Memory_lies
  rw [der_some]
  refine loc_Sl R.cell rfl (br_if (fun c => ?_) (fun c => ?_))
  · have c : n ≤ bs.length := by simpa using c
    rw [der_some]
    refine loc_Sl R.cell rfl ?_
    have e : IntKind.u64.wrap (IntKind.i64.wrap (((bs.length : Nat) : Int) - n)) = bs.length - n := by rw [wrap64, wrapu64]
    show Q (decide (a ≤ IntKind.u64.wrap (IntKind.i64.wrap (((bs.length : Nat) : Int) - n)))) h
    rw [e]
    have : lies bs.length a n = decide (a ≤ (bs.length : Int) - n) := by simp [lies, hn, c]
    rw [this] at hq; exact hq
  · have c : ¬ n ≤ bs.length := by simpa using c
    have : lies bs.length a n = false := by simp [lies, c]
    rw [this] at hq; exact hq

theorem rwrong_of {pb bb : Nat} {bs : List UInt8} (R : Mem.Rep pb bb bs h) {n : Nat} (hn : isW n) {a : Int} {Q : Int → Heap → Prop} (hq : Q (errN n bs.length a) h) {a3 : Int} (ew : a3 = ((n : Nat) : Int)) : palisaderef04_Memory_wrong (some ⟨pb, 0⟩) a a3 Q h := by
  subst ew
  unfold palisaderef04_Memory_wrong
  have hn8 : 1 ≤ n ∧ n ≤ 8 := by rcases hn with rfl | rfl | rfl <;> omega
  have fin : palisaderef04_Memory_wrong.j3 (some ⟨pb, 0⟩) a ((n : Nat) : Int) Q h := by
    unfold palisaderef04_Memory_wrong.j3
    have e8 : IntKind.u64.wrap ((n : Nat) : Int) = n := wrapu64
    rw [e8]
    unfold errN at hq
    refine nz_of (by omega) (br_if (fun hm => ?_) (fun hm => ?_))
    · rw [if_pos (by simpa using hm)] at hq; exact hq
    · rw [if_neg (by simpa using hm)] at hq
      refine rlies_of R (by omega) ?_
      cases hl : lies bs.length a n with
      | true => rw [hl] at hq; exact br_f rfl hq
      | false => rw [hl] at hq; exact br_t rfl hq
  rcases hn with rfl | rfl | rfl
  · exact br_f rfl fin
  · exact br_t rfl (br_f rfl fin)
  · exact br_t rfl (br_t rfl (br_f rfl fin))

theorem rbytes_of {n : Nat} (hn : isW n) {v : Int} (h0 : 0 ≤ v) {Q : Sl → Heap → Prop} (hq : ∀ s h' l, Held h' s 1 (strCells l) → l.length = n → (∀ p, s.p = some p → h.obj p.b = none) → Keeps none_ h h' → Q s h') {a3 : Int} (ew : a3 = ((n : Nat) : Int)) : palisaderef01_Store v a3 Q h := by
  subst ew
  unfold palisaderef01_Store
  have hn8 : 1 ≤ n ∧ n ≤ 8 := by rcases hn with rfl | rfl | rfl <;> omega
  have fin : palisaderef01_Store.j3 v ((n : Nat) : Int) Q h := by
    unfold palisaderef01_Store.j3 palisaderef01_Store.j5
    intro I HI
    have key : ∀ (j i : Nat) (l : List UInt8) (s : Sl) (b : Nat) (g : Heap), i + j = n → 1 ≤ i → l.length = i → Own g s 1 (strCells l) b → h.obj b = none → Keeps none_ h g → I v ((n : Nat) : Int) s (i : Int) g := by
      intro j
      induction j with
      | zero =>
        intro i l s b g hi h1 hl O hb k
        refine HI _ _ _ _ _ ?_
        unfold palisaderef01_Store.b5
        exact br_f (by simp; omega) (hq s g l O.held (by omega) (fun p hp => by rw [O.p] at hp; cases hp; exact hb) k)
      | succ j ih =>
        intro i l s b g hi h1 hl O hb k
        refine HI _ _ _ _ _ ?_
        unfold palisaderef01_Store.b5
        have e8 : IntKind.u64.wrap (IntKind.i64.wrap (8 * (i : Int))) = ((8 * i : Nat) : Int) := by rw [wrap64, wrapu64]; omega
        refine br_t (by simp; omega) (nneg_of (by rw [e8]; omega) ?_)
        rw [e8, shr_byte h0 (by omega)]
        have hsl : s.len = i := by have := O.len; rw [strCells_length] at this; omega
        refine al_of (fun b1 g1 hb1 ho1 k1 => ?_)
        have O1 := O.keeps k1 (fun f => f)
        refine rdN_held (vs := [V.int .u8 ((UInt8.ofNat (v.toNat / 256 ^ i % 256)).toNat : Int)]) rfl (fun j u hu => by rw [get_cells ho1, Nat.zero_add]; exact hu) ?_
        refine appS_own O1 rfl rfl (by omega) (by omega) (fun s' g2 b' O2 hl2 hb2 k2 => ?_)
        rw [wrap64]
        have e : strCells l ++ [V.int .u8 ((UInt8.ofNat (v.toNat / 256 ^ i % 256)).toNat : Int)] = strCells (l ++ [UInt8.ofNat (v.toNat / 256 ^ i % 256)]) := by rw [strCells_append]; rfl
        rw [e] at O2
        have hb' : h.obj b' = none := by
          rcases hb2 with rfl | hb2
          · exact hb
          · exact Mem.fresh_of (k.trans k1) hb2
        have := ih (i + 1) _ s' b' g2 (by omega) (by omega) (by simp [hl]) O2 hb' ((k.trans k1).widen' k2 hb)
        simpa using this
    refine HI _ _ _ _ _ ?_
    unfold palisaderef01_Store.b5
    have e8 : IntKind.u64.wrap (IntKind.i64.wrap (8 * (0 : Int))) = ((8 * 0 : Nat) : Int) := by decide
    refine br_t (by simp; omega) (nneg_of (by decide) ?_)
    rw [e8, shr_byte h0 (by omega)]
    refine al_of (fun b1 g1 hb1 ho1 k1 => ?_)
    refine rdN_held (vs := [V.int .u8 ((UInt8.ofNat (v.toNat / 256 ^ 0 % 256)).toNat : Int)]) rfl (fun j u hu => by rw [get_cells ho1, Nat.zero_add]; exact hu) ?_
    refine appS_nil rfl (by omega) rfl (by omega) (by omega) (fun s' g2 b' O2 hl2 hb2 k2 => ?_)
    rw [wrap64]
    have := key (n - 1) 1 [UInt8.ofNat (v.toNat / 256 ^ 0 % 256)] s' b' g2 (by omega) (by omega) rfl O2 (Mem.fresh_of k1 hb2) (k1.trans k2)
    simpa using this
  rcases hn with rfl | rfl | rfl
  · exact br_f rfl fin
  · exact br_t rfl (br_f rfl fin)
  · exact br_t rfl (br_t rfl (br_f rfl fin))

theorem rstore_of {pb bb : Nat} {bs : List UInt8} (R : Mem.Rep pb bb bs h) {n : Nat} (hn : isW n) {a v : Int} (ha : 0 ≤ a) (ha2 : a ≤ 18446744073709551615) (h0 : 0 ≤ v) {Q : Int → Heap → Prop}
    (hq : ∀ e bs' h', Mem.Rep pb bb bs' h' → bs'.length = bs.length → Keeps (· = bb) h h' → Q e h') {a3 : Int} (ew : a3 = ((n : Nat) : Int)) : palisaderef04_Memory_Store (some ⟨pb, 0⟩) a a3 v Q h := by
  unfold palisaderef04_Memory_Store
  have hs := R.size
  refine rwrong_of R hn (br_if (fun c => ?_) (fun c => ?_)) ew
  · exact hq _ bs h R rfl (Keeps.refl _ _)
  have e0 : errN n bs.length a = 0 := by simpa using c
  have hfit : a + n ≤ bs.length := by
    unfold errN at e0
    by_cases c1 : a.tmod n ≠ 0
    · rw [if_pos c1] at e0; cases e0
    · rw [if_neg c1] at e0
      cases hl : lies bs.length a n with
      | false => rw [hl] at e0; cases e0
      | true => simp [lies] at hl; omega
  have hn8 : 1 ≤ n ∧ n ≤ 8 := by rcases hn with rfl | rfl | rfl <;> omega
  refine rbytes_of hn h0 (fun s h1 l H hl hfr k1 => ?_) ew
  unfold palisaderef04_Memory_Store.j6
  intro I HI
  have hsl : s.len = n := by have := H.len; rw [strCells_length] at this; omega
  have R1 := R.keep0 k1
  have key : ∀ (j i : Nat) (cs : List UInt8) (g : Heap), i + j = n → cs.length = bs.length → Mem.Rep pb bb cs g → (∀ p, s.p = some p → p.b ≠ bb → Held g s 1 (strCells l)) → (∀ p, s.p = some p → p.b = bb → False) → Keeps (· = bb) h g → I (some ⟨pb, 0⟩) a s (i : Int) g := by
    intro j
    induction j with
    | zero =>
      intro i cs g hi hc Rg Hg hne k
      refine HI _ _ _ _ _ ?_
      unfold palisaderef04_Memory_Store.b6
      exact br_f (by simp; omega) (hq 0 cs g Rg hc k)
    | succ j ih =>
      intro i cs g hi hc Rg Hg hne k
      refine HI _ _ _ _ _ ?_
      unfold palisaderef04_Memory_Store.b6
      obtain ⟨p, hp⟩ : ∃ p, s.p = some p := by
        cases hp : s.p with
        | none => have := H.nil hp; omega
        | some p => exact ⟨p, rfl⟩
      have hpb : p.b ≠ bb := fun e => hne p hp e
      have Hs := Hg p hp hpb
      have hli : i < l.length := by omega
      have hlg : l[i]? = some l[i] := List.getElem?_eq_getElem hli
      refine br_t (by simp; omega) ?_
      rw [der_some]
      refine loc_Sl Rg.cell rfl (ix_of (by omega) (by omega) ?_)
      rw [hp, der_some, Int.toNat_natCast]
      refine rdI_of (x := (l[i].toNat : Int)) (by rw [Nat.mul_one]; exact Hs.row p hp i _ (by rw [strCells_get, hlg]; rfl)) ?_
      have ea : IntKind.i64.wrap (IntKind.i64.wrap a + (i : Int)) = a + i := by rw [wrap64 (x := a), wrap64]
      rw [ea]
      refine ix_of (by omega) (by show (a + i : Int) < ((cs.length : Nat) : Int); omega) ?_
      rw [der_some]
      obtain ⟨mk, harr⟩ := Rg.arr
      have hk1 : (a + (i : Int)).toNat < (strCells cs).length := by rw [strCells_length]; omega
      have e0 : 0 + (a + (i : Int)).toNat * 1 = (a + (i : Int)).toNat := by omega
      refine wr_M (u := (strCells cs)[(a + (i : Int)).toNat]) harr (by rw [e0]; exact List.getElem?_eq_getElem hk1) (fun g1 ho1 k2 => ?_)
      rw [e0] at ho1
      have ecs : (strCells cs).set (a + (i : Int)).toNat (.int .u8 (l[i].toNat : Int)) = strCells (cs.set (a + (i : Int)).toNat l[i]) := by unfold strCells; rw [List.map_set]
      rw [ecs] at ho1
      rw [wrap64]
      have := ih (i + 1) _ g1 (by omega) (by rw [List.length_set]; exact hc) ⟨by rw [List.length_set]; exact k2.obj Rg.cell Rg.ne, ⟨mk, ho1⟩, Rg.ne, by rw [List.length_set]; exact Rg.size⟩ (fun q hq hqb => (Hg q hq hqb).keeps k2 (fun q' hq' => by rw [hq] at hq'; cases hq'; exact hqb)) hne (k.trans k2)
      simpa using this
  have hne : ∀ p, s.p = some p → p.b = bb → False := by
    intro p hp e
    exact R.known2 (by rw [← e]; exact hfr p hp)
  have := key n 0 bs h1 (by omega) rfl R1 (fun _ _ _ => H) hne (k1.mono (fun _ f => f.elim))
  simpa using this

end
end Go.Hart

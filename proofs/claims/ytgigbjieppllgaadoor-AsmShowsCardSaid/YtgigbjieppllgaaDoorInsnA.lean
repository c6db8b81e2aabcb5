/- Words and instructions: what each function answers, exactly. -/
import Derived.Test.YtgigbjieppllgaaDoorStKit
import Derived.Test.YtgigbjieppllgaaDoorNumKit
import Derived.Test.YtgigbjieppllgaaDoorFa
set_option linter.unusedSimpArgs false
set_option linter.unusedVariables false
set_option maxRecDepth 100000
namespace Go.Insn
open Go.Lift Go.Fn

def within (a b c : Int) : Bool := decide (a ≥ b) && decide (a ≤ c)
def wlies (at_ n : Int) : Bool := within at_ 0 31 && (within n 1 32 && decide (IntKind.i64.wrap (at_ + n) ≤ 32))
def wmask (n : Int) : Int := IntKind.u64.wrap (shlI .u64 1 n - 1)
def wfield (w at_ n : Int) : Int := IntKind.i64.wrap (ibits .and .u64 (shrI .u64 (IntKind.u64.wrap w) at_) (wmask n))
def wsign (v n : Int) : Int := shrI .i64 (shlI .i64 v (IntKind.i64.wrap (64 - n))) (IntKind.i64.wrap (64 - n))
def wplace (w v at_ n : Int) : Int := ibits .or .u32 (ibits .andNot .u32 w (IntKind.u32.wrap (shlI .u64 (wmask n) at_))) (ibits .and .u32 (shlI .u32 (IntKind.u32.wrap v) at_) (IntKind.u32.wrap (shlI .u64 (wmask n) at_)))

section
variable {h : Heap}

theorem within_of {a b c : Int} {Q : Bool → Heap → Prop} (hq : Q (within a b c) h) : word_within_int a b c Q h := by
  unfold word_within_int
  unfold within at hq
  refine br_if (fun h1 => ?_) (fun h1 => ?_) <;> (rw [h1] at hq; exact hq)

theorem lies_of {a n : Int} {Q : Bool → Heap → Prop} (hq : Q (wlies a n) h) : word_lies a n Q h := by
  unfold word_lies
  unfold wlies at hq
  refine within_of (br_if (fun h1 => within_of (br_if (fun h2 => ?_) (fun h2 => ?_))) (fun h1 => ?_))
  · rw [h1, h2] at hq; exact hq
  · rw [h1, h2] at hq; exact hq
  · rw [h1] at hq; exact hq

theorem Field_of {w a n : Int} (hl : wlies a n = true) (ha : 0 ≤ a) (hn : 0 ≤ n) {Q : Int → Heap → Prop} (hq : Q (wfield w a n) h) : word_Field w a n Q h := by
  unfold word_Field word_mask
  refine lies_of (br_f (by rw [hl]; rfl) (nneg_of ha (nneg_of hn ?_)))
  exact hq

theorem Sign_of {v n : Int} (hn : within n 1 63 = true) (h0 : 0 ≤ IntKind.i64.wrap (64 - n)) {Q : Int → Heap → Prop} (hq : Q (wsign v n) h) : word_Sign v n Q h := by
  unfold word_Sign
  exact within_of (br_f (by rw [hn]; rfl) (nneg_of h0 (nneg_of h0 hq)))

theorem Fits_of {v n : Int} (hn : within n 1 63 = true) (h0 : 0 ≤ IntKind.i64.wrap (64 - n)) {Q : Bool → Heap → Prop} (hq : Q (wsign v n == v) h) : word_Fits v n Q h := by
  unfold word_Fits
  exact within_of (br_t hn (Sign_of hn h0 hq))

theorem Place_of {w v a n : Int} (hl : wlies a n = true) (ha : 0 ≤ a) (hn : 0 ≤ n) {Q : Int → Heap → Prop} (hq : Q (wplace w v a n) h) : word_Place w v a n Q h := by
  unfold word_Place word_mask
  exact lies_of (br_f (by rw [hl]; rfl) (nneg_of hn (nneg_of ha (nneg_of ha hq))))

/-! ## shapes -/

theorem fill_of {m : Nat} {v : Int} {s : Sl} : ∀ {ks : List Int} {l : List (Int × V)} {h : Heap}, MapAt h m .i64 l → Held h s 1 (ks.map (V.int .i64)) → (∀ p, s.p = some p → p.b ≠ m) → ks.length ≤ 1000 → ∀ {Q : Heap → Prop},
    (∀ h', MapAt h' m .i64 (ks.foldl (fun l k => iput k (.int .i64 v) l) l) → Keeps (· = m) h h' → Q h') → insn_table_int_int_fill (some m) v s Q h := by
  intro ks l h M H hne hks Q hq
  unfold insn_table_int_int_fill insn_table_int_int_fill.j1
  intro I HI
  have hlen : s.len = ks.length := by have := H.len; simp at this; omega
  rw [hlen]
  have key : ∀ (j i : Nat) (g : Heap), i + j = ks.length → MapAt g m .i64 ((ks.take i).foldl (fun l k => iput k (.int .i64 v) l) l) → Keeps (· = m) h g → I (some m) v s ((ks.length : Nat) : Int) (i : Int) g := by
    intro j
    induction j with
    | zero =>
      intro i g hi Mg k
      refine HI _ _ _ _ _ _ ?_
      unfold insn_table_int_int_fill.b1
      refine br_f (by simp; omega) ?_
      rw [List.take_of_length_le (by omega)] at Mg
      exact hq g Mg k
    | succ j ih =>
      intro i g hi Mg k
      refine HI _ _ _ _ _ _ ?_
      unfold insn_table_int_int_fill.b1
      have hil : i < ks.length := by omega
      obtain ⟨p, hp⟩ : ∃ p, s.p = some p := by
        cases hp : s.p with
        | none => have := H.nil hp; omega
        | some p => exact ⟨p, rfl⟩
      have Hg := H.keeps k (fun p hp e => hne p hp e)
      have hki : ks[i]? = some ks[i] := List.getElem?_eq_getElem hil
      refine br_t (by simp; omega) (ix_of (by omega) (by omega) ?_)
      rw [hp, der_some, Int.toNat_natCast]
      refine rdI_of (x := ks[i]) ?_ (mapPut_of Mg (fun g' Mg' k' => ?_))
      · have := Hg.row p hp i (.int .i64 ks[i]) (by rw [List.getElem?_map, hki]; rfl)
        rw [Nat.mul_one]; exact this
      · rw [wrap64]
        have := ih (i + 1) g' (by omega) (by rw [List.take_add_one, List.foldl_append, hki]; exact Mg') (k.trans k')
        simpa using this
  have := key ks.length 0 h (by omega) (by simpa using M) (Keeps.refl _ _)
  simpa using this

def shapesL : List (Int × V) :=
  let put := fun (l : List (Int × V)) (v : Int) (ks : List Int) => ks.foldl (fun l k => iput k (.int .i64 v) l) l
  put (put (put (put (put (put (iput 45 (.int .i64 6) []) 0 [41, 42, 43, 44]) 1 [1, 2, 3, 4, 5, 6, 7, 8, 9, 10, 11, 12, 13, 37, 38, 39, 40]) 2 [14, 15, 16, 17, 18, 19, 20, 21, 23, 24, 25, 36, 46, 47, 48]) 3 [26, 27, 28]) 4 [29, 30, 31, 32, 33, 34]) 5 [22, 35]

theorem held_ints {b : Nat} {ks : List Int} {n : Nat} (ho : h.obj b = some (.cells (ks.map (V.int .i64)) false)) (hn : ks.length = n) : Held h ⟨some ⟨b, 0⟩, n, n⟩ 1 (ks.map (V.int .i64)) := by
  refine ⟨by simp [hn], fun p hp i v hv => ?_, fun hp => by cases hp⟩
  cases hp
  rw [get_cells ho, ← hv, Nat.zero_add]

theorem shapes_step {m : Nat} {l : List (Int × V)} (M : MapAt h m .i64 l) {v : Int} {ks : List Int} {n : Nat} (hn : ks.length = n) (hks : ks.length ≤ 1000) {κ : Heap → Prop}
    (hq : ∀ h', MapAt h' m .i64 (ks.foldl (fun l k => iput k (.int .i64 v) l) l) → (∀ z, h.obj z ≠ none → z ≠ m → h'.obj z = h.obj z) → (∀ z, h.obj z ≠ none → h'.obj z ≠ none) → κ h') :
    al (ks.map (V.int .i64)) (fun b h => insn_table_int_int_fill (some m) v ⟨some ⟨b, 0⟩, n, n⟩ (fun h => κ h) h) h := by
  refine al_of (fun b h1 hb ho k => ?_)
  have M1 := M.keeps k (fun f => f)
  have hbm : b ≠ m := M.ne hb
  refine fill_of M1 (held_ints ho hn) (fun p hp => by cases hp; exact hbm) hks (fun h2 M2 k2 => ?_)
  refine hq h2 M2 (fun z hz hm => ?_) (fun z hz => k2.known z (k.known z hz))
  rw [k2.same z (k.known z hz) hm, k.same z hz (fun f => f)]

theorem shapes_of {Q : Option Nat → Heap → Prop} (hq : ∀ m h', MapAt h' m .i64 shapesL → Keeps none_ h h' → Q (some m) h') : insn_shapes Q h := by
  unfold insn_shapes
  refine alM_of (fun m h1 hm M k => ?_)
  refine mapPut_of M (fun h2 M k2 => ?_)
  refine shapes_step (ks := [41, 42, 43, 44]) M rfl (by decide) (fun h3 M s3 n3 => ?_)
  refine shapes_step (ks := [1, 2, 3, 4, 5, 6, 7, 8, 9, 10, 11, 12, 13, 37, 38, 39, 40]) M rfl (by decide) (fun h4 M s4 n4 => ?_)
  refine shapes_step (ks := [14, 15, 16, 17, 18, 19, 20, 21, 23, 24, 25, 36, 46, 47, 48]) M rfl (by decide) (fun h5 M s5 n5 => ?_)
  refine shapes_step (ks := [26, 27, 28]) M rfl (by decide) (fun h6 M s6 n6 => ?_)
  refine shapes_step (ks := [29, 30, 31, 32, 33, 34]) M rfl (by decide) (fun h7 M s7 n7 => ?_)
  refine shapes_step (ks := [22, 35]) M rfl (by decide) (fun h8 M s8 n8 => ?_)
  refine hq m h8 M ⟨fun z hz _ => ?_, fun z hz => n8 z (n7 z (n6 z (n5 z (n4 z (n3 z (k2.known z (k.known z hz)))))))⟩
  have z1 := k.known z hz
  have zm : z ≠ m := fun e => hz (e ▸ hm)
  have z2 := k2.known z z1
  have z3 := n3 z z2
  have z4 := n4 z z3
  have z5 := n5 z z4
  have z6 := n6 z z5
  have z7 := n7 z z6
  rw [s8 z z7 zm, s7 z z6 zm, s6 z z5 zm, s5 z z4 zm, s4 z z3 zm, s3 z z2 zm, k2.same z z1 zm, k.same z hz (fun f => f)]

/-- The shape of an operation; none: there is no such operation. -/
def shapeOf (op : Int) : Option Int := match ifind op shapesL with | some (.int .i64 v) => some v | _ => none

theorem shapesL_ints : ∀ p ∈ shapesL, ∃ v, p.2 = V.int .i64 v := by
  have : shapesL.all (fun p => match p.2 with | .int .i64 _ => true | _ => false) = true := by decide +kernel
  intro p hp
  have := List.all_eq_true.1 this p hp
  obtain ⟨a, v⟩ := p
  dsimp only at this
  split at this
  · exact ⟨_, rfl⟩
  · cases this

theorem ifind_mem {a : Int} {v : V} : ∀ {l : List (Int × V)}, ifind a l = some v → ∃ p ∈ l, p.2 = v
  | [], h => by cases h
  | (b, u) :: l, h => by
    simp only [ifind] at h
    split at h
    · injection h with h; exact ⟨(b, u), by simp, h⟩
    · obtain ⟨p, hp, e⟩ := ifind_mem (l := l) h
      exact ⟨p, by simp [hp], e⟩

theorem Shape_of {op : Int} {Q : Int → Bool → Heap → Prop} (hq : ∀ h', Keeps none_ h h' → Q ((shapeOf op).getD 0) (shapeOf op).isSome h') : insn_Shape op Q h := by
  unfold insn_Shape
  refine shapes_of (fun m h1 M k => mapGet_of M ?_)
  have := hq h1 k
  unfold shapeOf at this
  cases hf : ifind op shapesL with
  | none => rw [hf] at this; exact asI_of this
  | some v =>
    rw [hf] at this
    obtain ⟨p, hp, e⟩ := ifind_mem hf
    obtain ⟨n, hn⟩ := shapesL_ints p hp
    rw [← e, hn] at this ⊢
    exact asI_of this

/-! ## instructions that may be -/

def immOk (op sh v : Int) : Bool :=
  if op = 18 ∨ op = 19 ∨ op = 20 then decide (v ≥ 0) && decide (v < 64)
  else if op = 46 ∨ op = 47 ∨ op = 48 then decide (v ≥ 0) && decide (v < 4096)
  else if sh = 2 ∨ sh = 3 ∨ sh = 4 then wsign v 14 == v
  else if sh = 5 then wsign v 18 == v
  else v == 0

theorem immOf_of {op sh v : Int} {Q : Bool → Heap → Prop} (hq : Q (immOk op sh v) h) : insn_immOf op sh v Q h := by
  unfold insn_immOf
  unfold immOk at hq
  have j5 : op = 18 ∨ op = 19 ∨ op = 20 → insn_immOf.j5 v Q h := by
    intro c
    rw [if_pos c] at hq
    unfold insn_immOf.j5
    refine br_if (fun h1 => ?_) (fun h1 => ?_) <;> (rw [h1] at hq; exact hq)
  refine br_if (fun c => j5 (by simp at c; omega)) (fun c1 => br_if (fun c => j5 (by simp at c; omega)) (fun c2 => br_if (fun c => j5 (by simp at c; omega)) (fun c3 => ?_)))
  simp only [beq_eq_false_iff_ne, ne_eq] at c1 c2 c3
  rw [if_neg (by omega)] at hq
  have j9 : op = 46 ∨ op = 47 ∨ op = 48 → insn_immOf.j9 v Q h := by
    intro c
    rw [if_pos c] at hq
    unfold insn_immOf.j9
    refine br_if (fun h1 => ?_) (fun h1 => ?_) <;> (rw [h1] at hq; exact hq)
  refine br_if (fun c => j9 (by simp at c; omega)) (fun c4 => br_if (fun c => j9 (by simp at c; omega)) (fun c5 => br_if (fun c => j9 (by simp at c; omega)) (fun c6 => ?_)))
  simp only [beq_eq_false_iff_ne, ne_eq] at c4 c5 c6
  rw [if_neg (by omega)] at hq
  have f14 : sh = 2 ∨ sh = 3 ∨ sh = 4 → word_Fits v 14 (fun r h => Q r h) h := by
    intro c
    rw [if_pos c] at hq
    exact Fits_of rfl (by decide) hq
  refine br_if (fun c => f14 (by simp at c; omega)) (fun c7 => br_if (fun c => f14 (by simp at c; omega)) (fun c8 => br_if (fun c => f14 (by simp at c; omega)) (fun c9 => ?_)))
  simp only [beq_eq_false_iff_ne, ne_eq] at c7 c8 c9
  rw [if_neg (by omega)] at hq
  refine br_if (fun c => ?_) (fun c => ?_)
  · rw [if_pos (by simpa using c)] at hq
    exact Fits_of rfl (by decide) hq
  · rw [if_neg (by simpa using c)] at hq
    exact hq

def regOk (r : Int) (has : Bool) : Bool := !(decide (r < 0)) && (!(decide (r > 15)) && !(decide (r > 0) && !has))

theorem regs_of {b : Nat} {l : List V} (ho : h.obj b = some (.cells l false)) : ∀ {n : Nat} (rs : List (Int × Bool)), l = rs.flatMap (fun p => [.int .i64 p.1, .bool p.2]) → rs.length = n → n ≤ 1000 → ∀ {Q : Bool → Heap → Prop},
    (∀ h', Keeps none_ h h' → Q (rs.all fun p => regOk p.1 p.2) h') → insn_Valid.j5 ⟨some ⟨b, 0⟩, n, n⟩ ((n : Nat) : Int) 0 Q h := by
  intro n rs hl hn hn1 Q hq
  unfold insn_Valid.j5
  intro I HI
  have key : ∀ (j i : Nat) (g : Heap), i + j = n → (∀ p ∈ rs.take i, regOk p.1 p.2 = true) → Keeps none_ h g → I ⟨some ⟨b, 0⟩, n, n⟩ (n : Int) (i : Int) g := by
    intro j
    induction j with
    | zero =>
      intro i g hi hr k
      refine HI _ _ _ _ ?_
      unfold insn_Valid.b5
      refine br_f (by simp; omega) ?_
      have := hq g k
      rw [List.take_of_length_le (by omega)] at hr
      rw [List.all_eq_true.2 hr] at this
      exact this
    | succ j ih =>
      intro i g hi hr k
      refine HI _ _ _ _ ?_
      unfold insn_Valid.b5
      have hog := k.obj ho (fun f => f)
      have hil : i < rs.length := by omega
      have hri : rs[i]? = some rs[i] := List.getElem?_eq_getElem hil
      have hget : ∀ (rs : List (Int × Bool)) (i : Nat) (p : Int × Bool), rs[i]? = some p → (rs.flatMap (fun p => [V.int .i64 p.1, .bool p.2]))[i * 2]? = some (.int .i64 p.1) ∧ (rs.flatMap (fun p => [V.int .i64 p.1, .bool p.2]))[i * 2 + 1]? = some (.bool p.2) := by
        intro rs
        induction rs with
        | nil => intro i p hp; simp at hp
        | cons q rs ih =>
          intro i p hp
          cases i with
          | zero => simp at hp; subst hp; exact ⟨rfl, rfl⟩
          | succ i =>
            simp at hp
            have := ih i p hp
            have e : (i + 1) * 2 = i * 2 + 2 := by omega
            rw [e]
            exact this
      obtain ⟨g1, g2⟩ := hget rs i rs[i] hri
      generalize hp : rs[i] = p at *
      have stop : regOk p.1 p.2 = false → ∀ g', Keeps none_ g g' → Q false g' := by
        intro hf g' k'
        have := hq g' (k.trans k')
        rw [show (rs.all fun p => regOk p.1 p.2) = false from by
          rw [List.all_eq_false]
          exact ⟨p, List.mem_of_getElem? hri, by rw [hf]; simp⟩] at this
        exact this
      have next : regOk p.1 p.2 = true → ∀ g', Keeps none_ g g' → I ⟨some ⟨b, 0⟩, n, n⟩ (n : Int) (IntKind.i64.wrap ((i : Int) + 1)) g' := by
        intro ht g' k'
        rw [wrap64]
        have := ih (i + 1) g' (by omega) (fun q hq => by
          rw [List.take_add_one, hri] at hq
          rcases List.mem_append.1 hq with hq | hq
          · exact hr q hq
          · simp at hq; subst hq; exact ht) (k.trans k')
        simpa using this
      refine br_t (by simp; omega) (ix_of (by omega) (by show (i : Int) < ((n : Nat) : Int); omega) ?_)
      rw [der_some, Int.toNat_natCast]
      have e1 : 0 + i * 2 + 0 = i * 2 := by omega
      have e2 : 0 + i * 2 + 1 = i * 2 + 1 := by omega
      refine loc_I hog (x := p.1) (by rw [hl]; show _[0 + i * 2 + 0]? = _; rw [e1]; exact g1) (loc_B hog (x := p.2) (by rw [hl]; show _[0 + i * 2 + 1]? = _; rw [e2]; exact g2) ?_)
      have S := St.start g none_
      repeat (first | ((with_reducible first|apply St.rI|apply St.rB|apply St.rP|apply St.rSl|apply St.rV|apply St.rM|apply St.rS|apply St.rN|apply St.ckA);assumption;(first|exact i0|exact i1|exact i2|exact i3|exact i4|exact i5|exact i6|exact i7|exact i8|exact i9|exact i10|exact i11|exact i12|exact i13|exact i14|exact i15);(first|rfl|exact Nat.le_of_ble_eq_true rfl)) | with_reducible refine der_of ?_ | ((with_reducible refine br_t ?_ ?_);rfl) | ((with_reducible refine br_f ?_ ?_);rfl) | ((with_reducible refine br_t ?_ ?_);assumption) | ((with_reducible refine br_f ?_ ?_);assumption) | ((with_reducible first|apply St.wrL|apply St.wr);assumption;(first|exact i0|exact i1|exact i2|exact i3|exact i4|exact i5|exact i6|exact i7|exact i8|exact i9|exact i10|exact i11|exact i12|exact i13|exact i14|exact i15);(first|exact Nat.le_of_ble_eq_true rfl|rfl);intro g_ S_;simp only [Ptr.add, List.set, splice, List.take, List.drop, List.nil_append, List.append_nil, List.cons_append, List.length_cons, List.length_nil, Nat.zero_add, Nat.add_zero, Nat.reduceAdd, Nat.reduceMul, Nat.mul_one, Int.toNat_zero, Int.toNat_one, Int.reduceToNat] at S_) | ((with_reducible first|apply St.al|apply St.alM);assumption;intro b_ g_ S_) | ((with_reducible refine ix_of ?_ ?_ ?_);exact of_decide_eq_true rfl;exact of_decide_eq_true rfl) | ((with_reducible first|refine nz_of ?_ ?_|refine nneg_of ?_ ?_);exact of_decide_eq_true rfl) | ((with_reducible refine chk_of ?_ ?_);rfl) | (with_reducible first|apply asI_of|apply asB_of|apply asP_of|apply asSl_of|apply asAggV_of|apply asTupV_of|apply asCons_of|apply asNil_of|apply isNil_n|apply isNil_i|apply nilC_i|apply nilCU_i|apply nilCU_f|apply mthC_i) | ((with_reducible refine And.intro ?_ ?_);rfl) | ((with_reducible apply exAnd);rfl))
      refine br_if (fun c => ?_) (fun c1 => ?_)
      · unfold insn_Valid.j8
        exact stop (by unfold regOk; rw [c]; rfl) _ (St.keeps ‹_›)
      repeat (first | ((with_reducible first|apply St.rI|apply St.rB|apply St.rP|apply St.rSl|apply St.rV|apply St.rM|apply St.rS|apply St.rN|apply St.ckA);assumption;(first|exact i0|exact i1|exact i2|exact i3|exact i4|exact i5|exact i6|exact i7|exact i8|exact i9|exact i10|exact i11|exact i12|exact i13|exact i14|exact i15);(first|rfl|exact Nat.le_of_ble_eq_true rfl)) | with_reducible refine der_of ?_ | ((with_reducible refine br_t ?_ ?_);rfl) | ((with_reducible refine br_f ?_ ?_);rfl) | ((with_reducible refine br_t ?_ ?_);assumption) | ((with_reducible refine br_f ?_ ?_);assumption) | ((with_reducible first|apply St.wrL|apply St.wr);assumption;(first|exact i0|exact i1|exact i2|exact i3|exact i4|exact i5|exact i6|exact i7|exact i8|exact i9|exact i10|exact i11|exact i12|exact i13|exact i14|exact i15);(first|exact Nat.le_of_ble_eq_true rfl|rfl);intro g_ S_;simp only [Ptr.add, List.set, splice, List.take, List.drop, List.nil_append, List.append_nil, List.cons_append, List.length_cons, List.length_nil, Nat.zero_add, Nat.add_zero, Nat.reduceAdd, Nat.reduceMul, Nat.mul_one, Int.toNat_zero, Int.toNat_one, Int.reduceToNat] at S_) | ((with_reducible first|apply St.al|apply St.alM);assumption;intro b_ g_ S_) | ((with_reducible refine ix_of ?_ ?_ ?_);exact of_decide_eq_true rfl;exact of_decide_eq_true rfl) | ((with_reducible first|refine nz_of ?_ ?_|refine nneg_of ?_ ?_);exact of_decide_eq_true rfl) | ((with_reducible refine chk_of ?_ ?_);rfl) | (with_reducible first|apply asI_of|apply asB_of|apply asP_of|apply asSl_of|apply asAggV_of|apply asTupV_of|apply asCons_of|apply asNil_of|apply isNil_n|apply isNil_i|apply nilC_i|apply nilCU_i|apply nilCU_f|apply mthC_i) | ((with_reducible refine And.intro ?_ ?_);rfl) | ((with_reducible apply exAnd);rfl))
      refine br_if (fun c => ?_) (fun c2 => ?_)
      · unfold insn_Valid.j8
        exact stop (by unfold regOk; rw [c1, c]; rfl) _ (St.keeps ‹_›)
      repeat (first | ((with_reducible first|apply St.rI|apply St.rB|apply St.rP|apply St.rSl|apply St.rV|apply St.rM|apply St.rS|apply St.rN|apply St.ckA);assumption;(first|exact i0|exact i1|exact i2|exact i3|exact i4|exact i5|exact i6|exact i7|exact i8|exact i9|exact i10|exact i11|exact i12|exact i13|exact i14|exact i15);(first|rfl|exact Nat.le_of_ble_eq_true rfl)) | with_reducible refine der_of ?_ | ((with_reducible refine br_t ?_ ?_);rfl) | ((with_reducible refine br_f ?_ ?_);rfl) | ((with_reducible refine br_t ?_ ?_);assumption) | ((with_reducible refine br_f ?_ ?_);assumption) | ((with_reducible first|apply St.wrL|apply St.wr);assumption;(first|exact i0|exact i1|exact i2|exact i3|exact i4|exact i5|exact i6|exact i7|exact i8|exact i9|exact i10|exact i11|exact i12|exact i13|exact i14|exact i15);(first|exact Nat.le_of_ble_eq_true rfl|rfl);intro g_ S_;simp only [Ptr.add, List.set, splice, List.take, List.drop, List.nil_append, List.append_nil, List.cons_append, List.length_cons, List.length_nil, Nat.zero_add, Nat.add_zero, Nat.reduceAdd, Nat.reduceMul, Nat.mul_one, Int.toNat_zero, Int.toNat_one, Int.reduceToNat] at S_) | ((with_reducible first|apply St.al|apply St.alM);assumption;intro b_ g_ S_) | ((with_reducible refine ix_of ?_ ?_ ?_);exact of_decide_eq_true rfl;exact of_decide_eq_true rfl) | ((with_reducible first|refine nz_of ?_ ?_|refine nneg_of ?_ ?_);exact of_decide_eq_true rfl) | ((with_reducible refine chk_of ?_ ?_);rfl) | (with_reducible first|apply asI_of|apply asB_of|apply asP_of|apply asSl_of|apply asAggV_of|apply asTupV_of|apply asCons_of|apply asNil_of|apply isNil_n|apply isNil_i|apply nilC_i|apply nilCU_i|apply nilCU_f|apply mthC_i) | ((with_reducible refine And.intro ?_ ?_);rfl) | ((with_reducible apply exAnd);rfl))
      refine br_if (fun c3 => ?_) (fun c3 => ?_)
      · repeat (first | ((with_reducible first|apply St.rI|apply St.rB|apply St.rP|apply St.rSl|apply St.rV|apply St.rM|apply St.rS|apply St.rN|apply St.ckA);assumption;(first|exact i0|exact i1|exact i2|exact i3|exact i4|exact i5|exact i6|exact i7|exact i8|exact i9|exact i10|exact i11|exact i12|exact i13|exact i14|exact i15);(first|rfl|exact Nat.le_of_ble_eq_true rfl)) | with_reducible refine der_of ?_ | ((with_reducible refine br_t ?_ ?_);rfl) | ((with_reducible refine br_f ?_ ?_);rfl) | ((with_reducible refine br_t ?_ ?_);assumption) | ((with_reducible refine br_f ?_ ?_);assumption) | ((with_reducible first|apply St.wrL|apply St.wr);assumption;(first|exact i0|exact i1|exact i2|exact i3|exact i4|exact i5|exact i6|exact i7|exact i8|exact i9|exact i10|exact i11|exact i12|exact i13|exact i14|exact i15);(first|exact Nat.le_of_ble_eq_true rfl|rfl);intro g_ S_;simp only [Ptr.add, List.set, splice, List.take, List.drop, List.nil_append, List.append_nil, List.cons_append, List.length_cons, List.length_nil, Nat.zero_add, Nat.add_zero, Nat.reduceAdd, Nat.reduceMul, Nat.mul_one, Int.toNat_zero, Int.toNat_one, Int.reduceToNat] at S_) | ((with_reducible first|apply St.al|apply St.alM);assumption;intro b_ g_ S_) | ((with_reducible refine ix_of ?_ ?_ ?_);exact of_decide_eq_true rfl;exact of_decide_eq_true rfl) | ((with_reducible first|refine nz_of ?_ ?_|refine nneg_of ?_ ?_);exact of_decide_eq_true rfl) | ((with_reducible refine chk_of ?_ ?_);rfl) | (with_reducible first|apply asI_of|apply asB_of|apply asP_of|apply asSl_of|apply asAggV_of|apply asTupV_of|apply asCons_of|apply asNil_of|apply isNil_n|apply isNil_i|apply nilC_i|apply nilCU_i|apply nilCU_f|apply mthC_i) | ((with_reducible refine And.intro ?_ ?_);rfl) | ((with_reducible apply exAnd);rfl))
        refine br_if (fun c => ?_) (fun c => ?_)
        · unfold insn_Valid.j8
          exact stop (by unfold regOk; rw [c1, c2, c3, c]; rfl) _ (St.keeps ‹_›)
        · unfold insn_Valid.j9
          exact next (by unfold regOk; rw [c1, c2, c3, c]; rfl) _ (St.keeps ‹_›)
      · unfold insn_Valid.j9
        exact next (by unfold regOk; rw [c1, c2, c3]; rfl) _ (St.keeps ‹_›)
  have := key n 0 h (by omega) (fun p hp => by simp at hp) (Keeps.refl _ _)
  simpa using this

def validOf (op rd rs1 rs2 imm : Int) : Bool :=
  match shapeOf op with
  | none => false
  | some sh => immOk op sh imm && (!(op == 37 && rs2 != 0) && (regOk rd (sh == 1 || (sh == 2 || sh == 5)) && (regOk rs1 (sh != 0 && sh != 5) && (regOk rs2 (sh == 1 || (sh == 3 || sh == 4)) && true))))

theorem Valid_of {op rd rs1 rs2 imm : Int} {Q : Bool → Heap → Prop} (hq : ∀ h', Keeps none_ h h' → Q (validOf op rd rs1 rs2 imm) h') : insn_Valid op rd rs1 rs2 imm Q h := by
  unfold insn_Valid
  have S := St.start h none_
  repeat (first | ((with_reducible first|apply St.rI|apply St.rB|apply St.rP|apply St.rSl|apply St.rV|apply St.rM|apply St.rS|apply St.rN|apply St.ckA);assumption;(first|exact i0|exact i1|exact i2|exact i3|exact i4|exact i5|exact i6|exact i7|exact i8|exact i9|exact i10|exact i11|exact i12|exact i13|exact i14|exact i15);(first|rfl|exact Nat.le_of_ble_eq_true rfl)) | with_reducible refine der_of ?_ | ((with_reducible refine br_t ?_ ?_);rfl) | ((with_reducible refine br_f ?_ ?_);rfl) | ((with_reducible refine br_t ?_ ?_);assumption) | ((with_reducible refine br_f ?_ ?_);assumption) | ((with_reducible first|apply St.wrL|apply St.wr);assumption;(first|exact i0|exact i1|exact i2|exact i3|exact i4|exact i5|exact i6|exact i7|exact i8|exact i9|exact i10|exact i11|exact i12|exact i13|exact i14|exact i15);(first|exact Nat.le_of_ble_eq_true rfl|rfl);intro g_ S_;simp only [Ptr.add, List.set, splice, List.take, List.drop, List.nil_append, List.append_nil, List.cons_append, List.length_cons, List.length_nil, Nat.zero_add, Nat.add_zero, Nat.reduceAdd, Nat.reduceMul, Nat.mul_one, Int.toNat_zero, Int.toNat_one, Int.reduceToNat] at S_) | ((with_reducible first|apply St.al|apply St.alM);assumption;intro b_ g_ S_) | ((with_reducible refine ix_of ?_ ?_ ?_);exact of_decide_eq_true rfl;exact of_decide_eq_true rfl) | ((with_reducible first|refine nz_of ?_ ?_|refine nneg_of ?_ ?_);exact of_decide_eq_true rfl) | ((with_reducible refine chk_of ?_ ?_);rfl) | (with_reducible first|apply asI_of|apply asB_of|apply asP_of|apply asSl_of|apply asAggV_of|apply asTupV_of|apply asCons_of|apply asNil_of|apply isNil_n|apply isNil_i|apply nilC_i|apply nilCU_i|apply nilCU_f|apply mthC_i) | ((with_reducible refine And.intro ?_ ?_);rfl) | ((with_reducible apply exAnd);rfl))
  refine Shape_of (fun h2 k2 => ?_)
  have S2 := St.keep ‹_› k2
  cases hs : shapeOf op with
  | none =>
    dsimp only [Option.getD_none, Option.isSome_none]
    refine br_t rfl ?_
    unfold insn_Valid.j3
    have := hq h2 S2.keeps
    unfold validOf at this; rw [hs] at this; exact this
  | some sh =>
    have hq : ∀ h', Keeps none_ h h' → Q (immOk op sh imm && (!(op == 37 && rs2 != 0) && (regOk rd (sh == 1 || (sh == 2 || sh == 5)) && (regOk rs1 (sh != 0 && sh != 5) && (regOk rs2 (sh == 1 || (sh == 3 || sh == 4)) && true))))) h' := by
      intro h' k
      have := hq h' k
      unfold validOf at this; rw [hs] at this; exact this
    dsimp only [Option.getD_some, Option.isSome_some]
    refine br_f rfl ?_
    repeat (first | ((with_reducible first|apply St.rI|apply St.rB|apply St.rP|apply St.rSl|apply St.rV|apply St.rM|apply St.rS|apply St.rN|apply St.ckA);assumption;(first|exact i0|exact i1|exact i2|exact i3|exact i4|exact i5|exact i6|exact i7|exact i8|exact i9|exact i10|exact i11|exact i12|exact i13|exact i14|exact i15);(first|rfl|exact Nat.le_of_ble_eq_true rfl)) | with_reducible refine der_of ?_ | ((with_reducible refine br_t ?_ ?_);rfl) | ((with_reducible refine br_f ?_ ?_);rfl) | ((with_reducible refine br_t ?_ ?_);assumption) | ((with_reducible refine br_f ?_ ?_);assumption) | ((with_reducible first|apply St.wrL|apply St.wr);assumption;(first|exact i0|exact i1|exact i2|exact i3|exact i4|exact i5|exact i6|exact i7|exact i8|exact i9|exact i10|exact i11|exact i12|exact i13|exact i14|exact i15);(first|exact Nat.le_of_ble_eq_true rfl|rfl);intro g_ S_;simp only [Ptr.add, List.set, splice, List.take, List.drop, List.nil_append, List.append_nil, List.cons_append, List.length_cons, List.length_nil, Nat.zero_add, Nat.add_zero, Nat.reduceAdd, Nat.reduceMul, Nat.mul_one, Int.toNat_zero, Int.toNat_one, Int.reduceToNat] at S_) | ((with_reducible first|apply St.al|apply St.alM);assumption;intro b_ g_ S_) | ((with_reducible refine ix_of ?_ ?_ ?_);exact of_decide_eq_true rfl;exact of_decide_eq_true rfl) | ((with_reducible first|refine nz_of ?_ ?_|refine nneg_of ?_ ?_);exact of_decide_eq_true rfl) | ((with_reducible refine chk_of ?_ ?_);rfl) | (with_reducible first|apply asI_of|apply asB_of|apply asP_of|apply asSl_of|apply asAggV_of|apply asTupV_of|apply asCons_of|apply asNil_of|apply isNil_n|apply isNil_i|apply nilC_i|apply nilCU_i|apply nilCU_f|apply mthC_i) | ((with_reducible refine And.intro ?_ ?_);rfl) | ((with_reducible apply exAnd);rfl))
    refine immOf_of (br_if (fun c => ?_) (fun c => ?_))
    · unfold insn_Valid.j3
      have := hq h2 S2.keeps
      rw [show immOk op sh imm = false by simpa using c] at this; exact this
    have hi : immOk op sh imm = true := by simpa using c
    rw [hi] at hq
    simp only [Bool.true_and] at hq
    have j4 : (!(op == 37 && rs2 != 0)) = true → insn_Valid.j4 ⟨b_, 0⟩ sh Q h2 := by
      intro c37
      rw [c37] at hq
      simp only [Bool.true_and] at hq
      unfold insn_Valid.j4
      have fin : ∀ (b : Nat) (g : Heap) (p q r : Bool), St h none_ ((b, .cells [.int .i64 rd, .bool p, .int .i64 rs1, .bool q, .int .i64 rs2, .bool r] false) :: [(b_, .cells [.int .i64 op, .int .i64 rd, .int .i64 rs1, .int .i64 rs2, .int .i64 imm] false)]) g →
          p = (sh == 1 || (sh == 2 || sh == 5)) → q = (sh != 0 && sh != 5) → r = (sh == 1 || (sh == 3 || sh == 4)) → insn_Valid.j5 ⟨some ⟨b, 0⟩, 3, 3⟩ ((3 : Nat) : Int) 0 Q g := by
        intro b g p q r Sg hp hq' hr
        refine regs_of (Sg.obj i0) [(rd, p), (rs1, q), (rs2, r)] rfl rfl (Nat.le_of_ble_eq_true rfl) (fun g' k' => ?_)
        have := hq g' (Sg.keeps.trans k')
        rw [← hp, ← hq', ← hr] at this
        exact this
      repeat (first | ((with_reducible first|apply St.rI|apply St.rB|apply St.rP|apply St.rSl|apply St.rV|apply St.rM|apply St.rS|apply St.rN|apply St.ckA);assumption;(first|exact i0|exact i1|exact i2|exact i3|exact i4|exact i5|exact i6|exact i7|exact i8|exact i9|exact i10|exact i11|exact i12|exact i13|exact i14|exact i15);(first|rfl|exact Nat.le_of_ble_eq_true rfl)) | with_reducible refine der_of ?_ | ((with_reducible refine br_t ?_ ?_);rfl) | ((with_reducible refine br_f ?_ ?_);rfl) | ((with_reducible refine br_t ?_ ?_);assumption) | ((with_reducible refine br_f ?_ ?_);assumption) | ((with_reducible first|apply St.wrL|apply St.wr);assumption;(first|exact i0|exact i1|exact i2|exact i3|exact i4|exact i5|exact i6|exact i7|exact i8|exact i9|exact i10|exact i11|exact i12|exact i13|exact i14|exact i15);(first|exact Nat.le_of_ble_eq_true rfl|rfl);intro g_ S_;simp only [Ptr.add, List.set, splice, List.take, List.drop, List.nil_append, List.append_nil, List.cons_append, List.length_cons, List.length_nil, Nat.zero_add, Nat.add_zero, Nat.reduceAdd, Nat.reduceMul, Nat.mul_one, Int.toNat_zero, Int.toNat_one, Int.reduceToNat] at S_) | ((with_reducible first|apply St.al|apply St.alM);assumption;intro b_ g_ S_) | ((with_reducible refine ix_of ?_ ?_ ?_);exact of_decide_eq_true rfl;exact of_decide_eq_true rfl) | ((with_reducible first|refine nz_of ?_ ?_|refine nneg_of ?_ ?_);exact of_decide_eq_true rfl) | ((with_reducible refine chk_of ?_ ?_);rfl) | (with_reducible first|apply asI_of|apply asB_of|apply asP_of|apply asSl_of|apply asAggV_of|apply asTupV_of|apply asCons_of|apply asNil_of|apply isNil_n|apply isNil_i|apply nilC_i|apply nilCU_i|apply nilCU_f|apply mthC_i) | ((with_reducible refine And.intro ?_ ?_);rfl) | ((with_reducible apply exAnd);rfl))
      refine br_if (fun c1 => ?_) (fun c1 => ?_)
      all_goals repeat (first | ((with_reducible first|apply St.rI|apply St.rB|apply St.rP|apply St.rSl|apply St.rV|apply St.rM|apply St.rS|apply St.rN|apply St.ckA);assumption;(first|exact i0|exact i1|exact i2|exact i3|exact i4|exact i5|exact i6|exact i7|exact i8|exact i9|exact i10|exact i11|exact i12|exact i13|exact i14|exact i15);(first|rfl|exact Nat.le_of_ble_eq_true rfl)) | with_reducible refine der_of ?_ | ((with_reducible refine br_t ?_ ?_);rfl) | ((with_reducible refine br_f ?_ ?_);rfl) | ((with_reducible refine br_t ?_ ?_);assumption) | ((with_reducible refine br_f ?_ ?_);assumption) | ((with_reducible first|apply St.wrL|apply St.wr);assumption;(first|exact i0|exact i1|exact i2|exact i3|exact i4|exact i5|exact i6|exact i7|exact i8|exact i9|exact i10|exact i11|exact i12|exact i13|exact i14|exact i15);(first|exact Nat.le_of_ble_eq_true rfl|rfl);intro g_ S_;simp only [Ptr.add, List.set, splice, List.take, List.drop, List.nil_append, List.append_nil, List.cons_append, List.length_cons, List.length_nil, Nat.zero_add, Nat.add_zero, Nat.reduceAdd, Nat.reduceMul, Nat.mul_one, Int.toNat_zero, Int.toNat_one, Int.reduceToNat] at S_) | ((with_reducible first|apply St.al|apply St.alM);assumption;intro b_ g_ S_) | ((with_reducible refine ix_of ?_ ?_ ?_);exact of_decide_eq_true rfl;exact of_decide_eq_true rfl) | ((with_reducible first|refine nz_of ?_ ?_|refine nneg_of ?_ ?_);exact of_decide_eq_true rfl) | ((with_reducible refine chk_of ?_ ?_);rfl) | (with_reducible first|apply asI_of|apply asB_of|apply asP_of|apply asSl_of|apply asAggV_of|apply asTupV_of|apply asCons_of|apply asNil_of|apply isNil_n|apply isNil_i|apply nilC_i|apply nilCU_i|apply nilCU_f|apply mthC_i) | ((with_reducible refine And.intro ?_ ?_);rfl) | ((with_reducible apply exAnd);rfl))
      all_goals (first | (refine br_if (fun c2 => ?_) (fun c2 => ?_)) | skip)
      all_goals repeat (first | ((with_reducible first|apply St.rI|apply St.rB|apply St.rP|apply St.rSl|apply St.rV|apply St.rM|apply St.rS|apply St.rN|apply St.ckA);assumption;(first|exact i0|exact i1|exact i2|exact i3|exact i4|exact i5|exact i6|exact i7|exact i8|exact i9|exact i10|exact i11|exact i12|exact i13|exact i14|exact i15);(first|rfl|exact Nat.le_of_ble_eq_true rfl)) | with_reducible refine der_of ?_ | ((with_reducible refine br_t ?_ ?_);rfl) | ((with_reducible refine br_f ?_ ?_);rfl) | ((with_reducible refine br_t ?_ ?_);assumption) | ((with_reducible refine br_f ?_ ?_);assumption) | ((with_reducible first|apply St.wrL|apply St.wr);assumption;(first|exact i0|exact i1|exact i2|exact i3|exact i4|exact i5|exact i6|exact i7|exact i8|exact i9|exact i10|exact i11|exact i12|exact i13|exact i14|exact i15);(first|exact Nat.le_of_ble_eq_true rfl|rfl);intro g_ S_;simp only [Ptr.add, List.set, splice, List.take, List.drop, List.nil_append, List.append_nil, List.cons_append, List.length_cons, List.length_nil, Nat.zero_add, Nat.add_zero, Nat.reduceAdd, Nat.reduceMul, Nat.mul_one, Int.toNat_zero, Int.toNat_one, Int.reduceToNat] at S_) | ((with_reducible first|apply St.al|apply St.alM);assumption;intro b_ g_ S_) | ((with_reducible refine ix_of ?_ ?_ ?_);exact of_decide_eq_true rfl;exact of_decide_eq_true rfl) | ((with_reducible first|refine nz_of ?_ ?_|refine nneg_of ?_ ?_);exact of_decide_eq_true rfl) | ((with_reducible refine chk_of ?_ ?_);rfl) | (with_reducible first|apply asI_of|apply asB_of|apply asP_of|apply asSl_of|apply asAggV_of|apply asTupV_of|apply asCons_of|apply asNil_of|apply isNil_n|apply isNil_i|apply nilC_i|apply nilCU_i|apply nilCU_f|apply mthC_i) | ((with_reducible refine And.intro ?_ ?_);rfl) | ((with_reducible apply exAnd);rfl))
      all_goals (first | (refine br_if (fun c3 => ?_) (fun c3 => ?_)) | skip)
      all_goals repeat (first | ((with_reducible first|apply St.rI|apply St.rB|apply St.rP|apply St.rSl|apply St.rV|apply St.rM|apply St.rS|apply St.rN|apply St.ckA);assumption;(first|exact i0|exact i1|exact i2|exact i3|exact i4|exact i5|exact i6|exact i7|exact i8|exact i9|exact i10|exact i11|exact i12|exact i13|exact i14|exact i15);(first|rfl|exact Nat.le_of_ble_eq_true rfl)) | with_reducible refine der_of ?_ | ((with_reducible refine br_t ?_ ?_);rfl) | ((with_reducible refine br_f ?_ ?_);rfl) | ((with_reducible refine br_t ?_ ?_);assumption) | ((with_reducible refine br_f ?_ ?_);assumption) | ((with_reducible first|apply St.wrL|apply St.wr);assumption;(first|exact i0|exact i1|exact i2|exact i3|exact i4|exact i5|exact i6|exact i7|exact i8|exact i9|exact i10|exact i11|exact i12|exact i13|exact i14|exact i15);(first|exact Nat.le_of_ble_eq_true rfl|rfl);intro g_ S_;simp only [Ptr.add, List.set, splice, List.take, List.drop, List.nil_append, List.append_nil, List.cons_append, List.length_cons, List.length_nil, Nat.zero_add, Nat.add_zero, Nat.reduceAdd, Nat.reduceMul, Nat.mul_one, Int.toNat_zero, Int.toNat_one, Int.reduceToNat] at S_) | ((with_reducible first|apply St.al|apply St.alM);assumption;intro b_ g_ S_) | ((with_reducible refine ix_of ?_ ?_ ?_);exact of_decide_eq_true rfl;exact of_decide_eq_true rfl) | ((with_reducible first|refine nz_of ?_ ?_|refine nneg_of ?_ ?_);exact of_decide_eq_true rfl) | ((with_reducible refine chk_of ?_ ?_);rfl) | (with_reducible first|apply asI_of|apply asB_of|apply asP_of|apply asSl_of|apply asAggV_of|apply asTupV_of|apply asCons_of|apply asNil_of|apply isNil_n|apply isNil_i|apply nilC_i|apply nilCU_i|apply nilCU_f|apply mthC_i) | ((with_reducible refine And.intro ?_ ?_);rfl) | ((with_reducible apply exAnd);rfl))
      all_goals (first | (refine br_if (fun c4 => ?_) (fun c4 => ?_)) | skip)
      all_goals repeat (first | ((with_reducible first|apply St.rI|apply St.rB|apply St.rP|apply St.rSl|apply St.rV|apply St.rM|apply St.rS|apply St.rN|apply St.ckA);assumption;(first|exact i0|exact i1|exact i2|exact i3|exact i4|exact i5|exact i6|exact i7|exact i8|exact i9|exact i10|exact i11|exact i12|exact i13|exact i14|exact i15);(first|rfl|exact Nat.le_of_ble_eq_true rfl)) | with_reducible refine der_of ?_ | ((with_reducible refine br_t ?_ ?_);rfl) | ((with_reducible refine br_f ?_ ?_);rfl) | ((with_reducible refine br_t ?_ ?_);assumption) | ((with_reducible refine br_f ?_ ?_);assumption) | ((with_reducible first|apply St.wrL|apply St.wr);assumption;(first|exact i0|exact i1|exact i2|exact i3|exact i4|exact i5|exact i6|exact i7|exact i8|exact i9|exact i10|exact i11|exact i12|exact i13|exact i14|exact i15);(first|exact Nat.le_of_ble_eq_true rfl|rfl);intro g_ S_;simp only [Ptr.add, List.set, splice, List.take, List.drop, List.nil_append, List.append_nil, List.cons_append, List.length_cons, List.length_nil, Nat.zero_add, Nat.add_zero, Nat.reduceAdd, Nat.reduceMul, Nat.mul_one, Int.toNat_zero, Int.toNat_one, Int.reduceToNat] at S_) | ((with_reducible first|apply St.al|apply St.alM);assumption;intro b_ g_ S_) | ((with_reducible refine ix_of ?_ ?_ ?_);exact of_decide_eq_true rfl;exact of_decide_eq_true rfl) | ((with_reducible first|refine nz_of ?_ ?_|refine nneg_of ?_ ?_);exact of_decide_eq_true rfl) | ((with_reducible refine chk_of ?_ ?_);rfl) | (with_reducible first|apply asI_of|apply asB_of|apply asP_of|apply asSl_of|apply asAggV_of|apply asTupV_of|apply asCons_of|apply asNil_of|apply isNil_n|apply isNil_i|apply nilC_i|apply nilCU_i|apply nilCU_f|apply mthC_i) | ((with_reducible refine And.intro ?_ ?_);rfl) | ((with_reducible apply exAnd);rfl))
      all_goals (first | (refine br_if (fun c5 => ?_) (fun c5 => ?_)) | skip)
      all_goals repeat (first | ((with_reducible first|apply St.rI|apply St.rB|apply St.rP|apply St.rSl|apply St.rV|apply St.rM|apply St.rS|apply St.rN|apply St.ckA);assumption;(first|exact i0|exact i1|exact i2|exact i3|exact i4|exact i5|exact i6|exact i7|exact i8|exact i9|exact i10|exact i11|exact i12|exact i13|exact i14|exact i15);(first|rfl|exact Nat.le_of_ble_eq_true rfl)) | with_reducible refine der_of ?_ | ((with_reducible refine br_t ?_ ?_);rfl) | ((with_reducible refine br_f ?_ ?_);rfl) | ((with_reducible refine br_t ?_ ?_);assumption) | ((with_reducible refine br_f ?_ ?_);assumption) | ((with_reducible first|apply St.wrL|apply St.wr);assumption;(first|exact i0|exact i1|exact i2|exact i3|exact i4|exact i5|exact i6|exact i7|exact i8|exact i9|exact i10|exact i11|exact i12|exact i13|exact i14|exact i15);(first|exact Nat.le_of_ble_eq_true rfl|rfl);intro g_ S_;simp only [Ptr.add, List.set, splice, List.take, List.drop, List.nil_append, List.append_nil, List.cons_append, List.length_cons, List.length_nil, Nat.zero_add, Nat.add_zero, Nat.reduceAdd, Nat.reduceMul, Nat.mul_one, Int.toNat_zero, Int.toNat_one, Int.reduceToNat] at S_) | ((with_reducible first|apply St.al|apply St.alM);assumption;intro b_ g_ S_) | ((with_reducible refine ix_of ?_ ?_ ?_);exact of_decide_eq_true rfl;exact of_decide_eq_true rfl) | ((with_reducible first|refine nz_of ?_ ?_|refine nneg_of ?_ ?_);exact of_decide_eq_true rfl) | ((with_reducible refine chk_of ?_ ?_);rfl) | (with_reducible first|apply asI_of|apply asB_of|apply asP_of|apply asSl_of|apply asAggV_of|apply asTupV_of|apply asCons_of|apply asNil_of|apply isNil_n|apply isNil_i|apply nilC_i|apply nilCU_i|apply nilCU_f|apply mthC_i) | ((with_reducible refine And.intro ?_ ?_);rfl) | ((with_reducible apply exAnd);rfl))
      all_goals (refine fin _ _ _ _ _ ‹St _ _ _ _› ?_ ?_ ?_ <;> (clear fin hq; first | (simp only [*, Bool.false_or, Bool.true_or, Bool.or_false, Bool.or_true, Bool.true_and, Bool.and_true, Bool.false_and, Bool.and_false]; done) | (exfalso; simp_all; done) | (exfalso; simp_all; omega)))
    repeat (first | ((with_reducible first|apply St.rI|apply St.rB|apply St.rP|apply St.rSl|apply St.rV|apply St.rM|apply St.rS|apply St.rN|apply St.ckA);assumption;(first|exact i0|exact i1|exact i2|exact i3|exact i4|exact i5|exact i6|exact i7|exact i8|exact i9|exact i10|exact i11|exact i12|exact i13|exact i14|exact i15);(first|rfl|exact Nat.le_of_ble_eq_true rfl)) | with_reducible refine der_of ?_ | ((with_reducible refine br_t ?_ ?_);rfl) | ((with_reducible refine br_f ?_ ?_);rfl) | ((with_reducible refine br_t ?_ ?_);assumption) | ((with_reducible refine br_f ?_ ?_);assumption) | ((with_reducible first|apply St.wrL|apply St.wr);assumption;(first|exact i0|exact i1|exact i2|exact i3|exact i4|exact i5|exact i6|exact i7|exact i8|exact i9|exact i10|exact i11|exact i12|exact i13|exact i14|exact i15);(first|exact Nat.le_of_ble_eq_true rfl|rfl);intro g_ S_;simp only [Ptr.add, List.set, splice, List.take, List.drop, List.nil_append, List.append_nil, List.cons_append, List.length_cons, List.length_nil, Nat.zero_add, Nat.add_zero, Nat.reduceAdd, Nat.reduceMul, Nat.mul_one, Int.toNat_zero, Int.toNat_one, Int.reduceToNat] at S_) | ((with_reducible first|apply St.al|apply St.alM);assumption;intro b_ g_ S_) | ((with_reducible refine ix_of ?_ ?_ ?_);exact of_decide_eq_true rfl;exact of_decide_eq_true rfl) | ((with_reducible first|refine nz_of ?_ ?_|refine nneg_of ?_ ?_);exact of_decide_eq_true rfl) | ((with_reducible refine chk_of ?_ ?_);rfl) | (with_reducible first|apply asI_of|apply asB_of|apply asP_of|apply asSl_of|apply asAggV_of|apply asTupV_of|apply asCons_of|apply asNil_of|apply isNil_n|apply isNil_i|apply nilC_i|apply nilCU_i|apply nilCU_f|apply mthC_i) | ((with_reducible refine And.intro ?_ ?_);rfl) | ((with_reducible apply exAnd);rfl))
    refine br_if (fun c => ?_) (fun c => ?_)
    · repeat (first | ((with_reducible first|apply St.rI|apply St.rB|apply St.rP|apply St.rSl|apply St.rV|apply St.rM|apply St.rS|apply St.rN|apply St.ckA);assumption;(first|exact i0|exact i1|exact i2|exact i3|exact i4|exact i5|exact i6|exact i7|exact i8|exact i9|exact i10|exact i11|exact i12|exact i13|exact i14|exact i15);(first|rfl|exact Nat.le_of_ble_eq_true rfl)) | with_reducible refine der_of ?_ | ((with_reducible refine br_t ?_ ?_);rfl) | ((with_reducible refine br_f ?_ ?_);rfl) | ((with_reducible refine br_t ?_ ?_);assumption) | ((with_reducible refine br_f ?_ ?_);assumption) | ((with_reducible first|apply St.wrL|apply St.wr);assumption;(first|exact i0|exact i1|exact i2|exact i3|exact i4|exact i5|exact i6|exact i7|exact i8|exact i9|exact i10|exact i11|exact i12|exact i13|exact i14|exact i15);(first|exact Nat.le_of_ble_eq_true rfl|rfl);intro g_ S_;simp only [Ptr.add, List.set, splice, List.take, List.drop, List.nil_append, List.append_nil, List.cons_append, List.length_cons, List.length_nil, Nat.zero_add, Nat.add_zero, Nat.reduceAdd, Nat.reduceMul, Nat.mul_one, Int.toNat_zero, Int.toNat_one, Int.reduceToNat] at S_) | ((with_reducible first|apply St.al|apply St.alM);assumption;intro b_ g_ S_) | ((with_reducible refine ix_of ?_ ?_ ?_);exact of_decide_eq_true rfl;exact of_decide_eq_true rfl) | ((with_reducible first|refine nz_of ?_ ?_|refine nneg_of ?_ ?_);exact of_decide_eq_true rfl) | ((with_reducible refine chk_of ?_ ?_);rfl) | (with_reducible first|apply asI_of|apply asB_of|apply asP_of|apply asSl_of|apply asAggV_of|apply asTupV_of|apply asCons_of|apply asNil_of|apply isNil_n|apply isNil_i|apply nilC_i|apply nilCU_i|apply nilCU_f|apply mthC_i) | ((with_reducible refine And.intro ?_ ?_);rfl) | ((with_reducible apply exAnd);rfl))
      refine br_if (fun c2 => ?_) (fun c2 => ?_)
      · unfold insn_Valid.j3
        have := hq h2 S2.keeps
        rw [c, c2] at this; exact this
      · exact j4 (by rw [c, c2]; rfl)
    · exact j4 (by rw [c]; rfl)

/-! ## encoding, decoding -/

def encW (op rd rs1 rs2 : Int) : Int := ibits .or .u32 (ibits .or .u32 (ibits .or .u32 (shlI .u32 (IntKind.u32.wrap op) 26) (shlI .u32 (IntKind.u32.wrap rd) 22)) (shlI .u32 (IntKind.u32.wrap rs1) 18)) (shlI .u32 (IntKind.u32.wrap rs2) 14)
def encOf (op rd rs1 rs2 imm : Int) : Int × Int :=
  if validOf op rd rs1 rs2 imm = true then (wplace (encW op rd rs1 rs2) imm 0 (if (shapeOf op).getD 0 = 5 then 18 else 14), 0) else (0, 10)

theorem Encode_of {op rd rs1 rs2 imm : Int} {Q : Int → Int → Heap → Prop} (hq : ∀ h', Keeps none_ h h' → Q (encOf op rd rs1 rs2 imm).1 (encOf op rd rs1 rs2 imm).2 h') : insn_Encode op rd rs1 rs2 imm Q h := by
  unfold insn_Encode
  have S := St.start h none_
  repeat (first | ((with_reducible first|apply St.rI|apply St.rB|apply St.rP|apply St.rSl|apply St.rV|apply St.rM|apply St.rS|apply St.rN|apply St.ckA);assumption;(first|exact i0|exact i1|exact i2|exact i3|exact i4|exact i5|exact i6|exact i7|exact i8|exact i9|exact i10|exact i11|exact i12|exact i13|exact i14|exact i15);(first|rfl|exact Nat.le_of_ble_eq_true rfl)) | with_reducible refine der_of ?_ | ((with_reducible refine br_t ?_ ?_);rfl) | ((with_reducible refine br_f ?_ ?_);rfl) | ((with_reducible refine br_t ?_ ?_);assumption) | ((with_reducible refine br_f ?_ ?_);assumption) | ((with_reducible first|apply St.wrL|apply St.wr);assumption;(first|exact i0|exact i1|exact i2|exact i3|exact i4|exact i5|exact i6|exact i7|exact i8|exact i9|exact i10|exact i11|exact i12|exact i13|exact i14|exact i15);(first|exact Nat.le_of_ble_eq_true rfl|rfl);intro g_ S_;simp only [Ptr.add, List.set, splice, List.take, List.drop, List.nil_append, List.append_nil, List.cons_append, List.length_cons, List.length_nil, Nat.zero_add, Nat.add_zero, Nat.reduceAdd, Nat.reduceMul, Nat.mul_one, Int.toNat_zero, Int.toNat_one, Int.reduceToNat] at S_) | ((with_reducible first|apply St.al|apply St.alM);assumption;intro b_ g_ S_) | ((with_reducible refine ix_of ?_ ?_ ?_);exact of_decide_eq_true rfl;exact of_decide_eq_true rfl) | ((with_reducible first|refine nz_of ?_ ?_|refine nneg_of ?_ ?_);exact of_decide_eq_true rfl) | ((with_reducible refine chk_of ?_ ?_);rfl) | (with_reducible first|apply asI_of|apply asB_of|apply asP_of|apply asSl_of|apply asAggV_of|apply asTupV_of|apply asCons_of|apply asNil_of|apply isNil_n|apply isNil_i|apply nilC_i|apply nilCU_i|apply nilCU_f|apply mthC_i) | ((with_reducible refine And.intro ?_ ?_);rfl) | ((with_reducible apply exAnd);rfl))
  refine Valid_of (fun h2 k2 => ?_)
  have S2 := St.keep ‹_› k2
  unfold encOf at hq
  refine br_if (fun c => ?_) (fun c => ?_)
  · have := hq h2 S2.keeps
    rw [if_neg (by simpa using c)] at this
    exact this
  · have c : validOf op rd rs1 rs2 imm = true := by simpa using c
    rw [if_pos c] at hq
    repeat (first | ((with_reducible first|apply St.rI|apply St.rB|apply St.rP|apply St.rSl|apply St.rV|apply St.rM|apply St.rS|apply St.rN|apply St.ckA);assumption;(first|exact i0|exact i1|exact i2|exact i3|exact i4|exact i5|exact i6|exact i7|exact i8|exact i9|exact i10|exact i11|exact i12|exact i13|exact i14|exact i15);(first|rfl|exact Nat.le_of_ble_eq_true rfl)) | with_reducible refine der_of ?_ | ((with_reducible refine br_t ?_ ?_);rfl) | ((with_reducible refine br_f ?_ ?_);rfl) | ((with_reducible refine br_t ?_ ?_);assumption) | ((with_reducible refine br_f ?_ ?_);assumption) | ((with_reducible first|apply St.wrL|apply St.wr);assumption;(first|exact i0|exact i1|exact i2|exact i3|exact i4|exact i5|exact i6|exact i7|exact i8|exact i9|exact i10|exact i11|exact i12|exact i13|exact i14|exact i15);(first|exact Nat.le_of_ble_eq_true rfl|rfl);intro g_ S_;simp only [Ptr.add, List.set, splice, List.take, List.drop, List.nil_append, List.append_nil, List.cons_append, List.length_cons, List.length_nil, Nat.zero_add, Nat.add_zero, Nat.reduceAdd, Nat.reduceMul, Nat.mul_one, Int.toNat_zero, Int.toNat_one, Int.reduceToNat] at S_) | ((with_reducible first|apply St.al|apply St.alM);assumption;intro b_ g_ S_) | ((with_reducible refine ix_of ?_ ?_ ?_);exact of_decide_eq_true rfl;exact of_decide_eq_true rfl) | ((with_reducible first|refine nz_of ?_ ?_|refine nneg_of ?_ ?_);exact of_decide_eq_true rfl) | ((with_reducible refine chk_of ?_ ?_);rfl) | (with_reducible first|apply asI_of|apply asB_of|apply asP_of|apply asSl_of|apply asAggV_of|apply asTupV_of|apply asCons_of|apply asNil_of|apply isNil_n|apply isNil_i|apply nilC_i|apply nilCU_i|apply nilCU_f|apply mthC_i) | ((with_reducible refine And.intro ?_ ?_);rfl) | ((with_reducible apply exAnd);rfl))
    unfold insn_Encode.j4
    repeat (first | ((with_reducible first|apply St.rI|apply St.rB|apply St.rP|apply St.rSl|apply St.rV|apply St.rM|apply St.rS|apply St.rN|apply St.ckA);assumption;(first|exact i0|exact i1|exact i2|exact i3|exact i4|exact i5|exact i6|exact i7|exact i8|exact i9|exact i10|exact i11|exact i12|exact i13|exact i14|exact i15);(first|rfl|exact Nat.le_of_ble_eq_true rfl)) | with_reducible refine der_of ?_ | ((with_reducible refine br_t ?_ ?_);rfl) | ((with_reducible refine br_f ?_ ?_);rfl) | ((with_reducible refine br_t ?_ ?_);assumption) | ((with_reducible refine br_f ?_ ?_);assumption) | ((with_reducible first|apply St.wrL|apply St.wr);assumption;(first|exact i0|exact i1|exact i2|exact i3|exact i4|exact i5|exact i6|exact i7|exact i8|exact i9|exact i10|exact i11|exact i12|exact i13|exact i14|exact i15);(first|exact Nat.le_of_ble_eq_true rfl|rfl);intro g_ S_;simp only [Ptr.add, List.set, splice, List.take, List.drop, List.nil_append, List.append_nil, List.cons_append, List.length_cons, List.length_nil, Nat.zero_add, Nat.add_zero, Nat.reduceAdd, Nat.reduceMul, Nat.mul_one, Int.toNat_zero, Int.toNat_one, Int.reduceToNat] at S_) | ((with_reducible first|apply St.al|apply St.alM);assumption;intro b_ g_ S_) | ((with_reducible refine ix_of ?_ ?_ ?_);exact of_decide_eq_true rfl;exact of_decide_eq_true rfl) | ((with_reducible first|refine nz_of ?_ ?_|refine nneg_of ?_ ?_);exact of_decide_eq_true rfl) | ((with_reducible refine chk_of ?_ ?_);rfl) | (with_reducible first|apply asI_of|apply asB_of|apply asP_of|apply asSl_of|apply asAggV_of|apply asTupV_of|apply asCons_of|apply asNil_of|apply isNil_n|apply isNil_i|apply nilC_i|apply nilCU_i|apply nilCU_f|apply mthC_i) | ((with_reducible refine And.intro ?_ ?_);rfl) | ((with_reducible apply exAnd);rfl))
    refine Shape_of (fun h3 k3 => ?_)
    have S3 := St.keep ‹_› k3
    refine br_if (fun c5 => ?_) (fun c5 => ?_)
    · rw [if_pos (by simpa using c5)] at hq
      repeat (first | ((with_reducible first|apply St.rI|apply St.rB|apply St.rP|apply St.rSl|apply St.rV|apply St.rM|apply St.rS|apply St.rN|apply St.ckA);assumption;(first|exact i0|exact i1|exact i2|exact i3|exact i4|exact i5|exact i6|exact i7|exact i8|exact i9|exact i10|exact i11|exact i12|exact i13|exact i14|exact i15);(first|rfl|exact Nat.le_of_ble_eq_true rfl)) | with_reducible refine der_of ?_ | ((with_reducible refine br_t ?_ ?_);rfl) | ((with_reducible refine br_f ?_ ?_);rfl) | ((with_reducible refine br_t ?_ ?_);assumption) | ((with_reducible refine br_f ?_ ?_);assumption) | ((with_reducible first|apply St.wrL|apply St.wr);assumption;(first|exact i0|exact i1|exact i2|exact i3|exact i4|exact i5|exact i6|exact i7|exact i8|exact i9|exact i10|exact i11|exact i12|exact i13|exact i14|exact i15);(first|exact Nat.le_of_ble_eq_true rfl|rfl);intro g_ S_;simp only [Ptr.add, List.set, splice, List.take, List.drop, List.nil_append, List.append_nil, List.cons_append, List.length_cons, List.length_nil, Nat.zero_add, Nat.add_zero, Nat.reduceAdd, Nat.reduceMul, Nat.mul_one, Int.toNat_zero, Int.toNat_one, Int.reduceToNat] at S_) | ((with_reducible first|apply St.al|apply St.alM);assumption;intro b_ g_ S_) | ((with_reducible refine ix_of ?_ ?_ ?_);exact of_decide_eq_true rfl;exact of_decide_eq_true rfl) | ((with_reducible first|refine nz_of ?_ ?_|refine nneg_of ?_ ?_);exact of_decide_eq_true rfl) | ((with_reducible refine chk_of ?_ ?_);rfl) | (with_reducible first|apply asI_of|apply asB_of|apply asP_of|apply asSl_of|apply asAggV_of|apply asTupV_of|apply asCons_of|apply asNil_of|apply isNil_n|apply isNil_i|apply nilC_i|apply nilCU_i|apply nilCU_f|apply mthC_i) | ((with_reducible refine And.intro ?_ ?_);rfl) | ((with_reducible apply exAnd);rfl))
      exact Place_of rfl (by decide) (by decide) (hq _ (St.keeps ‹_›))
    · rw [if_neg (by simpa using c5)] at hq
      repeat (first | ((with_reducible first|apply St.rI|apply St.rB|apply St.rP|apply St.rSl|apply St.rV|apply St.rM|apply St.rS|apply St.rN|apply St.ckA);assumption;(first|exact i0|exact i1|exact i2|exact i3|exact i4|exact i5|exact i6|exact i7|exact i8|exact i9|exact i10|exact i11|exact i12|exact i13|exact i14|exact i15);(first|rfl|exact Nat.le_of_ble_eq_true rfl)) | with_reducible refine der_of ?_ | ((with_reducible refine br_t ?_ ?_);rfl) | ((with_reducible refine br_f ?_ ?_);rfl) | ((with_reducible refine br_t ?_ ?_);assumption) | ((with_reducible refine br_f ?_ ?_);assumption) | ((with_reducible first|apply St.wrL|apply St.wr);assumption;(first|exact i0|exact i1|exact i2|exact i3|exact i4|exact i5|exact i6|exact i7|exact i8|exact i9|exact i10|exact i11|exact i12|exact i13|exact i14|exact i15);(first|exact Nat.le_of_ble_eq_true rfl|rfl);intro g_ S_;simp only [Ptr.add, List.set, splice, List.take, List.drop, List.nil_append, List.append_nil, List.cons_append, List.length_cons, List.length_nil, Nat.zero_add, Nat.add_zero, Nat.reduceAdd, Nat.reduceMul, Nat.mul_one, Int.toNat_zero, Int.toNat_one, Int.reduceToNat] at S_) | ((with_reducible first|apply St.al|apply St.alM);assumption;intro b_ g_ S_) | ((with_reducible refine ix_of ?_ ?_ ?_);exact of_decide_eq_true rfl;exact of_decide_eq_true rfl) | ((with_reducible first|refine nz_of ?_ ?_|refine nneg_of ?_ ?_);exact of_decide_eq_true rfl) | ((with_reducible refine chk_of ?_ ?_);rfl) | (with_reducible first|apply asI_of|apply asB_of|apply asP_of|apply asSl_of|apply asAggV_of|apply asTupV_of|apply asCons_of|apply asNil_of|apply isNil_n|apply isNil_i|apply nilC_i|apply nilCU_i|apply nilCU_f|apply mthC_i) | ((with_reducible refine And.intro ?_ ?_);rfl) | ((with_reducible apply exAnd);rfl))
      exact Place_of rfl (by decide) (by decide) (hq _ (St.keeps ‹_›))

structure Dec where
  op : Int
  rd : Int
  rs1 : Int
  rs2 : Int
  imm : Int
  e : Int
  deriving DecidableEq

def decRest (w op rd rs1 rs2 imm : Int) : Dec :=
  if (encOf op rd rs1 rs2 imm).2 ≠ 0 then ⟨0, 0, 0, 0, 0, 10⟩ else if (encOf op rd rs1 rs2 imm).1 ≠ w then ⟨0, 0, 0, 0, 0, 10⟩ else ⟨op, rd, rs1, rs2, imm, 0⟩

def decOf (w : Int) : Dec :=
  match shapeOf (wfield w 26 6) with
  | none => ⟨0, 0, 0, 0, 0, 10⟩
  | some sh => if sh = 5 then decRest w (wfield w 26 6) (wfield w 22 4) 0 0 (wsign (wfield w 0 18) 18)
      else decRest w (wfield w 26 6) (wfield w 22 4) (wfield w 18 4) (wfield w 14 4) (wsign (wfield w 0 14) 14)

theorem decRest_of {w op rd rs1 rs2 imm : Int} {b1 b4 : Nat} {l : List V} (hl : l.length = 5) {h0 : Heap} (S : St h0 none_ [(b4, .cells [.int .i64 op, .int .i64 rd, .int .i64 rs1, .int .i64 rs2, .int .i64 imm] false), (b1, .cells l false)] h) {Q : Int → Int → Int → Int → Int → Int → Heap → Prop}
    (hq : ∀ h', Keeps none_ h0 h' → Q (decRest w op rd rs1 rs2 imm).op (decRest w op rd rs1 rs2 imm).rd (decRest w op rd rs1 rs2 imm).rs1 (decRest w op rd rs1 rs2 imm).rs2 (decRest w op rd rs1 rs2 imm).imm (decRest w op rd rs1 rs2 imm).e h') :
    insn_Decode.j8 w ⟨b1, 0⟩ ⟨b4, 0⟩ Q h := by
  obtain ⟨l0, l1, l2, l3, l4, rfl⟩ : ∃ l0 l1 l2 l3 l4, l = [l0, l1, l2, l3, l4] := by
    match l, hl with
    | [a, b, c, d, e], _ => exact ⟨a, b, c, d, e, rfl⟩
  unfold insn_Decode.j8
  repeat (first | ((with_reducible first|apply St.rI|apply St.rB|apply St.rP|apply St.rSl|apply St.rV|apply St.rM|apply St.rS|apply St.rN|apply St.ckA);assumption;(first|exact i0|exact i1|exact i2|exact i3|exact i4|exact i5|exact i6|exact i7|exact i8|exact i9|exact i10|exact i11|exact i12|exact i13|exact i14|exact i15);(first|rfl|exact Nat.le_of_ble_eq_true rfl)) | with_reducible refine der_of ?_ | ((with_reducible refine br_t ?_ ?_);rfl) | ((with_reducible refine br_f ?_ ?_);rfl) | ((with_reducible refine br_t ?_ ?_);assumption) | ((with_reducible refine br_f ?_ ?_);assumption) | ((with_reducible first|apply St.wrL|apply St.wr);assumption;(first|exact i0|exact i1|exact i2|exact i3|exact i4|exact i5|exact i6|exact i7|exact i8|exact i9|exact i10|exact i11|exact i12|exact i13|exact i14|exact i15);(first|exact Nat.le_of_ble_eq_true rfl|rfl);intro g_ S_;simp only [Ptr.add, List.set, splice, List.take, List.drop, List.nil_append, List.append_nil, List.cons_append, List.length_cons, List.length_nil, Nat.zero_add, Nat.add_zero, Nat.reduceAdd, Nat.reduceMul, Nat.mul_one, Int.toNat_zero, Int.toNat_one, Int.reduceToNat] at S_) | ((with_reducible first|apply St.al|apply St.alM);assumption;intro b_ g_ S_) | ((with_reducible refine ix_of ?_ ?_ ?_);exact of_decide_eq_true rfl;exact of_decide_eq_true rfl) | ((with_reducible first|refine nz_of ?_ ?_|refine nneg_of ?_ ?_);exact of_decide_eq_true rfl) | ((with_reducible refine chk_of ?_ ?_);rfl) | (with_reducible first|apply asI_of|apply asB_of|apply asP_of|apply asSl_of|apply asAggV_of|apply asTupV_of|apply asCons_of|apply asNil_of|apply isNil_n|apply isNil_i|apply nilC_i|apply nilCU_i|apply nilCU_f|apply mthC_i) | ((with_reducible refine And.intro ?_ ?_);rfl) | ((with_reducible apply exAnd);rfl))
  refine Encode_of (fun h2 k2 => ?_)
  have S2 := St.keep ‹_› k2
  unfold decRest at hq
  refine br_if (fun c => ?_) (fun c => ?_)
  · rw [if_pos (by simpa using c)] at hq
    repeat (first | ((with_reducible first|apply St.rI|apply St.rB|apply St.rP|apply St.rSl|apply St.rV|apply St.rM|apply St.rS|apply St.rN|apply St.ckA);assumption;(first|exact i0|exact i1|exact i2|exact i3|exact i4|exact i5|exact i6|exact i7|exact i8|exact i9|exact i10|exact i11|exact i12|exact i13|exact i14|exact i15);(first|rfl|exact Nat.le_of_ble_eq_true rfl)) | with_reducible refine der_of ?_ | ((with_reducible refine br_t ?_ ?_);rfl) | ((with_reducible refine br_f ?_ ?_);rfl) | ((with_reducible refine br_t ?_ ?_);assumption) | ((with_reducible refine br_f ?_ ?_);assumption) | ((with_reducible first|apply St.wrL|apply St.wr);assumption;(first|exact i0|exact i1|exact i2|exact i3|exact i4|exact i5|exact i6|exact i7|exact i8|exact i9|exact i10|exact i11|exact i12|exact i13|exact i14|exact i15);(first|exact Nat.le_of_ble_eq_true rfl|rfl);intro g_ S_;simp only [Ptr.add, List.set, splice, List.take, List.drop, List.nil_append, List.append_nil, List.cons_append, List.length_cons, List.length_nil, Nat.zero_add, Nat.add_zero, Nat.reduceAdd, Nat.reduceMul, Nat.mul_one, Int.toNat_zero, Int.toNat_one, Int.reduceToNat] at S_) | ((with_reducible first|apply St.al|apply St.alM);assumption;intro b_ g_ S_) | ((with_reducible refine ix_of ?_ ?_ ?_);exact of_decide_eq_true rfl;exact of_decide_eq_true rfl) | ((with_reducible first|refine nz_of ?_ ?_|refine nneg_of ?_ ?_);exact of_decide_eq_true rfl) | ((with_reducible refine chk_of ?_ ?_);rfl) | (with_reducible first|apply asI_of|apply asB_of|apply asP_of|apply asSl_of|apply asAggV_of|apply asTupV_of|apply asCons_of|apply asNil_of|apply isNil_n|apply isNil_i|apply nilC_i|apply nilCU_i|apply nilCU_f|apply mthC_i) | ((with_reducible refine And.intro ?_ ?_);rfl) | ((with_reducible apply exAnd);rfl))
    exact hq _ (St.keeps ‹_›)
  · rw [if_neg (by simpa using c)] at hq
    refine br_if (fun c2 => ?_) (fun c2 => ?_)
    · rw [if_pos (by simpa using c2)] at hq
      repeat (first | ((with_reducible first|apply St.rI|apply St.rB|apply St.rP|apply St.rSl|apply St.rV|apply St.rM|apply St.rS|apply St.rN|apply St.ckA);assumption;(first|exact i0|exact i1|exact i2|exact i3|exact i4|exact i5|exact i6|exact i7|exact i8|exact i9|exact i10|exact i11|exact i12|exact i13|exact i14|exact i15);(first|rfl|exact Nat.le_of_ble_eq_true rfl)) | with_reducible refine der_of ?_ | ((with_reducible refine br_t ?_ ?_);rfl) | ((with_reducible refine br_f ?_ ?_);rfl) | ((with_reducible refine br_t ?_ ?_);assumption) | ((with_reducible refine br_f ?_ ?_);assumption) | ((with_reducible first|apply St.wrL|apply St.wr);assumption;(first|exact i0|exact i1|exact i2|exact i3|exact i4|exact i5|exact i6|exact i7|exact i8|exact i9|exact i10|exact i11|exact i12|exact i13|exact i14|exact i15);(first|exact Nat.le_of_ble_eq_true rfl|rfl);intro g_ S_;simp only [Ptr.add, List.set, splice, List.take, List.drop, List.nil_append, List.append_nil, List.cons_append, List.length_cons, List.length_nil, Nat.zero_add, Nat.add_zero, Nat.reduceAdd, Nat.reduceMul, Nat.mul_one, Int.toNat_zero, Int.toNat_one, Int.reduceToNat] at S_) | ((with_reducible first|apply St.al|apply St.alM);assumption;intro b_ g_ S_) | ((with_reducible refine ix_of ?_ ?_ ?_);exact of_decide_eq_true rfl;exact of_decide_eq_true rfl) | ((with_reducible first|refine nz_of ?_ ?_|refine nneg_of ?_ ?_);exact of_decide_eq_true rfl) | ((with_reducible refine chk_of ?_ ?_);rfl) | (with_reducible first|apply asI_of|apply asB_of|apply asP_of|apply asSl_of|apply asAggV_of|apply asTupV_of|apply asCons_of|apply asNil_of|apply isNil_n|apply isNil_i|apply nilC_i|apply nilCU_i|apply nilCU_f|apply mthC_i) | ((with_reducible refine And.intro ?_ ?_);rfl) | ((with_reducible apply exAnd);rfl))
      exact hq _ (St.keeps ‹_›)
    · rw [if_neg (by simpa using c2)] at hq
      repeat (first | ((with_reducible first|apply St.rI|apply St.rB|apply St.rP|apply St.rSl|apply St.rV|apply St.rM|apply St.rS|apply St.rN|apply St.ckA);assumption;(first|exact i0|exact i1|exact i2|exact i3|exact i4|exact i5|exact i6|exact i7|exact i8|exact i9|exact i10|exact i11|exact i12|exact i13|exact i14|exact i15);(first|rfl|exact Nat.le_of_ble_eq_true rfl)) | with_reducible refine der_of ?_ | ((with_reducible refine br_t ?_ ?_);rfl) | ((with_reducible refine br_f ?_ ?_);rfl) | ((with_reducible refine br_t ?_ ?_);assumption) | ((with_reducible refine br_f ?_ ?_);assumption) | ((with_reducible first|apply St.wrL|apply St.wr);assumption;(first|exact i0|exact i1|exact i2|exact i3|exact i4|exact i5|exact i6|exact i7|exact i8|exact i9|exact i10|exact i11|exact i12|exact i13|exact i14|exact i15);(first|exact Nat.le_of_ble_eq_true rfl|rfl);intro g_ S_;simp only [Ptr.add, List.set, splice, List.take, List.drop, List.nil_append, List.append_nil, List.cons_append, List.length_cons, List.length_nil, Nat.zero_add, Nat.add_zero, Nat.reduceAdd, Nat.reduceMul, Nat.mul_one, Int.toNat_zero, Int.toNat_one, Int.reduceToNat] at S_) | ((with_reducible first|apply St.al|apply St.alM);assumption;intro b_ g_ S_) | ((with_reducible refine ix_of ?_ ?_ ?_);exact of_decide_eq_true rfl;exact of_decide_eq_true rfl) | ((with_reducible first|refine nz_of ?_ ?_|refine nneg_of ?_ ?_);exact of_decide_eq_true rfl) | ((with_reducible refine chk_of ?_ ?_);rfl) | (with_reducible first|apply asI_of|apply asB_of|apply asP_of|apply asSl_of|apply asAggV_of|apply asTupV_of|apply asCons_of|apply asNil_of|apply isNil_n|apply isNil_i|apply nilC_i|apply nilCU_i|apply nilCU_f|apply mthC_i) | ((with_reducible refine And.intro ?_ ?_);rfl) | ((with_reducible apply exAnd);rfl))
      exact hq _ (St.keeps ‹_›)

theorem Decode_of {w : Int} {Q : Int → Int → Int → Int → Int → Int → Heap → Prop} (hq : ∀ h', Keeps none_ h h' → Q (decOf w).op (decOf w).rd (decOf w).rs1 (decOf w).rs2 (decOf w).imm (decOf w).e h') : insn_Decode w Q h := by
  unfold insn_Decode
  have S := St.start h none_
  repeat (first | ((with_reducible first|apply St.rI|apply St.rB|apply St.rP|apply St.rSl|apply St.rV|apply St.rM|apply St.rS|apply St.rN|apply St.ckA);assumption;(first|exact i0|exact i1|exact i2|exact i3|exact i4|exact i5|exact i6|exact i7|exact i8|exact i9|exact i10|exact i11|exact i12|exact i13|exact i14|exact i15);(first|rfl|exact Nat.le_of_ble_eq_true rfl)) | with_reducible refine der_of ?_ | ((with_reducible refine br_t ?_ ?_);rfl) | ((with_reducible refine br_f ?_ ?_);rfl) | ((with_reducible refine br_t ?_ ?_);assumption) | ((with_reducible refine br_f ?_ ?_);assumption) | ((with_reducible first|apply St.wrL|apply St.wr);assumption;(first|exact i0|exact i1|exact i2|exact i3|exact i4|exact i5|exact i6|exact i7|exact i8|exact i9|exact i10|exact i11|exact i12|exact i13|exact i14|exact i15);(first|exact Nat.le_of_ble_eq_true rfl|rfl);intro g_ S_;simp only [Ptr.add, List.set, splice, List.take, List.drop, List.nil_append, List.append_nil, List.cons_append, List.length_cons, List.length_nil, Nat.zero_add, Nat.add_zero, Nat.reduceAdd, Nat.reduceMul, Nat.mul_one, Int.toNat_zero, Int.toNat_one, Int.reduceToNat] at S_) | ((with_reducible first|apply St.al|apply St.alM);assumption;intro b_ g_ S_) | ((with_reducible refine ix_of ?_ ?_ ?_);exact of_decide_eq_true rfl;exact of_decide_eq_true rfl) | ((with_reducible first|refine nz_of ?_ ?_|refine nneg_of ?_ ?_);exact of_decide_eq_true rfl) | ((with_reducible refine chk_of ?_ ?_);rfl) | (with_reducible first|apply asI_of|apply asB_of|apply asP_of|apply asSl_of|apply asAggV_of|apply asTupV_of|apply asCons_of|apply asNil_of|apply isNil_n|apply isNil_i|apply nilC_i|apply nilCU_i|apply nilCU_f|apply mthC_i) | ((with_reducible refine And.intro ?_ ?_);rfl) | ((with_reducible apply exAnd);rfl))
  refine Field_of rfl (by decide) (by decide) (Field_of rfl (by decide) (by decide) ?_)
  repeat (first | ((with_reducible first|apply St.rI|apply St.rB|apply St.rP|apply St.rSl|apply St.rV|apply St.rM|apply St.rS|apply St.rN|apply St.ckA);assumption;(first|exact i0|exact i1|exact i2|exact i3|exact i4|exact i5|exact i6|exact i7|exact i8|exact i9|exact i10|exact i11|exact i12|exact i13|exact i14|exact i15);(first|rfl|exact Nat.le_of_ble_eq_true rfl)) | with_reducible refine der_of ?_ | ((with_reducible refine br_t ?_ ?_);rfl) | ((with_reducible refine br_f ?_ ?_);rfl) | ((with_reducible refine br_t ?_ ?_);assumption) | ((with_reducible refine br_f ?_ ?_);assumption) | ((with_reducible first|apply St.wrL|apply St.wr);assumption;(first|exact i0|exact i1|exact i2|exact i3|exact i4|exact i5|exact i6|exact i7|exact i8|exact i9|exact i10|exact i11|exact i12|exact i13|exact i14|exact i15);(first|exact Nat.le_of_ble_eq_true rfl|rfl);intro g_ S_;simp only [Ptr.add, List.set, splice, List.take, List.drop, List.nil_append, List.append_nil, List.cons_append, List.length_cons, List.length_nil, Nat.zero_add, Nat.add_zero, Nat.reduceAdd, Nat.reduceMul, Nat.mul_one, Int.toNat_zero, Int.toNat_one, Int.reduceToNat] at S_) | ((with_reducible first|apply St.al|apply St.alM);assumption;intro b_ g_ S_) | ((with_reducible refine ix_of ?_ ?_ ?_);exact of_decide_eq_true rfl;exact of_decide_eq_true rfl) | ((with_reducible first|refine nz_of ?_ ?_|refine nneg_of ?_ ?_);exact of_decide_eq_true rfl) | ((with_reducible refine chk_of ?_ ?_);rfl) | (with_reducible first|apply asI_of|apply asB_of|apply asP_of|apply asSl_of|apply asAggV_of|apply asTupV_of|apply asCons_of|apply asNil_of|apply isNil_n|apply isNil_i|apply nilC_i|apply nilCU_i|apply nilCU_f|apply mthC_i) | ((with_reducible refine And.intro ?_ ?_);rfl) | ((with_reducible apply exAnd);rfl))
  refine Shape_of (fun h2 k2 => ?_)
  have S2 := St.keep ‹_› k2
  unfold decOf at hq
  cases hs : shapeOf (wfield w 26 6) with
  | none =>
    rw [hs] at hq
    dsimp only [Option.getD_none, Option.isSome_none]
    repeat (first | ((with_reducible first|apply St.rI|apply St.rB|apply St.rP|apply St.rSl|apply St.rV|apply St.rM|apply St.rS|apply St.rN|apply St.ckA);assumption;(first|exact i0|exact i1|exact i2|exact i3|exact i4|exact i5|exact i6|exact i7|exact i8|exact i9|exact i10|exact i11|exact i12|exact i13|exact i14|exact i15);(first|rfl|exact Nat.le_of_ble_eq_true rfl)) | with_reducible refine der_of ?_ | ((with_reducible refine br_t ?_ ?_);rfl) | ((with_reducible refine br_f ?_ ?_);rfl) | ((with_reducible refine br_t ?_ ?_);assumption) | ((with_reducible refine br_f ?_ ?_);assumption) | ((with_reducible first|apply St.wrL|apply St.wr);assumption;(first|exact i0|exact i1|exact i2|exact i3|exact i4|exact i5|exact i6|exact i7|exact i8|exact i9|exact i10|exact i11|exact i12|exact i13|exact i14|exact i15);(first|exact Nat.le_of_ble_eq_true rfl|rfl);intro g_ S_;simp only [Ptr.add, List.set, splice, List.take, List.drop, List.nil_append, List.append_nil, List.cons_append, List.length_cons, List.length_nil, Nat.zero_add, Nat.add_zero, Nat.reduceAdd, Nat.reduceMul, Nat.mul_one, Int.toNat_zero, Int.toNat_one, Int.reduceToNat] at S_) | ((with_reducible first|apply St.al|apply St.alM);assumption;intro b_ g_ S_) | ((with_reducible refine ix_of ?_ ?_ ?_);exact of_decide_eq_true rfl;exact of_decide_eq_true rfl) | ((with_reducible first|refine nz_of ?_ ?_|refine nneg_of ?_ ?_);exact of_decide_eq_true rfl) | ((with_reducible refine chk_of ?_ ?_);rfl) | (with_reducible first|apply asI_of|apply asB_of|apply asP_of|apply asSl_of|apply asAggV_of|apply asTupV_of|apply asCons_of|apply asNil_of|apply isNil_n|apply isNil_i|apply nilC_i|apply nilCU_i|apply nilCU_f|apply mthC_i) | ((with_reducible refine And.intro ?_ ?_);rfl) | ((with_reducible apply exAnd);rfl))
    exact hq _ (St.keeps ‹_›)
  | some sh =>
    rw [hs] at hq
    dsimp only [Option.getD_some, Option.isSome_some]
    refine br_f rfl (br_if (fun c => ?_) (fun c => ?_))
    · have c : sh = 5 := by simpa using c
      simp only [if_pos c] at hq
      refine Field_of rfl (by decide) (by decide) (Sign_of rfl (by decide) ?_)
      repeat (first | ((with_reducible first|apply St.rI|apply St.rB|apply St.rP|apply St.rSl|apply St.rV|apply St.rM|apply St.rS|apply St.rN|apply St.ckA);assumption;(first|exact i0|exact i1|exact i2|exact i3|exact i4|exact i5|exact i6|exact i7|exact i8|exact i9|exact i10|exact i11|exact i12|exact i13|exact i14|exact i15);(first|rfl|exact Nat.le_of_ble_eq_true rfl)) | with_reducible refine der_of ?_ | ((with_reducible refine br_t ?_ ?_);rfl) | ((with_reducible refine br_f ?_ ?_);rfl) | ((with_reducible refine br_t ?_ ?_);assumption) | ((with_reducible refine br_f ?_ ?_);assumption) | ((with_reducible first|apply St.wrL|apply St.wr);assumption;(first|exact i0|exact i1|exact i2|exact i3|exact i4|exact i5|exact i6|exact i7|exact i8|exact i9|exact i10|exact i11|exact i12|exact i13|exact i14|exact i15);(first|exact Nat.le_of_ble_eq_true rfl|rfl);intro g_ S_;simp only [Ptr.add, List.set, splice, List.take, List.drop, List.nil_append, List.append_nil, List.cons_append, List.length_cons, List.length_nil, Nat.zero_add, Nat.add_zero, Nat.reduceAdd, Nat.reduceMul, Nat.mul_one, Int.toNat_zero, Int.toNat_one, Int.reduceToNat] at S_) | ((with_reducible first|apply St.al|apply St.alM);assumption;intro b_ g_ S_) | ((with_reducible refine ix_of ?_ ?_ ?_);exact of_decide_eq_true rfl;exact of_decide_eq_true rfl) | ((with_reducible first|refine nz_of ?_ ?_|refine nneg_of ?_ ?_);exact of_decide_eq_true rfl) | ((with_reducible refine chk_of ?_ ?_);rfl) | (with_reducible first|apply asI_of|apply asB_of|apply asP_of|apply asSl_of|apply asAggV_of|apply asTupV_of|apply asCons_of|apply asNil_of|apply isNil_n|apply isNil_i|apply nilC_i|apply nilCU_i|apply nilCU_f|apply mthC_i) | ((with_reducible refine And.intro ?_ ?_);rfl) | ((with_reducible apply exAnd);rfl))
      exact decRest_of rfl ‹_› hq
    · have c : ¬ sh = 5 := by simpa using c
      simp only [if_neg c] at hq
      refine Field_of rfl (by decide) (by decide) (Field_of rfl (by decide) (by decide) (Field_of rfl (by decide) (by decide) (Sign_of rfl (by decide) ?_)))
      repeat (first | ((with_reducible first|apply St.rI|apply St.rB|apply St.rP|apply St.rSl|apply St.rV|apply St.rM|apply St.rS|apply St.rN|apply St.ckA);assumption;(first|exact i0|exact i1|exact i2|exact i3|exact i4|exact i5|exact i6|exact i7|exact i8|exact i9|exact i10|exact i11|exact i12|exact i13|exact i14|exact i15);(first|rfl|exact Nat.le_of_ble_eq_true rfl)) | with_reducible refine der_of ?_ | ((with_reducible refine br_t ?_ ?_);rfl) | ((with_reducible refine br_f ?_ ?_);rfl) | ((with_reducible refine br_t ?_ ?_);assumption) | ((with_reducible refine br_f ?_ ?_);assumption) | ((with_reducible first|apply St.wrL|apply St.wr);assumption;(first|exact i0|exact i1|exact i2|exact i3|exact i4|exact i5|exact i6|exact i7|exact i8|exact i9|exact i10|exact i11|exact i12|exact i13|exact i14|exact i15);(first|exact Nat.le_of_ble_eq_true rfl|rfl);intro g_ S_;simp only [Ptr.add, List.set, splice, List.take, List.drop, List.nil_append, List.append_nil, List.cons_append, List.length_cons, List.length_nil, Nat.zero_add, Nat.add_zero, Nat.reduceAdd, Nat.reduceMul, Nat.mul_one, Int.toNat_zero, Int.toNat_one, Int.reduceToNat] at S_) | ((with_reducible first|apply St.al|apply St.alM);assumption;intro b_ g_ S_) | ((with_reducible refine ix_of ?_ ?_ ?_);exact of_decide_eq_true rfl;exact of_decide_eq_true rfl) | ((with_reducible first|refine nz_of ?_ ?_|refine nneg_of ?_ ?_);exact of_decide_eq_true rfl) | ((with_reducible refine chk_of ?_ ?_);rfl) | (with_reducible first|apply asI_of|apply asB_of|apply asP_of|apply asSl_of|apply asAggV_of|apply asTupV_of|apply asCons_of|apply asNil_of|apply isNil_n|apply isNil_i|apply nilC_i|apply nilCU_i|apply nilCU_f|apply mthC_i) | ((with_reducible refine And.intro ?_ ?_);rfl) | ((with_reducible apply exAnd);rfl))
      exact decRest_of rfl ‹_› hq

end
end Go.Insn

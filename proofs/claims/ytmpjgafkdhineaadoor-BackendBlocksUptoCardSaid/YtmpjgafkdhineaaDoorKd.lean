/- Chains of any parts: offered, taken, told. -/
import Derived.Test.YtmpjgafkdhineaaDoorKc

set_option linter.unusedSimpArgs false
set_option linter.unusedVariables false
set_option maxRecDepth 100000
namespace Go.Back
open Go.Lift Go.Fn Go.Mem Go.Frames

structure Pt where
  a : Int
  l : Int
  w : Bool

def Pt.cells (p : Pt) : List V := [.int .u64 p.a, .int .i64 p.l, .bool p.w]
def pcells : List Pt → List V
  | [] => []
  | p :: ps => p.cells ++ pcells ps

theorem pcells_get : ∀ {ps : List Pt} {i : Nat} {p : Pt} {j : Nat} {r : List V}, ps[i]? = some p → j < 3 → (pcells ps ++ r)[i * 3 + j]? = p.cells[j]?
  | [], _, _, _, _, h, _ => by simp at h
  | q :: ps, 0, p, j, r, h, hj => by
    simp at h; subst h
    rw [show pcells (q :: ps) = q.cells ++ pcells ps from rfl, List.append_assoc, List.getElem?_append_left (by simp [Pt.cells]; omega), Nat.zero_mul, Nat.zero_add]
  | q :: ps, i + 1, p, j, r, h, hj => by
    simp only [List.getElem?_cons_succ] at h
    rw [show pcells (q :: ps) = q.cells ++ pcells ps from rfl, List.append_assoc, List.getElem?_append_right (by simp [Pt.cells]; omega)]
    rw [show (i + 1) * 3 + j - q.cells.length = i * 3 + j by simp [Pt.cells]; omega]
    exact pcells_get h hj

/-- Parts that may be offered: only the last one is to be written. -/
structure PtOk (p : Pt) : Prop where
  a : 0 ≤ p.a ∧ p.a ≤ 1000000
  l : 1 ≤ p.l ∧ p.l ≤ 4096

def flg (p : Pt) (more : Bool) : Int := (if p.w then 2 else 0) + (if more then 1 else 0)

/-- The descriptors of the parts up to k stand there. -/
def Desc (m : Nat → Int) (ps : List Pt) (k : Nat) : Prop :=
  ∀ i p, i < k → ps[i]? = some p → m (4 * i) = p.a ∧ m (4 * i + 1) = p.l ∧ m (4 * i + 2) = flg p (decide (i + 1 < ps.length)) ∧ m (4 * i + 3) = ((i + 1 : Nat) : Int)

theorem Desc.same {m m' : Nat → Int} {ps : List Pt} {k : Nat} (D : Desc m ps k) (h : ∀ j, j < 4 * k → m' j = m j) : Desc m' ps k := by
  intro i p hi hp
  obtain ⟨h1, h2, h3, h4⟩ := D i p hi hp
  exact ⟨(h _ (by omega)).trans h1, (h _ (by omega)).trans h2, (h _ (by omega)).trans h3, (h _ (by omega)).trans h4⟩

section
variable {U U' : Ifc} {x : Nat → Int} {h0 h : Heap} {W : Nat → Prop}

end
end Go.Back

set_option linter.unusedSimpArgs false
set_option linter.unusedVariables false
set_option maxRecDepth 100000
namespace Go.Back
open Go.Lift Go.Fn Go.Mem Go.Frames

section
variable {U U' : Ifc} {x : Nat → Int} {h0 h : Heap} {W : Nat → Prop}

end
end Go.Back

set_option linter.unusedSimpArgs false
set_option linter.unusedVariables false
set_option maxRecDepth 100000
namespace Go.Back
open Go.Lift Go.Fn Go.Mem Go.Frames

/-- A chain that may be taken. -/
structure PsOk (ps : List Pt) : Prop where
  n : 1 ≤ ps.length ∧ ps.length ≤ 8
  ok : ∀ p, p ∈ ps → PtOk p
  wr : ∀ (i : Nat) p q, ps[i]? = some p → ps[i + 1]? = some q → p.w = true → q.w = true

section
variable {U U' : Ifc} {x : Nat → Int} {h0 h : Heap} {W : Nat → Prop} {L : List (Nat × HO)}

theorem gput2 {gb pm bm g p b base k : Nat} {bs xs : List UInt8} {mk : Bool} {m : Nat → Int} {s : Sl} (S : St h0 W L h)
    (hg : L[g]? = some (gb, .cells (flatC pm (base : Int)) false)) (hp : L[p]? = some (pm, .cells (memC bm) false)) (hm : L[b]? = some (bm, .cells (strCells bs) mk)) (hpb : p ≠ b) (M : MemIs bs base m) (hb : base + 16 ≤ 40) (H : Held h s 1 (strCells xs)) (hk : k + xs.length ≤ 4096) {a : Int} (ea : a = (k : Int))
    {Q : Int → Heap → Prop} (hq : ∀ mk' h', St h0 W (L.set b (bm, .cells (strCells (Go.Mem.put bs (256 * base + k) xs)) mk')) h' → Q 0 h') : zf45 (some ⟨gb, 0⟩) a s Q h := by
  subst ea
  have e16 : IntKind.u64.wrap (IntKind.i64.wrap (256 * 16)) = 4096 := by decide
  have hs : s.len = xs.length := by have := H.len; rw [strCells_length] at this; omega
  unfold zf45
  rw [der_some]
  refine S.rI hg rfl (br_f (decide_eq_false (by rw [e16]; omega)) ?_)
  rw [der_some]
  refine S.rI hg rfl (br_f (decide_eq_false (by rw [e16, wrapu64 (x := ((s.len : Nat) : Int)), wrapu64] <;> omega)) ?_)
  rw [der_some]
  refine S.rP hg rfl ?_
  rw [der_some]
  refine S.rI hg rfl ?_
  have e : IntKind.u64.wrap ((k : Int) + IntKind.u64.wrap (IntKind.i64.wrap (256 * (base : Int)))) = ((256 * base + k : Nat) : Int) := by
    rw [wrap64 (x := 256 * (base : Int)), wrapu64 (x := 256 * (base : Int)), wrapu64] <;> omega
  rw [e]
  have hl := M.len
  refine Mem.Put_of (mrep S hp hm hpb M.len) (by omega) (by omega) H (by omega) (fun hn => ?_) (fun _ h1 R1 k1 => ?_)
  · exfalso
    rw [hl] at hn
    simp [lies] at hn
    omega
  · rw [Int.toNat_natCast] at R1
    obtain ⟨mk', harr⟩ := R1.arr
    exact hq mk' h1 (S.put hm harr k1)

/-- The byte at an address of the guest's. -/
def byteAt (bs : List UInt8) (base a : Nat) : Int := valN 1 bs ((256 * base + a : Nat) : Int)

theorem byteAt_eq {bs : List UInt8} {base a : Nat} : byteAt bs base a = (((bs.drop (256 * base + a)).headD 0).toNat : Int) := by
  unfold byteAt valN sx
  rw [if_neg (by decide), Int.toNat_natCast]
  cases bs.drop (256 * base + a) with
  | nil => rfl
  | cons b l => simp [byteSum]

theorem byteAt_put {bs : List UInt8} {base a : Nat} {b : UInt8} (ha : 256 * base + a < bs.length) : byteAt (Go.Mem.put bs (256 * base + a) [b]) base a = (b.toNat : Int) := by
  rw [byteAt_eq]
  have e : ((Go.Mem.put bs (256 * base + a) [b]).drop (256 * base + a)).headD 0 = b := by
    rw [List.headD_eq_head?_getD, List.head?_drop, put_get (by simp; omega), if_pos (by simp)]
    simp
  rw [e]

theorem byteSum_inj : ∀ (l1 l2 : List UInt8), l1.length = l2.length → byteSum l1 = byteSum l2 → l1 = l2
  | [], [], _, _ => rfl
  | [], _ :: _, h, _ => by simp at h
  | _ :: _, [], h, _ => by simp at h
  | a :: l1, b :: l2, h, e => by
    simp only [byteSum] at e
    have ha := a.toNat_lt
    have hb := b.toNat_lt
    have h1 : a = b := UInt8.toNat_inj.1 (by omega)
    subst h1
    rw [byteSum_inj l1 l2 (by simpa using h) (by omega)]

/-- Where a word is the same, its bytes are. -/
theorem byteAt_word {bs bs' : List UInt8} {base : Nat} {m m' : Nat → Int} (M : MemIs bs base m) (M' : MemIs bs' base m') (hb : base + 16 ≤ 40) {a : Nat} (ha : a < 4096) (he : m' (a / 8) = m (a / 8)) : byteAt bs' base a = byteAt bs base a := by
  have h1 := M.word (a / 8) (by omega)
  have h2 := M'.word (a / 8) (by omega)
  rw [he, ← h1] at h2
  unfold valN sx at h2
  rw [if_neg (by decide), if_neg (by decide), Int.toNat_natCast] at h2
  have hl := M.len
  have hl' := M'.len
  have e := byteSum_inj _ _ (by simp; omega) (Int.ofNat_inj.1 h2)
  rw [byteAt_eq, byteAt_eq, List.headD_eq_head?_getD, List.headD_eq_head?_getD, List.head?_drop, List.head?_drop]
  have g := congrArg (fun l => l[a % 8]?) e
  rw [List.getElem?_take_of_lt (by omega), List.getElem?_take_of_lt (by omega), List.getElem?_drop, List.getElem?_drop, show 256 * base + 8 * (a / 8) + a % 8 = 256 * base + a by omega] at g
  rw [g]

theorem gbyte (w : Wid U h0 x) (hw : ¬ W (U.glob 1)) (hk1 : knownB x 1 = true) {gb pm bm g p b base k : Nat} {bs : List UInt8} {mk : Bool} {m : Nat → Int} (S : St h0 W L h)
    (hg : L[g]? = some (gb, .cells (flatC pm (base : Int)) false)) (hp : L[p]? = some (pm, .cells (memC bm) false)) (hm : L[b]? = some (bm, .cells (strCells bs) mk)) (hpb : p ≠ b) (M : MemIs bs base m) (hb : base + 16 ≤ 40) (hk : k < 4096) {a : Int} (ea : a = (k : Int))
    {Q : Int → Int → Heap → Prop} (hq : ∀ h', Keeps none_ h h' → Q (byteAt bs base k) 0 h') : zf44 U (some ⟨gb, 0⟩) a 1 Q h := by
  subst ea
  unfold zf44
  rw [der_some]
  refine S.rI hg rfl (br_f (decide_eq_false (by rw [show IntKind.u64.wrap (IntKind.i64.wrap (256 * 16)) = 4096 by decide]; omega)) ?_)
  rw [der_some]
  refine S.rP hg rfl ?_
  rw [der_some]
  refine S.rI hg rfl ?_
  have e : IntKind.u64.wrap ((k : Int) + IntKind.u64.wrap (IntKind.i64.wrap (256 * (base : Int)))) = ((256 * base + k : Nat) : Int) := by
    rw [wrap64 (x := 256 * (base : Int)), wrapu64 (x := 256 * (base : Int)), wrapu64] <;> omega
  rw [e]
  have hok : errN 1 bs.length ((256 * base + k : Nat) : Int) = 0 := by
    rw [M.len]
    unfold errN
    rw [if_neg (by simp), show lies 10240 ((256 * base + k : Nat) : Int) ((1 : Nat) : Int) = true by simp [lies]; omega]
    rfl
  refine LoadN_of (w.keeps S.keeps hw) (mrep S hp hm hpb M.len) (n := 1) (.inl rfl) hk1 (by omega) (by omega) (fun _ g1 k1 => ?_) (fun hne => absurd hok hne) rfl
  exact hq g1 k1

theorem tell_gen (hu : GU U U') {cb gb pm bm base c : Nat} {bs : List UInt8} {mk mk' : Bool} {rest : List V} {m : Nat → Int} {st : Int} {ps : List Pt} {q : Pt} {k : Nat} (M : MemIs bs base m) (hb : base + 16 ≤ 40) (hst : 0 ≤ st ∧ st ≤ 255) (hps : 1 ≤ ps.length ∧ ps.length ≤ 8) (hq' : ps[ps.length - 1]? = some q) (hk : q.a = (k : Int)) (hk2 : k < 4096)
    (S : St h0 W [(cb, .cells (pcells ps ++ rest) mk'), (gb, .cells (flatC pm (base : Int)) false), (pm, .cells (memC bm) false), (bm, .cells (strCells bs) mk)] h) {Q : Int → Heap → Prop}
    (hq0 : q.w = false → ∀ h', St h0 W [(cb, .cells (pcells ps ++ rest) mk'), (gb, .cells (flatC pm (base : Int)) false), (pm, .cells (memC bm) false), (bm, .cells (strCells bs) mk)] h' → Q 0 h')
    (hq1 : q.w = true → ∀ bs' m' mk2 h', MemIs bs' base m' → (∀ j, j < 512 → j ≠ k / 8 → m' j = m j) → byteAt bs' base k = st → St h0 W [(cb, .cells (pcells ps ++ rest) mk'), (gb, .cells (flatC pm (base : Int)) false), (pm, .cells (memC bm) false), (bm, .cells (strCells bs') mk2)] h' → Q 1 h') :
    zf8 U (.iface 4 (.ptr (some ⟨gb, 0⟩))) 0 ⟨some ⟨cb, 0⟩, ps.length, c⟩ st Q h := by
  have c0 : (pcells ps ++ rest)[0 + (ps.length - 1) * 3 + 0]? = some (.int .u64 q.a) := by rw [Nat.zero_add]; exact (pcells_get hq' (by decide)).trans rfl
  have c1 : (pcells ps ++ rest)[0 + (ps.length - 1) * 3 + 1]? = some (.int .i64 q.l) := by rw [Nat.zero_add]; exact (pcells_get hq' (by decide)).trans rfl
  have c2 : (pcells ps ++ rest)[0 + (ps.length - 1) * 3 + 2]? = some (.bool q.w) := by rw [Nat.zero_add]; exact (pcells_get hq' (by decide)).trans rfl
  unfold zf8
  ((with_reducible apply St.al); assumption; intro b1 g_ S_)
  repeat (first | ((with_reducible first|apply St.rI|apply St.rB|apply St.rP|apply St.rSl|apply St.rV|apply St.rM|apply St.rS|apply St.rN|apply St.ckA);assumption;(first|exact i0|exact i1|exact i2|exact i3|exact i4|exact i5|exact i6|exact i7|exact i8|exact i9|exact i10|exact i11|exact i12|exact i13|exact i14|exact i15);(first|rfl|exact Nat.le_of_ble_eq_true rfl)) | with_reducible refine der_of ?_ | ((with_reducible refine br_t ?_ ?_);rfl) | ((with_reducible refine br_f ?_ ?_);rfl) | ((with_reducible refine br_t ?_ ?_);assumption) | ((with_reducible refine br_f ?_ ?_);assumption) | ((with_reducible first|apply St.wrL|apply St.wr);assumption;(first|exact i0|exact i1|exact i2|exact i3|exact i4|exact i5|exact i6|exact i7|exact i8|exact i9|exact i10|exact i11|exact i12|exact i13|exact i14|exact i15);(first|exact Nat.le_of_ble_eq_true rfl|rfl);intro g_ S_;simp only [Ptr.add, List.set, splice, List.take, List.drop, List.nil_append, List.append_nil, List.cons_append, List.length_cons, List.length_nil, Nat.zero_add, Nat.add_zero, Nat.reduceAdd, Nat.reduceMul, Nat.mul_one, Int.toNat_zero, Int.toNat_one, Int.reduceToNat] at S_) | ((with_reducible refine ix_of ?_ ?_ ?_);exact of_decide_eq_true rfl;exact of_decide_eq_true rfl) | ((with_reducible first|refine nz_of ?_ ?_|refine nneg_of ?_ ?_);exact of_decide_eq_true rfl) | ((with_reducible refine chk_of ?_ ?_);rfl) | (with_reducible first|apply asI_of|apply asB_of|apply asP_of|apply asSl_of|apply asAggV_of|apply asTupV_of|apply asCons_of|apply asNil_of|apply isNil_n|apply isNil_i|apply nilC_i|apply nilCU_i|apply nilCU_f|apply mthC_i) | ((with_reducible refine And.intro ?_ ?_);rfl) | ((with_reducible apply exAnd);rfl))
  have ei : IntKind.i64.wrap ((ps.length : Int) - 1) = ((ps.length - 1 : Nat) : Int) := by rw [wrap64] <;> omega
  show ix (IntKind.i64.wrap ((ps.length : Int) - 1)) ps.length _
  rw [ei]
  refine ix_of (by omega) (by omega) ?_
  rw [der_some, Int.toNat_natCast]
  refine S_.rI i1 c0 (S_.rI i1 c1 (S_.rB i1 c2 ?_))
  ((with_reducible apply St.al); assumption; intro b2 g_ S_)
  repeat (first | ((with_reducible first|apply St.rI|apply St.rB|apply St.rP|apply St.rSl|apply St.rV|apply St.rM|apply St.rS|apply St.rN|apply St.ckA);assumption;(first|exact i0|exact i1|exact i2|exact i3|exact i4|exact i5|exact i6|exact i7|exact i8|exact i9|exact i10|exact i11|exact i12|exact i13|exact i14|exact i15);(first|rfl|exact Nat.le_of_ble_eq_true rfl)) | with_reducible refine der_of ?_ | ((with_reducible refine br_t ?_ ?_);rfl) | ((with_reducible refine br_f ?_ ?_);rfl) | ((with_reducible refine br_t ?_ ?_);assumption) | ((with_reducible refine br_f ?_ ?_);assumption) | ((with_reducible first|apply St.wrL|apply St.wr);assumption;(first|exact i0|exact i1|exact i2|exact i3|exact i4|exact i5|exact i6|exact i7|exact i8|exact i9|exact i10|exact i11|exact i12|exact i13|exact i14|exact i15);(first|exact Nat.le_of_ble_eq_true rfl|rfl);intro g_ S_;simp only [Ptr.add, List.set, splice, List.take, List.drop, List.nil_append, List.append_nil, List.cons_append, List.length_cons, List.length_nil, Nat.zero_add, Nat.add_zero, Nat.reduceAdd, Nat.reduceMul, Nat.mul_one, Int.toNat_zero, Int.toNat_one, Int.reduceToNat] at S_) | ((with_reducible refine ix_of ?_ ?_ ?_);exact of_decide_eq_true rfl;exact of_decide_eq_true rfl) | ((with_reducible first|refine nz_of ?_ ?_|refine nneg_of ?_ ?_);exact of_decide_eq_true rfl) | ((with_reducible refine chk_of ?_ ?_);rfl) | (with_reducible first|apply asI_of|apply asB_of|apply asP_of|apply asSl_of|apply asAggV_of|apply asTupV_of|apply asCons_of|apply asNil_of|apply isNil_n|apply isNil_i|apply nilC_i|apply nilCU_i|apply nilCU_f|apply mthC_i) | ((with_reducible refine And.intro ?_ ?_);rfl) | ((with_reducible apply exAnd);rfl))
  cases hw : q.w
  · repeat (first | ((with_reducible first|apply St.rI|apply St.rB|apply St.rP|apply St.rSl|apply St.rV|apply St.rM|apply St.rS|apply St.rN|apply St.ckA);assumption;(first|exact i0|exact i1|exact i2|exact i3|exact i4|exact i5|exact i6|exact i7|exact i8|exact i9|exact i10|exact i11|exact i12|exact i13|exact i14|exact i15);(first|rfl|exact Nat.le_of_ble_eq_true rfl)) | with_reducible refine der_of ?_ | ((with_reducible refine br_t ?_ ?_);rfl) | ((with_reducible refine br_f ?_ ?_);rfl) | ((with_reducible refine br_t ?_ ?_);assumption) | ((with_reducible refine br_f ?_ ?_);assumption) | ((with_reducible first|apply St.wrL|apply St.wr);assumption;(first|exact i0|exact i1|exact i2|exact i3|exact i4|exact i5|exact i6|exact i7|exact i8|exact i9|exact i10|exact i11|exact i12|exact i13|exact i14|exact i15);(first|exact Nat.le_of_ble_eq_true rfl|rfl);intro g_ S_;simp only [Ptr.add, List.set, splice, List.take, List.drop, List.nil_append, List.append_nil, List.cons_append, List.length_cons, List.length_nil, Nat.zero_add, Nat.add_zero, Nat.reduceAdd, Nat.reduceMul, Nat.mul_one, Int.toNat_zero, Int.toNat_one, Int.reduceToNat] at S_) | ((with_reducible refine ix_of ?_ ?_ ?_);exact of_decide_eq_true rfl;exact of_decide_eq_true rfl) | ((with_reducible first|refine nz_of ?_ ?_|refine nneg_of ?_ ?_);exact of_decide_eq_true rfl) | ((with_reducible refine chk_of ?_ ?_);rfl) | (with_reducible first|apply asI_of|apply asB_of|apply asP_of|apply asSl_of|apply asAggV_of|apply asTupV_of|apply asCons_of|apply asNil_of|apply isNil_n|apply isNil_i|apply nilC_i|apply nilCU_i|apply nilCU_f|apply mthC_i) | ((with_reducible refine And.intro ?_ ?_);rfl) | ((with_reducible apply exAnd);rfl))
    exact hq0 hw _ (St.pick S_ [2, 3, 4, 5] (by decide) rfl)
  · repeat (first | ((with_reducible first|apply St.rI|apply St.rB|apply St.rP|apply St.rSl|apply St.rV|apply St.rM|apply St.rS|apply St.rN|apply St.ckA);assumption;(first|exact i0|exact i1|exact i2|exact i3|exact i4|exact i5|exact i6|exact i7|exact i8|exact i9|exact i10|exact i11|exact i12|exact i13|exact i14|exact i15);(first|rfl|exact Nat.le_of_ble_eq_true rfl)) | with_reducible refine der_of ?_ | ((with_reducible refine br_t ?_ ?_);rfl) | ((with_reducible refine br_f ?_ ?_);rfl) | ((with_reducible refine br_t ?_ ?_);assumption) | ((with_reducible refine br_f ?_ ?_);assumption) | ((with_reducible first|apply St.wrL|apply St.wr);assumption;(first|exact i0|exact i1|exact i2|exact i3|exact i4|exact i5|exact i6|exact i7|exact i8|exact i9|exact i10|exact i11|exact i12|exact i13|exact i14|exact i15);(first|exact Nat.le_of_ble_eq_true rfl|rfl);intro g_ S_;simp only [Ptr.add, List.set, splice, List.take, List.drop, List.nil_append, List.append_nil, List.cons_append, List.length_cons, List.length_nil, Nat.zero_add, Nat.add_zero, Nat.reduceAdd, Nat.reduceMul, Nat.mul_one, Int.toNat_zero, Int.toNat_one, Int.reduceToNat] at S_) | ((with_reducible refine ix_of ?_ ?_ ?_);exact of_decide_eq_true rfl;exact of_decide_eq_true rfl) | ((with_reducible first|refine nz_of ?_ ?_|refine nneg_of ?_ ?_);exact of_decide_eq_true rfl) | ((with_reducible refine chk_of ?_ ?_);rfl) | (with_reducible first|apply asI_of|apply asB_of|apply asP_of|apply asSl_of|apply asAggV_of|apply asTupV_of|apply asCons_of|apply asNil_of|apply isNil_n|apply isNil_i|apply nilC_i|apply nilCU_i|apply nilCU_f|apply mthC_i) | ((with_reducible refine And.intro ?_ ?_);rfl) | ((with_reducible apply exAnd);rfl))
    ((with_reducible apply St.al); assumption; intro c3 g_ S_)
    have H : Held g_ ⟨some ⟨c3, 0⟩, 1, 1⟩ 1 (strCells [UInt8.ofNat st.toNat]) := by
      refine ⟨rfl, fun p hp i v hv => ?_, fun hp => by cases hp⟩
      cases hp
      rw [get_cells (S_.obj i0), Nat.zero_add, ← hv]
      have : ((UInt8.ofNat st.toNat).toNat : Int) = st := by
        have h1 : (UInt8.ofNat st.toNat).toNat = st.toNat % 256 := by simp
        rw [h1]; omega
      have e : strCells [UInt8.ofNat st.toNat] = [V.int .u8 st] := by simp only [strCells, List.map_cons, List.map_nil, this]
      rw [e]
    refine hu.put _ _ _ _ _ (gput2 (g := 4) (p := 5) (b := 6) (k := k) S_ rfl rfl rfl (by decide) M hb H (by show k + 1 ≤ 4096; omega) hk (fun mk2 g1 S1 => ?_))
    simp only [List.set] at S1
    clear S_
    repeat (first | ((with_reducible first|apply St.rI|apply St.rB|apply St.rP|apply St.rSl|apply St.rV|apply St.rM|apply St.rS|apply St.rN|apply St.ckA);assumption;(first|exact i0|exact i1|exact i2|exact i3|exact i4|exact i5|exact i6|exact i7|exact i8|exact i9|exact i10|exact i11|exact i12|exact i13|exact i14|exact i15);(first|rfl|exact Nat.le_of_ble_eq_true rfl)) | with_reducible refine der_of ?_ | ((with_reducible refine br_t ?_ ?_);rfl) | ((with_reducible refine br_f ?_ ?_);rfl) | ((with_reducible refine br_t ?_ ?_);assumption) | ((with_reducible refine br_f ?_ ?_);assumption) | ((with_reducible first|apply St.wrL|apply St.wr);assumption;(first|exact i0|exact i1|exact i2|exact i3|exact i4|exact i5|exact i6|exact i7|exact i8|exact i9|exact i10|exact i11|exact i12|exact i13|exact i14|exact i15);(first|exact Nat.le_of_ble_eq_true rfl|rfl);intro g_ S_;simp only [Ptr.add, List.set, splice, List.take, List.drop, List.nil_append, List.append_nil, List.cons_append, List.length_cons, List.length_nil, Nat.zero_add, Nat.add_zero, Nat.reduceAdd, Nat.reduceMul, Nat.mul_one, Int.toNat_zero, Int.toNat_one, Int.reduceToNat] at S_) | ((with_reducible refine ix_of ?_ ?_ ?_);exact of_decide_eq_true rfl;exact of_decide_eq_true rfl) | ((with_reducible first|refine nz_of ?_ ?_|refine nneg_of ?_ ?_);exact of_decide_eq_true rfl) | ((with_reducible refine chk_of ?_ ?_);rfl) | (with_reducible first|apply asI_of|apply asB_of|apply asP_of|apply asSl_of|apply asAggV_of|apply asTupV_of|apply asCons_of|apply asNil_of|apply isNil_n|apply isNil_i|apply nilC_i|apply nilCU_i|apply nilCU_f|apply mthC_i) | ((with_reducible refine And.intro ?_ ?_);rfl) | ((with_reducible apply exAnd);rfl))
    obtain ⟨m', M', hm'⟩ := M.other (xs := [UInt8.ofNat st.toNat]) (a := 256 * base + k) (by simp only [List.length_cons, List.length_nil]; omega)
    have hl := M.len
    refine hq1 hw _ m' mk2 _ M' (fun j hj hne => hm' j hj (by simp only [List.length_cons, List.length_nil]; omega)) ?_ (St.pick S1 [3, 4, 5, 6] (by decide) rfl)
    rw [byteAt_put (by omega)]
    have h1 : (UInt8.ofNat st.toNat).toNat = st.toNat % 256 := by simp
    rw [h1]; omega

end
end Go.Back

set_option linter.unusedSimpArgs false
set_option linter.unusedVariables false
set_option maxRecDepth 100000
namespace Go.Back
open Go.Lift Go.Fn Go.Mem Go.Frames

/-- The frames are as they were, but how often a page's is had. -/
structure FrEq (p : Ad) (F0 F : FS) : Prop where
  w : F.w = F0.w
  t : ∀ f, f ≠ p.fr → ifind f F.t = ifind f F0.t

theorem FrEq.put {p : Ad} {F0 F : FS} (e : FrEq p F0 F) (v : V) : FrEq p F0 { F with t := iput p.fr v F.t } :=
  ⟨e.w, fun f hf => by show ifind f (iput p.fr v F.t) = _; rw [ifind_iput, if_neg hf]; exact e.t f hf⟩

/-- As Wld; the memory's bytes and the disk are told. -/
def Wld2 (p : Ad) (h0 : Heap) (X : List (Nat × HO)) (m : Nat → Int) (t g0 : Nat) (ws ps : List Wt) (bs : List UInt8) (d : Disk.Dsk) (F0 : FS) (h : Heap) : Prop :=
  ∃ F mk bt ct bw cw eb ec y, FrEq p F0 F ∧ MemIs bs p.base m ∧ A3ok F bt ct bw cw ∧ FrOk p F (1 + ws.length) ∧ (eb.Nodup ∧ (∀ b, b ∈ eb → b < ec) ∧ eb.length = (ws.map p.ent).length) ∧
    d.n = 12 ∧ d.pend = ps.map p.req ∧ Row g0 ws ∧ g0 + ws.length = t ∧ BW h0 (p.L F bt ct bw cw (t : Int) (ws.map p.ent) eb ec t g0 bs mk ++ (X ++ ws.map p.cl)) p.db y d h

theorem waits2 {h0 h : Heap} {p : Ad} {X : List (Nat × HO)} {m : Nat → Int} {t g0 : Nat} {ws ps : List Wt} {bs : List UInt8} {d : Disk.Dsk} {F0 : FS} (Wl : Wld2 p h0 X m t g0 ws ps bs d F0 h) {Q : Int → Heap → Prop} (hq : Q (ws.length : Int) h) : zf2 (some ⟨p.blk, 0⟩) Q h := by
  obtain ⟨F, mk, bt, ct, bw, cw, eb, ec, y, fe, M, a3, fr, eq, hn, hp, row, hgt, B⟩ := Wl
  simp only [Ad.L, List.cons_append, List.nil_append] at B
  have S_ := B.st.base
  unfold zf2
  repeat (first | ((with_reducible first|apply St.rI|apply St.rB|apply St.rP|apply St.rSl|apply St.rV|apply St.rM|apply St.rS|apply St.rN|apply St.ckA);assumption;(first|exact i0|exact i1|exact i2|exact i3|exact i4|exact i5|exact i6|exact i7|exact i8|exact i9|exact i10|exact i11|exact i12|exact i13|exact i14|exact i15);(first|rfl|exact Nat.le_of_ble_eq_true rfl)) | with_reducible refine der_of ?_ | ((with_reducible refine br_t ?_ ?_);rfl) | ((with_reducible refine br_f ?_ ?_);rfl) | ((with_reducible refine br_t ?_ ?_);assumption) | ((with_reducible refine br_f ?_ ?_);assumption) | ((with_reducible first|apply St.wrL|apply St.wr);assumption;(first|exact i0|exact i1|exact i2|exact i3|exact i4|exact i5|exact i6|exact i7|exact i8|exact i9|exact i10|exact i11|exact i12|exact i13|exact i14|exact i15);(first|exact Nat.le_of_ble_eq_true rfl|rfl);intro g_ S_;simp only [Ptr.add, List.set, splice, List.take, List.drop, List.nil_append, List.append_nil, List.cons_append, List.length_cons, List.length_nil, Nat.zero_add, Nat.add_zero, Nat.reduceAdd, Nat.reduceMul, Nat.mul_one, Int.toNat_zero, Int.toNat_one, Int.reduceToNat] at S_) | ((with_reducible refine ix_of ?_ ?_ ?_);exact of_decide_eq_true rfl;exact of_decide_eq_true rfl) | ((with_reducible first|refine nz_of ?_ ?_|refine nneg_of ?_ ?_);exact of_decide_eq_true rfl) | ((with_reducible refine chk_of ?_ ?_);rfl) | (with_reducible first|apply asI_of|apply asB_of|apply asP_of|apply asSl_of|apply asAggV_of|apply asTupV_of|apply asCons_of|apply asNil_of|apply isNil_n|apply isNil_i|apply nilC_i|apply nilCU_i|apply nilCU_f|apply mthC_i) | ((with_reducible refine And.intro ?_ ?_);rfl) | ((with_reducible apply exAnd);rfl))
  unfold mapLen
  refine ⟨_, _, _, _, S_.obj (i := 4) rfl, ?_⟩
  rw [ikeys_length, List.length_map]
  exact hq


section
variable {U U' : Ifc} {x : Nat → Int} {h0 h : Heap}

theorem round2 (hu : GU U U') (u : Disk.DU U) (w : Wid U' h0 x) (hk8 : knownB x 8 = true) {p : Ad} (ok : p.Ok) {X : List (Nat × HO)} {m : Nat → Int} {t g0 : Nat} {ws : List Wt} {bs : List UInt8} {d : Disk.Dsk} {F0 : FS}
    (h128 : m 128 = p.kind) (h129 : m 129 = p.block) (ht0 : t ≤ 900) (hws : ws.length < 8) {cnt : Int} (hcnt : m 32 = cnt) (h1 : (t : Int) < cnt ∧ cnt ≤ t + 8) (hhead : m (33 + t % 8) = 0) (T : Three m 1024 16 (256 * p.page) 256 (p.kind == 0) 1100 1)
    (Wl : Wld2 p h0 X m t g0 ws ws bs d F0 h) {I : Option Ptr → V → Int → Heap → Prop} {n : Int} {Q : Int → Int → Heap → Prop}
    (hI : ∀ q d' h', d'.blk = d.blk → Wld2 p h0 X m (t + 1) g0 (ws ++ [q]) (ws ++ [q]) bs d' F0 h' → I (some ⟨p.blk, 0⟩) (.iface 4 (.ptr (some ⟨p.gb, 0⟩))) n h') :
    zf1.b4 U I (some ⟨p.blk, 0⟩) (.iface 4 (.ptr (some ⟨p.gb, 0⟩))) n Q h := by
  have hw0 : ¬ none_ (U'.glob 1) := fun f => f
  obtain ⟨F, mk, bt, ct, bw, cw, eb, ec, y, fe, M, a3, fr, eq, hn, hp, row, hgt, B⟩ := Wl
  obtain ⟨es, hes⟩ : ∃ es, es = ws.map p.ent := ⟨_, rfl⟩
  obtain ⟨R, hR⟩ : ∃ R, R = X ++ ws.map p.cl := ⟨_, rfl⟩
  rw [← hes] at eq B
  rw [← hR] at B
  have hsub := subErr_ok (k := t) hn hp (by have := ok.f; have := ok.bl; omega) hws (fun q hq => by have := row.lt q hq; omega)
  have hnew : ifind ((p.owner : Int) * 4294967296 + (t : Int)) es = none := by rw [hes]; exact ent_none ws (fun q hq => by have := row.lt q hq; omega)
  have hel : es.length = ws.length := by rw [hes]; simp
  obtain ⟨fb, tm, wm, blk, rg, db, wq, gb, pm, bm, base, first, owner, page, block, kind⟩ := p
  obtain ⟨hb, hb4, hf, hown, hpg, hbl, hkd⟩ := ok
  obtain ⟨fn, ff, ft, fw⟩ := fr
  simp only [Ad.fr, Ad.L, List.cons_append, List.nil_append] at h128 h129 T M fn ff ft fw eq B hb hb4 hf hown hpg hbl hkd hsub hnew ⊢
  unfold zf1.b4
  have S_ := B.st.base
  repeat (first | ((with_reducible first|apply St.rI|apply St.rB|apply St.rP|apply St.rSl|apply St.rV|apply St.rM|apply St.rS|apply St.rN|apply St.ckA);assumption;(first|exact i0|exact i1|exact i2|exact i3|exact i4|exact i5|exact i6|exact i7|exact i8|exact i9|exact i10|exact i11|exact i12|exact i13|exact i14|exact i15);(first|rfl|exact Nat.le_of_ble_eq_true rfl)) | with_reducible refine der_of ?_ | ((with_reducible refine br_t ?_ ?_);rfl) | ((with_reducible refine br_f ?_ ?_);rfl) | ((with_reducible refine br_t ?_ ?_);assumption) | ((with_reducible refine br_f ?_ ?_);assumption) | ((with_reducible first|apply St.wrL|apply St.wr);assumption;(first|exact i0|exact i1|exact i2|exact i3|exact i4|exact i5|exact i6|exact i7|exact i8|exact i9|exact i10|exact i11|exact i12|exact i13|exact i14|exact i15);(first|exact Nat.le_of_ble_eq_true rfl|rfl);intro g_ S_;simp only [Ptr.add, List.set, splice, List.take, List.drop, List.nil_append, List.append_nil, List.cons_append, List.length_cons, List.length_nil, Nat.zero_add, Nat.add_zero, Nat.reduceAdd, Nat.reduceMul, Nat.mul_one, Int.toNat_zero, Int.toNat_one, Int.reduceToNat] at S_) | ((with_reducible refine ix_of ?_ ?_ ?_);exact of_decide_eq_true rfl;exact of_decide_eq_true rfl) | ((with_reducible first|refine nz_of ?_ ?_|refine nneg_of ?_ ?_);exact of_decide_eq_true rfl) | ((with_reducible refine chk_of ?_ ?_);rfl) | (with_reducible first|apply asI_of|apply asB_of|apply asP_of|apply asSl_of|apply asAggV_of|apply asTupV_of|apply asCons_of|apply asNil_of|apply isNil_n|apply isNil_i|apply nilC_i|apply nilCU_i|apply nilCU_f|apply mthC_i) | ((with_reducible refine And.intro ?_ ?_);rfl) | ((with_reducible apply exAnd);rfl))
  unfold mapLen
  refine ⟨_, _, _, _, S_.obj (i := 4) rfl, ?_⟩
  rw [ikeys_length, hel]
  refine br_t (decide_eq_true (by omega)) ?_
  repeat (first | ((with_reducible first|apply St.rI|apply St.rB|apply St.rP|apply St.rSl|apply St.rV|apply St.rM|apply St.rS|apply St.rN|apply St.ckA);assumption;(first|exact i0|exact i1|exact i2|exact i3|exact i4|exact i5|exact i6|exact i7|exact i8|exact i9|exact i10|exact i11|exact i12|exact i13|exact i14|exact i15);(first|rfl|exact Nat.le_of_ble_eq_true rfl)) | with_reducible refine der_of ?_ | ((with_reducible refine br_t ?_ ?_);rfl) | ((with_reducible refine br_f ?_ ?_);rfl) | ((with_reducible refine br_t ?_ ?_);assumption) | ((with_reducible refine br_f ?_ ?_);assumption) | ((with_reducible first|apply St.wrL|apply St.wr);assumption;(first|exact i0|exact i1|exact i2|exact i3|exact i4|exact i5|exact i6|exact i7|exact i8|exact i9|exact i10|exact i11|exact i12|exact i13|exact i14|exact i15);(first|exact Nat.le_of_ble_eq_true rfl|rfl);intro g_ S_;simp only [Ptr.add, List.set, splice, List.take, List.drop, List.nil_append, List.append_nil, List.cons_append, List.length_cons, List.length_nil, Nat.zero_add, Nat.add_zero, Nat.reduceAdd, Nat.reduceMul, Nat.mul_one, Int.toNat_zero, Int.toNat_one, Int.reduceToNat] at S_) | ((with_reducible refine ix_of ?_ ?_ ?_);exact of_decide_eq_true rfl;exact of_decide_eq_true rfl) | ((with_reducible first|refine nz_of ?_ ?_|refine nneg_of ?_ ?_);exact of_decide_eq_true rfl) | ((with_reducible refine chk_of ?_ ?_);rfl) | (with_reducible first|apply asI_of|apply asB_of|apply asP_of|apply asSl_of|apply asAggV_of|apply asTupV_of|apply asCons_of|apply asNil_of|apply isNil_n|apply isNil_i|apply nilC_i|apply nilCU_i|apply nilCU_f|apply mthC_i) | ((with_reducible refine And.intro ?_ ?_);rfl) | ((with_reducible apply exAnd);rfl))
  have SP : St h _ ([(rg, .cells (ringC ((t : Nat) : Int) ((g0 : Nat) : Int) false) false), (gb, .cells (flatC pm (base : Int)) false), (pm, .cells (memC bm) false), (bm, .cells (strCells bs) mk)] ++ ([(fb, .cells (FS.cells (F) tm wm) false), (tm, .map (.int .i64) (ikeys .i64 (F : FS).t) bt ct), (wm, .map (.int .i64) (ikeys .i64 (F : FS).w) bw cw), (blk, .cells (blkC rg db fb wq first 4 (owner : Int) (t : Int)) false), (wq, .map (.int .i64) (ikeys .i64 es) eb ec)] ++ R)) h := St.pickR (A := [(fb, .cells (FS.cells (F) tm wm) false), (tm, .map (.int .i64) (ikeys .i64 (F : FS).t) bt ct), (wm, .map (.int .i64) (ikeys .i64 (F : FS).w) bw cw), (blk, .cells (blkC rg db fb wq first 4 (owner : Int) (t : Int)) false), (wq, .map (.int .i64) (ikeys .i64 es) eb ec), (rg, .cells (ringC ((t : Nat) : Int) ((g0 : Nat) : Int) false) false), (gb, .cells (flatC pm (base : Int)) false), (pm, .cells (memC bm) false), (bm, .cells (strCells bs) mk)]) (A' := [(rg, .cells (ringC ((t : Nat) : Int) ((g0 : Nat) : Int) false) false), (gb, .cells (flatC pm (base : Int)) false), (pm, .cells (memC bm) false), (bm, .cells (strCells bs) mk), (fb, .cells (FS.cells (F) tm wm) false), (tm, .map (.int .i64) (ikeys .i64 (F : FS).t) bt ct), (wm, .map (.int .i64) (ikeys .i64 (F : FS).w) bw cw), (blk, .cells (blkC rg db fb wq first 4 (owner : Int) (t : Int)) false), (wq, .map (.int .i64) (ikeys .i64 es) eb ec)]) S_ [5, 6, 7, 8, 0, 1, 2, 3, 4] (by decide) rfl
  have wh : Wid U' h x := w.keeps B.st.keeps hw0
  refine next3 hu wh (SP.notA wh.known (B.off w.known)) hk8 M hb (by omega) hcnt h1 hhead T SP.head (fun cb c rest mk' g1 S1 => ?_)
  have S2 := St.frame S1 SP
  simp only [List.cons_append, List.nil_append] at S2
  clear S1 SP S_
  ((with_reducible apply St.al); assumption; intro k1 g_ S_)
  repeat (first | ((with_reducible first|apply St.rI|apply St.rB|apply St.rP|apply St.rSl|apply St.rV|apply St.rM|apply St.rS|apply St.rN|apply St.ckA);assumption;(first|exact i0|exact i1|exact i2|exact i3|exact i4|exact i5|exact i6|exact i7|exact i8|exact i9|exact i10|exact i11|exact i12|exact i13|exact i14|exact i15);(first|rfl|exact Nat.le_of_ble_eq_true rfl)) | with_reducible refine der_of ?_ | ((with_reducible refine br_t ?_ ?_);rfl) | ((with_reducible refine br_f ?_ ?_);rfl) | ((with_reducible refine br_t ?_ ?_);assumption) | ((with_reducible refine br_f ?_ ?_);assumption) | ((with_reducible first|apply St.wrL|apply St.wr);assumption;(first|exact i0|exact i1|exact i2|exact i3|exact i4|exact i5|exact i6|exact i7|exact i8|exact i9|exact i10|exact i11|exact i12|exact i13|exact i14|exact i15);(first|exact Nat.le_of_ble_eq_true rfl|rfl);intro g_ S_;simp only [Ptr.add, List.set, splice, List.take, List.drop, List.nil_append, List.append_nil, List.cons_append, List.length_cons, List.length_nil, Nat.zero_add, Nat.add_zero, Nat.reduceAdd, Nat.reduceMul, Nat.mul_one, Int.toNat_zero, Int.toNat_one, Int.reduceToNat] at S_) | ((with_reducible refine ix_of ?_ ?_ ?_);exact of_decide_eq_true rfl;exact of_decide_eq_true rfl) | ((with_reducible first|refine nz_of ?_ ?_|refine nneg_of ?_ ?_);exact of_decide_eq_true rfl) | ((with_reducible refine chk_of ?_ ?_);rfl) | (with_reducible first|apply asI_of|apply asB_of|apply asP_of|apply asSl_of|apply asAggV_of|apply asTupV_of|apply asCons_of|apply asNil_of|apply isNil_n|apply isNil_i|apply nilC_i|apply nilCU_i|apply nilCU_f|apply mthC_i) | ((with_reducible refine And.intro ?_ ?_);rfl) | ((with_reducible apply exAnd);rfl))
  unfold zf1.j8
  repeat (first | ((with_reducible first|apply St.rI|apply St.rB|apply St.rP|apply St.rSl|apply St.rV|apply St.rM|apply St.rS|apply St.rN|apply St.ckA);assumption;(first|exact i0|exact i1|exact i2|exact i3|exact i4|exact i5|exact i6|exact i7|exact i8|exact i9|exact i10|exact i11|exact i12|exact i13|exact i14|exact i15);(first|rfl|exact Nat.le_of_ble_eq_true rfl)) | with_reducible refine der_of ?_ | ((with_reducible refine br_t ?_ ?_);rfl) | ((with_reducible refine br_f ?_ ?_);rfl) | ((with_reducible refine br_t ?_ ?_);assumption) | ((with_reducible refine br_f ?_ ?_);assumption) | ((with_reducible first|apply St.wrL|apply St.wr);assumption;(first|exact i0|exact i1|exact i2|exact i3|exact i4|exact i5|exact i6|exact i7|exact i8|exact i9|exact i10|exact i11|exact i12|exact i13|exact i14|exact i15);(first|exact Nat.le_of_ble_eq_true rfl|rfl);intro g_ S_;simp only [Ptr.add, List.set, splice, List.take, List.drop, List.nil_append, List.append_nil, List.cons_append, List.length_cons, List.length_nil, Nat.zero_add, Nat.add_zero, Nat.reduceAdd, Nat.reduceMul, Nat.mul_one, Int.toNat_zero, Int.toNat_one, Int.reduceToNat] at S_) | ((with_reducible refine ix_of ?_ ?_ ?_);exact of_decide_eq_true rfl;exact of_decide_eq_true rfl) | ((with_reducible first|refine nz_of ?_ ?_|refine nneg_of ?_ ?_);exact of_decide_eq_true rfl) | ((with_reducible refine chk_of ?_ ?_);rfl) | (with_reducible first|apply asI_of|apply asB_of|apply asP_of|apply asSl_of|apply asAggV_of|apply asTupV_of|apply asCons_of|apply asNil_of|apply isNil_n|apply isNil_i|apply nilC_i|apply nilCU_i|apply nilCU_f|apply mthC_i) | ((with_reducible refine And.intro ?_ ?_);rfl) | ((with_reducible apply exAnd);rfl))
  have SA : St h _ ([(cb, .cells (partsC 1024 16 (256 * page) 256 (kind == 0) 1100 1 ++ rest) mk'), (blk, .cells (blkC rg db fb wq first 4 (owner : Int) (t : Int)) false), (gb, .cells (flatC pm (base : Int)) false), (pm, .cells (memC bm) false), (bm, .cells (strCells bs) mk), (fb, .cells (FS.cells (F) tm wm) false), (tm, .map (.int .i64) (ikeys .i64 (F : FS).t) bt ct), (wm, .map (.int .i64) (ikeys .i64 (F : FS).w) bw cw)] ++ ([(k1, .cells [.int .i64 0, .sl ⟨some ⟨cb, 0⟩, 3, c⟩] false), (rg, .cells (ringC ((t + 1 : Nat) : Int) ((g0 : Nat) : Int) false) false), (wq, .map (.int .i64) (ikeys .i64 es) eb ec)] ++ R)) g_ := St.pickR (A := [(k1, .cells [.int .i64 0, .sl ⟨some ⟨cb, 0⟩, 3, c⟩] false), (cb, .cells (partsC 1024 16 (256 * page) 256 (kind == 0) 1100 1 ++ rest) mk'), (rg, .cells (ringC ((t + 1 : Nat) : Int) ((g0 : Nat) : Int) false) false), (gb, .cells (flatC pm (base : Int)) false), (pm, .cells (memC bm) false), (bm, .cells (strCells bs) mk), (fb, .cells (FS.cells (F) tm wm) false), (tm, .map (.int .i64) (ikeys .i64 (F : FS).t) bt ct), (wm, .map (.int .i64) (ikeys .i64 (F : FS).w) bw cw), (blk, .cells (blkC rg db fb wq first 4 (owner : Int) (t : Int)) false), (wq, .map (.int .i64) (ikeys .i64 es) eb ec)]) (A' := [(cb, .cells (partsC 1024 16 (256 * page) 256 (kind == 0) 1100 1 ++ rest) mk'), (blk, .cells (blkC rg db fb wq first 4 (owner : Int) (t : Int)) false), (gb, .cells (flatC pm (base : Int)) false), (pm, .cells (memC bm) false), (bm, .cells (strCells bs) mk), (fb, .cells (FS.cells (F) tm wm) false), (tm, .map (.int .i64) (ikeys .i64 (F : FS).t) bt ct), (wm, .map (.int .i64) (ikeys .i64 (F : FS).w) bw cw), (k1, .cells [.int .i64 0, .sl ⟨some ⟨cb, 0⟩, 3, c⟩] false), (rg, .cells (ringC ((t + 1 : Nat) : Int) ((g0 : Nat) : Int) false) false), (wq, .map (.int .i64) (ikeys .i64 es) eb ec)]) S_ [1, 9, 3, 4, 5, 6, 7, 8, 0, 2, 10] (by decide) rfl
  clear S_ S2
  refine ask_of hu M hb a3 hkd hbl (by omega) h128 h129 (by omega) (by omega) (by omega) ft (by omega) fw SA.head (fun g2 S3 => ?_)
  have S4 := St.frame S3 SA
  simp only [List.cons_append, List.nil_append] at S4
  clear S3 SA
  ((with_reducible apply St.al); assumption; intro k2 g_ S_)
  repeat (first | ((with_reducible first|apply St.rI|apply St.rB|apply St.rP|apply St.rSl|apply St.rV|apply St.rM|apply St.rS|apply St.rN|apply St.ckA);assumption;(first|exact i0|exact i1|exact i2|exact i3|exact i4|exact i5|exact i6|exact i7|exact i8|exact i9|exact i10|exact i11|exact i12|exact i13|exact i14|exact i15);(first|rfl|exact Nat.le_of_ble_eq_true rfl)) | with_reducible refine der_of ?_ | ((with_reducible refine br_t ?_ ?_);rfl) | ((with_reducible refine br_f ?_ ?_);rfl) | ((with_reducible refine br_t ?_ ?_);assumption) | ((with_reducible refine br_f ?_ ?_);assumption) | ((with_reducible first|apply St.wrL|apply St.wr);assumption;(first|exact i0|exact i1|exact i2|exact i3|exact i4|exact i5|exact i6|exact i7|exact i8|exact i9|exact i10|exact i11|exact i12|exact i13|exact i14|exact i15);(first|exact Nat.le_of_ble_eq_true rfl|rfl);intro g_ S_;simp only [Ptr.add, List.set, splice, List.take, List.drop, List.nil_append, List.append_nil, List.cons_append, List.length_cons, List.length_nil, Nat.zero_add, Nat.add_zero, Nat.reduceAdd, Nat.reduceMul, Nat.mul_one, Int.toNat_zero, Int.toNat_one, Int.reduceToNat] at S_) | ((with_reducible refine ix_of ?_ ?_ ?_);exact of_decide_eq_true rfl;exact of_decide_eq_true rfl) | ((with_reducible first|refine nz_of ?_ ?_|refine nneg_of ?_ ?_);exact of_decide_eq_true rfl) | ((with_reducible refine chk_of ?_ ?_);rfl) | (with_reducible first|apply asI_of|apply asB_of|apply asP_of|apply asSl_of|apply asAggV_of|apply asTupV_of|apply asCons_of|apply asNil_of|apply isNil_n|apply isNil_i|apply nilC_i|apply nilCU_i|apply nilCU_f|apply mthC_i) | ((with_reducible refine And.intro ?_ ?_);rfl) | ((with_reducible apply exAnd);rfl))
  unfold zf5
  ((with_reducible apply St.al); assumption; intro c1 g_ S_)
  ((with_reducible apply St.al); assumption; intro c2 g_ S_)
  repeat (first | ((with_reducible first|apply St.rI|apply St.rB|apply St.rP|apply St.rSl|apply St.rV|apply St.rM|apply St.rS|apply St.rN|apply St.ckA);assumption;(first|exact i0|exact i1|exact i2|exact i3|exact i4|exact i5|exact i6|exact i7|exact i8|exact i9|exact i10|exact i11|exact i12|exact i13|exact i14|exact i15);(first|rfl|exact Nat.le_of_ble_eq_true rfl)) | with_reducible refine der_of ?_ | ((with_reducible refine br_t ?_ ?_);rfl) | ((with_reducible refine br_f ?_ ?_);rfl) | ((with_reducible refine br_t ?_ ?_);assumption) | ((with_reducible refine br_f ?_ ?_);assumption) | ((with_reducible first|apply St.wrL|apply St.wr);assumption;(first|exact i0|exact i1|exact i2|exact i3|exact i4|exact i5|exact i6|exact i7|exact i8|exact i9|exact i10|exact i11|exact i12|exact i13|exact i14|exact i15);(first|exact Nat.le_of_ble_eq_true rfl|rfl);intro g_ S_;simp only [Ptr.add, List.set, splice, List.take, List.drop, List.nil_append, List.append_nil, List.cons_append, List.length_cons, List.length_nil, Nat.zero_add, Nat.add_zero, Nat.reduceAdd, Nat.reduceMul, Nat.mul_one, Int.toNat_zero, Int.toNat_one, Int.reduceToNat] at S_) | ((with_reducible refine ix_of ?_ ?_ ?_);exact of_decide_eq_true rfl;exact of_decide_eq_true rfl) | ((with_reducible first|refine nz_of ?_ ?_|refine nneg_of ?_ ?_);exact of_decide_eq_true rfl) | ((with_reducible refine chk_of ?_ ?_);rfl) | (with_reducible first|apply asI_of|apply asB_of|apply asP_of|apply asSl_of|apply asAggV_of|apply asTupV_of|apply asCons_of|apply asNil_of|apply isNil_n|apply isNil_i|apply nilC_i|apply nilCU_i|apply nilCU_f|apply mthC_i) | ((with_reducible refine And.intro ?_ ?_);rfl) | ((with_reducible apply exAnd);rfl))
  have SQ : St h _ (A3 fb tm wm F bt ct bw cw ++ ([(c2, .cells [.int .i64 ((owner : Int) * 4294967296 + (t : Int)), .bool (kind == 1), .int .i64 (first + block), .int .i64 ((base : Int) + page)] false), (c1, .cells [.int .i64 0, .sl ⟨some ⟨cb, 0⟩, 3, c⟩] false), (cb, .cells (partsC 1024 16 (256 * page) 256 (kind == 0) 1100 1 ++ rest) mk'), (blk, .cells (blkC rg db fb wq first 4 (owner : Int) (t : Int)) false), (wq, .map (.int .i64) (ikeys .i64 es) eb ec), (rg, .cells (ringC ((t + 1 : Nat) : Int) ((g0 : Nat) : Int) false) false), (gb, .cells (flatC pm (base : Int)) false), (pm, .cells (memC bm) false), (bm, .cells (strCells bs) mk)] ++ R)) g_ := St.pickR (A := [(c2, .cells [.int .i64 ((owner : Int) * 4294967296 + (t : Int)), .bool (kind == 1), .int .i64 (first + block), .int .i64 ((base : Int) + page)] false), (c1, .cells [.int .i64 0, .sl ⟨some ⟨cb, 0⟩, 3, c⟩] false), (k2, .cells [.int .i64 ((owner : Int) * 4294967296 + (t : Int)), .bool (kind == 1), .int .i64 (first + block), .int .i64 ((base : Int) + page)] false), (cb, .cells (partsC 1024 16 (256 * page) 256 (kind == 0) 1100 1 ++ rest) mk'), (blk, .cells (blkC rg db fb wq first 4 (owner : Int) (t : Int)) false), (gb, .cells (flatC pm (base : Int)) false), (pm, .cells (memC bm) false), (bm, .cells (strCells bs) mk), (fb, .cells (FS.cells (F) tm wm) false), (tm, .map (.int .i64) (ikeys .i64 (F : FS).t) bt ct), (wm, .map (.int .i64) (ikeys .i64 (F : FS).w) bw cw), (k1, .cells [.int .i64 0, .sl ⟨some ⟨cb, 0⟩, 3, c⟩] false), (rg, .cells (ringC ((t + 1 : Nat) : Int) ((g0 : Nat) : Int) false) false), (wq, .map (.int .i64) (ikeys .i64 es) eb ec)]) (A' := [(fb, .cells (FS.cells (F) tm wm) false), (tm, .map (.int .i64) (ikeys .i64 (F : FS).t) bt ct), (wm, .map (.int .i64) (ikeys .i64 (F : FS).w) bw cw), (c2, .cells [.int .i64 ((owner : Int) * 4294967296 + (t : Int)), .bool (kind == 1), .int .i64 (first + block), .int .i64 ((base : Int) + page)] false), (c1, .cells [.int .i64 0, .sl ⟨some ⟨cb, 0⟩, 3, c⟩] false), (cb, .cells (partsC 1024 16 (256 * page) 256 (kind == 0) 1100 1 ++ rest) mk'), (blk, .cells (blkC rg db fb wq first 4 (owner : Int) (t : Int)) false), (wq, .map (.int .i64) (ikeys .i64 es) eb ec), (rg, .cells (ringC ((t + 1 : Nat) : Int) ((g0 : Nat) : Int) false) false), (gb, .cells (flatC pm (base : Int)) false), (pm, .cells (memC bm) false), (bm, .cells (strCells bs) mk)]) S_ [8, 9, 10, 0, 1, 3, 4, 13, 12, 5, 6, 7] (by decide) rfl
  clear S_ S4
  refine Hold_of (rep_at (i := 0) (j := 1) (k := 2) SQ a3 rfl rfl rfl (by decide)) (by omega) (by rw [fn]; omega) ft (by omega) fw (fun g3 R3 k3 => ?_)
  obtain ⟨bt', ct', bw', cw', S5, ok'⟩ := three_st SQ R3 k3
  simp only [A3, List.cons_append, List.nil_append] at S5
  clear SQ
  have B5 := B.step S5
  repeat (first | ((with_reducible first|apply St.rI|apply St.rB|apply St.rP|apply St.rSl|apply St.rV|apply St.rM|apply St.rS|apply St.rN|apply St.ckA);assumption;(first|exact i0|exact i1|exact i2|exact i3|exact i4|exact i5|exact i6|exact i7|exact i8|exact i9|exact i10|exact i11|exact i12|exact i13|exact i14|exact i15);(first|rfl|exact Nat.le_of_ble_eq_true rfl)) | with_reducible refine der_of ?_ | ((with_reducible refine br_t ?_ ?_);rfl) | ((with_reducible refine br_f ?_ ?_);rfl) | ((with_reducible refine br_t ?_ ?_);assumption) | ((with_reducible refine br_f ?_ ?_);assumption) | ((with_reducible first|apply St.wrL|apply St.wr);assumption;(first|exact i0|exact i1|exact i2|exact i3|exact i4|exact i5|exact i6|exact i7|exact i8|exact i9|exact i10|exact i11|exact i12|exact i13|exact i14|exact i15);(first|exact Nat.le_of_ble_eq_true rfl|rfl);intro g_ S_;simp only [Ptr.add, List.set, splice, List.take, List.drop, List.nil_append, List.append_nil, List.cons_append, List.length_cons, List.length_nil, Nat.zero_add, Nat.add_zero, Nat.reduceAdd, Nat.reduceMul, Nat.mul_one, Int.toNat_zero, Int.toNat_one, Int.reduceToNat] at S_) | ((with_reducible refine ix_of ?_ ?_ ?_);exact of_decide_eq_true rfl;exact of_decide_eq_true rfl) | ((with_reducible first|refine nz_of ?_ ?_|refine nneg_of ?_ ?_);exact of_decide_eq_true rfl) | ((with_reducible refine chk_of ?_ ?_);rfl) | (with_reducible first|apply asI_of|apply asB_of|apply asP_of|apply asSl_of|apply asAggV_of|apply asTupV_of|apply asCons_of|apply asNil_of|apply isNil_n|apply isNil_i|apply nilC_i|apply nilCU_i|apply nilCU_f|apply mthC_i) | ((with_reducible refine And.intro ?_ ?_);rfl) | ((with_reducible apply exAnd);rfl))
  refine BW.submit u B5 (r := ⟨(owner : Int) * 4294967296 + (t : Int), kind == 1, first + block, (base : Int) + page⟩) hsub (fun y' g4 B6 => ?_)
  clear S5 B5
  have S_ := B6.st.base
  repeat (first | ((with_reducible first|apply St.rI|apply St.rB|apply St.rP|apply St.rSl|apply St.rV|apply St.rM|apply St.rS|apply St.rN|apply St.ckA);assumption;(first|exact i0|exact i1|exact i2|exact i3|exact i4|exact i5|exact i6|exact i7|exact i8|exact i9|exact i10|exact i11|exact i12|exact i13|exact i14|exact i15);(first|rfl|exact Nat.le_of_ble_eq_true rfl)) | with_reducible refine der_of ?_ | ((with_reducible refine br_t ?_ ?_);rfl) | ((with_reducible refine br_f ?_ ?_);rfl) | ((with_reducible refine br_t ?_ ?_);assumption) | ((with_reducible refine br_f ?_ ?_);assumption) | ((with_reducible first|apply St.wrL|apply St.wr);assumption;(first|exact i0|exact i1|exact i2|exact i3|exact i4|exact i5|exact i6|exact i7|exact i8|exact i9|exact i10|exact i11|exact i12|exact i13|exact i14|exact i15);(first|exact Nat.le_of_ble_eq_true rfl|rfl);intro g_ S_;simp only [Ptr.add, List.set, splice, List.take, List.drop, List.nil_append, List.append_nil, List.cons_append, List.length_cons, List.length_nil, Nat.zero_add, Nat.add_zero, Nat.reduceAdd, Nat.reduceMul, Nat.mul_one, Int.toNat_zero, Int.toNat_one, Int.reduceToNat] at S_) | ((with_reducible refine ix_of ?_ ?_ ?_);exact of_decide_eq_true rfl;exact of_decide_eq_true rfl) | ((with_reducible first|refine nz_of ?_ ?_|refine nneg_of ?_ ?_);exact of_decide_eq_true rfl) | ((with_reducible refine chk_of ?_ ?_);rfl) | (with_reducible first|apply asI_of|apply asB_of|apply asP_of|apply asSl_of|apply asAggV_of|apply asTupV_of|apply asCons_of|apply asNil_of|apply isNil_n|apply isNil_i|apply nilC_i|apply nilCU_i|apply nilCU_f|apply mthC_i) | ((with_reducible refine And.intro ?_ ?_);rfl) | ((with_reducible apply exAnd);rfl))
  have M0 : MapAt g4 wq .i64 es := ⟨eb, ec, S_.obj (i := 7) rfl, eq⟩
  refine mapPut_of M0 (fun g5 M5 k5 => ?_)
  rw [iput_new _ hnew] at M5
  obtain ⟨eb', ec', ho5, eq5⟩ := M5
  have S6 := S_.put (i := 7) rfl ho5 k5
  simp only [List.set] at S6
  clear S_
  unfold zf5.j7
  repeat (first | ((with_reducible first|apply St.rI|apply St.rB|apply St.rP|apply St.rSl|apply St.rV|apply St.rM|apply St.rS|apply St.rN|apply St.ckA);assumption;(first|exact i0|exact i1|exact i2|exact i3|exact i4|exact i5|exact i6|exact i7|exact i8|exact i9|exact i10|exact i11|exact i12|exact i13|exact i14|exact i15);(first|rfl|exact Nat.le_of_ble_eq_true rfl)) | with_reducible refine der_of ?_ | ((with_reducible refine br_t ?_ ?_);rfl) | ((with_reducible refine br_f ?_ ?_);rfl) | ((with_reducible refine br_t ?_ ?_);assumption) | ((with_reducible refine br_f ?_ ?_);assumption) | ((with_reducible first|apply St.wrL|apply St.wr);assumption;(first|exact i0|exact i1|exact i2|exact i3|exact i4|exact i5|exact i6|exact i7|exact i8|exact i9|exact i10|exact i11|exact i12|exact i13|exact i14|exact i15);(first|exact Nat.le_of_ble_eq_true rfl|rfl);intro g_ S_;simp only [Ptr.add, List.set, splice, List.take, List.drop, List.nil_append, List.append_nil, List.cons_append, List.length_cons, List.length_nil, Nat.zero_add, Nat.add_zero, Nat.reduceAdd, Nat.reduceMul, Nat.mul_one, Int.toNat_zero, Int.toNat_one, Int.reduceToNat] at S_) | ((with_reducible refine ix_of ?_ ?_ ?_);exact of_decide_eq_true rfl;exact of_decide_eq_true rfl) | ((with_reducible first|refine nz_of ?_ ?_|refine nneg_of ?_ ?_);exact of_decide_eq_true rfl) | ((with_reducible refine chk_of ?_ ?_);rfl) | (with_reducible first|apply asI_of|apply asB_of|apply asP_of|apply asSl_of|apply asAggV_of|apply asTupV_of|apply asCons_of|apply asNil_of|apply isNil_n|apply isNil_i|apply nilC_i|apply nilCU_i|apply nilCU_f|apply mthC_i) | ((with_reducible refine And.intro ?_ ?_);rfl) | ((with_reducible apply exAnd);rfl))
  unfold zf1.j11
  repeat (first | ((with_reducible first|apply St.rI|apply St.rB|apply St.rP|apply St.rSl|apply St.rV|apply St.rM|apply St.rS|apply St.rN|apply St.ckA);assumption;(first|exact i0|exact i1|exact i2|exact i3|exact i4|exact i5|exact i6|exact i7|exact i8|exact i9|exact i10|exact i11|exact i12|exact i13|exact i14|exact i15);(first|rfl|exact Nat.le_of_ble_eq_true rfl)) | with_reducible refine der_of ?_ | ((with_reducible refine br_t ?_ ?_);rfl) | ((with_reducible refine br_f ?_ ?_);rfl) | ((with_reducible refine br_t ?_ ?_);assumption) | ((with_reducible refine br_f ?_ ?_);assumption) | ((with_reducible first|apply St.wrL|apply St.wr);assumption;(first|exact i0|exact i1|exact i2|exact i3|exact i4|exact i5|exact i6|exact i7|exact i8|exact i9|exact i10|exact i11|exact i12|exact i13|exact i14|exact i15);(first|exact Nat.le_of_ble_eq_true rfl|rfl);intro g_ S_;simp only [Ptr.add, List.set, splice, List.take, List.drop, List.nil_append, List.append_nil, List.cons_append, List.length_cons, List.length_nil, Nat.zero_add, Nat.add_zero, Nat.reduceAdd, Nat.reduceMul, Nat.mul_one, Int.toNat_zero, Int.toNat_one, Int.reduceToNat] at S_) | ((with_reducible refine ix_of ?_ ?_ ?_);exact of_decide_eq_true rfl;exact of_decide_eq_true rfl) | ((with_reducible first|refine nz_of ?_ ?_|refine nneg_of ?_ ?_);exact of_decide_eq_true rfl) | ((with_reducible refine chk_of ?_ ?_);rfl) | (with_reducible first|apply asI_of|apply asB_of|apply asP_of|apply asSl_of|apply asAggV_of|apply asTupV_of|apply asCons_of|apply asNil_of|apply isNil_n|apply isNil_i|apply nilC_i|apply nilCU_i|apply nilCU_f|apply mthC_i) | ((with_reducible refine And.intro ?_ ?_);rfl) | ((with_reducible apply exAnd);rfl))
  have ew : IntKind.i64.wrap ((t : Int) + 1) = ((t + 1 : Nat) : Int) := by rw [wrap64] <;> omega
  rw [ew] at S_
  have B7 := (B6.step S_).pickR (A := [(fb, .cells (FS.cells ({ F with t := iput ((base : Int) + page) (.int .i64 (((1 + ws.length : Nat) : Int) + 1)) F.t }) tm wm) false), (tm, .map (.int .i64) (ikeys .i64 ({ F with t := iput ((base : Int) + page) (.int .i64 (((1 + ws.length : Nat) : Int) + 1)) F.t } : FS).t) bt' ct'), (wm, .map (.int .i64) (ikeys .i64 ({ F with t := iput ((base : Int) + page) (.int .i64 (((1 + ws.length : Nat) : Int) + 1)) F.t } : FS).w) bw' cw'), (c2, .cells [.int .i64 ((owner : Int) * 4294967296 + (t : Int)), .bool (kind == 1), .int .i64 (first + block), .int .i64 ((base : Int) + page)] false), (c1, .cells [.int .i64 0, .sl ⟨some ⟨cb, 0⟩, 3, c⟩] false), (cb, .cells (partsC 1024 16 (256 * page) 256 (kind == 0) 1100 1 ++ rest) mk'), (blk, .cells (blkC rg db fb wq first 4 (owner : Int) ((t + 1 : Nat) : Int)) false), (wq, .map (.int .i64) (ikeys .i64 (es ++ [((owner : Int) * 4294967296 + (t : Int), .agg [.int .i64 0, .sl ⟨some ⟨cb, 0⟩, 3, c⟩, .int .i64 ((base : Int) + page), .bool (!(kind == 1))])])) eb' ec'), (rg, .cells (ringC ((t + 1 : Nat) : Int) ((g0 : Nat) : Int) false) false), (gb, .cells (flatC pm (base : Int)) false), (pm, .cells (memC bm) false), (bm, .cells (strCells bs) mk)]) (A' := [(cb, .cells (partsC 1024 16 (256 * page) 256 (kind == 0) 1100 1 ++ rest) mk'), (fb, .cells (FS.cells ({ F with t := iput ((base : Int) + page) (.int .i64 (((1 + ws.length : Nat) : Int) + 1)) F.t }) tm wm) false), (tm, .map (.int .i64) (ikeys .i64 ({ F with t := iput ((base : Int) + page) (.int .i64 (((1 + ws.length : Nat) : Int) + 1)) F.t } : FS).t) bt' ct'), (wm, .map (.int .i64) (ikeys .i64 ({ F with t := iput ((base : Int) + page) (.int .i64 (((1 + ws.length : Nat) : Int) + 1)) F.t } : FS).w) bw' cw'), (blk, .cells (blkC rg db fb wq first 4 (owner : Int) ((t + 1 : Nat) : Int)) false), (wq, .map (.int .i64) (ikeys .i64 (es ++ [((owner : Int) * 4294967296 + (t : Int), .agg [.int .i64 0, .sl ⟨some ⟨cb, 0⟩, 3, c⟩, .int .i64 ((base : Int) + page), .bool (!(kind == 1))])])) eb' ec'), (rg, .cells (ringC ((t + 1 : Nat) : Int) ((g0 : Nat) : Int) false) false), (gb, .cells (flatC pm (base : Int)) false), (pm, .cells (memC bm) false), (bm, .cells (strCells bs) mk)]) [5, 0, 1, 2, 6, 7, 8, 9, 10, 11] (by decide) rfl
  refine hI ⟨t, cb, c, rest, mk'⟩ { d with pend := d.pend ++ [⟨(owner : Int) * 4294967296 + (t : Int), kind == 1, first + block, (base : Int) + page⟩] } _ rfl ⟨{ F with t := iput ((base : Int) + page) (.int .i64 (((1 + ws.length : Nat) : Int) + 1)) F.t }, mk, bt', ct', bw', cw', eb', ec', y', fe.put _, M, ok', ⟨fn, ff, ?_, fw⟩, ?_, hn, ?_, row.snoc hgt.symm, by simp only [List.length_append, List.length_cons, List.length_nil]; omega, ?_⟩
  · show ifind _ (iput _ _ _) = _
    rw [ifind_iput]
    refine (if_pos rfl).trans ?_
    have : ((1 + (ws ++ [(⟨t, cb, c, rest, mk'⟩ : Wt)]).length : Nat) : Int) = ((1 + ws.length : Nat) : Int) + 1 := by simp only [List.length_append, List.length_cons, List.length_nil]; omega
    rw [this]
  · rw [List.map_append, ← hes]; exact eq5
  · show d.pend ++ [_] = _
    rw [hp, List.map_append]; rfl
  · have e : ([(fb, .cells (FS.cells ({ F with t := iput ((base : Int) + page) (.int .i64 (((1 + ws.length : Nat) : Int) + 1)) F.t }) tm wm) false), (tm, .map (.int .i64) (ikeys .i64 ({ F with t := iput ((base : Int) + page) (.int .i64 (((1 + ws.length : Nat) : Int) + 1)) F.t } : FS).t) bt' ct'), (wm, .map (.int .i64) (ikeys .i64 ({ F with t := iput ((base : Int) + page) (.int .i64 (((1 + ws.length : Nat) : Int) + 1)) F.t } : FS).w) bw' cw'), (blk, .cells (blkC rg db fb wq first 4 (owner : Int) ((t + 1 : Nat) : Int)) false), (wq, .map (.int .i64) (ikeys .i64 (es ++ [((owner : Int) * 4294967296 + (t : Int), .agg [.int .i64 0, .sl ⟨some ⟨cb, 0⟩, 3, c⟩, .int .i64 ((base : Int) + page), .bool (!(kind == 1))])])) eb' ec'), (rg, .cells (ringC ((t + 1 : Nat) : Int) ((g0 : Nat) : Int) false) false), (gb, .cells (flatC pm (base : Int)) false), (pm, .cells (memC bm) false), (bm, .cells (strCells bs) mk)] ++ R) ++ [(cb, .cells (partsC 1024 16 (256 * page) 256 (kind == 0) 1100 1 ++ rest) mk')] = Ad.L ⟨fb, tm, wm, blk, rg, db, wq, gb, pm, bm, base, first, owner, page, block, kind⟩ { F with t := iput ((base : Int) + page) (.int .i64 (((1 + ws.length : Nat) : Int) + 1)) F.t } bt' ct' bw' cw' ((t + 1 : Nat) : Int) ((ws ++ [(⟨t, cb, c, rest, mk'⟩ : Wt)]).map (Ad.ent ⟨fb, tm, wm, blk, rg, db, wq, gb, pm, bm, base, first, owner, page, block, kind⟩)) eb' ec' (t + 1) g0 bs mk ++ (X ++ (ws ++ [(⟨t, cb, c, rest, mk'⟩ : Wt)]).map (Ad.cl ⟨fb, tm, wm, blk, rg, db, wq, gb, pm, bm, base, first, owner, page, block, kind⟩)) := by
      rw [hR, hes]
      simp only [List.map_append, List.append_assoc]
      rfl
    rw [← e]
    exact B7.perm (List.perm_append_singleton _ _).symm

/-- Nothing more is offered. -/
theorem idle2 (hu : GU U U') (w : Wid U' h0 x) (hk8 : knownB x 8 = true) {p : Ad} (ok : p.Ok) {X : List (Nat × HO)} {m : Nat → Int} {t g0 : Nat} {ws ps : List Wt} {bs : List UInt8} {d : Disk.Dsk} {F0 : FS} (ht0 : t ≤ 900) (hws : ws.length < 8) (hcnt : m 32 = (t : Int))
    (Wl : Wld2 p h0 X m t g0 ws ps bs d F0 h) {I : Option Ptr → V → Int → Heap → Prop} {n : Int} {Q : Int → Int → Heap → Prop}
    (hq : ∀ h', Wld2 p h0 X m t g0 ws ps bs d F0 h' → Q n 0 h') :
    zf1.b4 U I (some ⟨p.blk, 0⟩) (.iface 4 (.ptr (some ⟨p.gb, 0⟩))) n Q h := by
  have hw0 : ¬ none_ (U'.glob 1) := fun f => f
  obtain ⟨F, mk, bt, ct, bw, cw, eb, ec, y, fe, M, a3, fr, eq, hn, hp, row, hgt, B⟩ := Wl
  obtain ⟨es, hes⟩ : ∃ es, es = ws.map p.ent := ⟨_, rfl⟩
  obtain ⟨R, hR⟩ : ∃ R, R = X ++ ws.map p.cl := ⟨_, rfl⟩
  rw [← hes] at B
  rw [← hR] at B
  have hel : es.length = ws.length := by rw [hes]; simp
  obtain ⟨fb, tm, wm, blk, rg, db, wq, gb, pm, bm, base, first, owner, page, block, kind⟩ := p
  obtain ⟨hb, hb4, hf, hown, hpg, hbl, hkd⟩ := ok
  simp only [Ad.L, List.cons_append, List.nil_append] at M B hb ⊢
  unfold zf1.b4
  have S_ := B.st.base
  repeat (first | ((with_reducible first|apply St.rI|apply St.rB|apply St.rP|apply St.rSl|apply St.rV|apply St.rM|apply St.rS|apply St.rN|apply St.ckA);assumption;(first|exact i0|exact i1|exact i2|exact i3|exact i4|exact i5|exact i6|exact i7|exact i8|exact i9|exact i10|exact i11|exact i12|exact i13|exact i14|exact i15);(first|rfl|exact Nat.le_of_ble_eq_true rfl)) | with_reducible refine der_of ?_ | ((with_reducible refine br_t ?_ ?_);rfl) | ((with_reducible refine br_f ?_ ?_);rfl) | ((with_reducible refine br_t ?_ ?_);assumption) | ((with_reducible refine br_f ?_ ?_);assumption) | ((with_reducible first|apply St.wrL|apply St.wr);assumption;(first|exact i0|exact i1|exact i2|exact i3|exact i4|exact i5|exact i6|exact i7|exact i8|exact i9|exact i10|exact i11|exact i12|exact i13|exact i14|exact i15);(first|exact Nat.le_of_ble_eq_true rfl|rfl);intro g_ S_;simp only [Ptr.add, List.set, splice, List.take, List.drop, List.nil_append, List.append_nil, List.cons_append, List.length_cons, List.length_nil, Nat.zero_add, Nat.add_zero, Nat.reduceAdd, Nat.reduceMul, Nat.mul_one, Int.toNat_zero, Int.toNat_one, Int.reduceToNat] at S_) | ((with_reducible refine ix_of ?_ ?_ ?_);exact of_decide_eq_true rfl;exact of_decide_eq_true rfl) | ((with_reducible first|refine nz_of ?_ ?_|refine nneg_of ?_ ?_);exact of_decide_eq_true rfl) | ((with_reducible refine chk_of ?_ ?_);rfl) | (with_reducible first|apply asI_of|apply asB_of|apply asP_of|apply asSl_of|apply asAggV_of|apply asTupV_of|apply asCons_of|apply asNil_of|apply isNil_n|apply isNil_i|apply nilC_i|apply nilCU_i|apply nilCU_f|apply mthC_i) | ((with_reducible refine And.intro ?_ ?_);rfl) | ((with_reducible apply exAnd);rfl))
  unfold mapLen
  refine ⟨_, _, _, _, S_.obj (i := 4) rfl, ?_⟩
  rw [ikeys_length, hel]
  refine br_t (decide_eq_true (by omega)) ?_
  repeat (first | ((with_reducible first|apply St.rI|apply St.rB|apply St.rP|apply St.rSl|apply St.rV|apply St.rM|apply St.rS|apply St.rN|apply St.ckA);assumption;(first|exact i0|exact i1|exact i2|exact i3|exact i4|exact i5|exact i6|exact i7|exact i8|exact i9|exact i10|exact i11|exact i12|exact i13|exact i14|exact i15);(first|rfl|exact Nat.le_of_ble_eq_true rfl)) | with_reducible refine der_of ?_ | ((with_reducible refine br_t ?_ ?_);rfl) | ((with_reducible refine br_f ?_ ?_);rfl) | ((with_reducible refine br_t ?_ ?_);assumption) | ((with_reducible refine br_f ?_ ?_);assumption) | ((with_reducible first|apply St.wrL|apply St.wr);assumption;(first|exact i0|exact i1|exact i2|exact i3|exact i4|exact i5|exact i6|exact i7|exact i8|exact i9|exact i10|exact i11|exact i12|exact i13|exact i14|exact i15);(first|exact Nat.le_of_ble_eq_true rfl|rfl);intro g_ S_;simp only [Ptr.add, List.set, splice, List.take, List.drop, List.nil_append, List.append_nil, List.cons_append, List.length_cons, List.length_nil, Nat.zero_add, Nat.add_zero, Nat.reduceAdd, Nat.reduceMul, Nat.mul_one, Int.toNat_zero, Int.toNat_one, Int.reduceToNat] at S_) | ((with_reducible refine ix_of ?_ ?_ ?_);exact of_decide_eq_true rfl;exact of_decide_eq_true rfl) | ((with_reducible first|refine nz_of ?_ ?_|refine nneg_of ?_ ?_);exact of_decide_eq_true rfl) | ((with_reducible refine chk_of ?_ ?_);rfl) | (with_reducible first|apply asI_of|apply asB_of|apply asP_of|apply asSl_of|apply asAggV_of|apply asTupV_of|apply asCons_of|apply asNil_of|apply isNil_n|apply isNil_i|apply nilC_i|apply nilCU_i|apply nilCU_f|apply mthC_i) | ((with_reducible refine And.intro ?_ ?_);rfl) | ((with_reducible apply exAnd);rfl))
  have SP : St h _ ([(rg, .cells (ringC ((t : Nat) : Int) ((g0 : Nat) : Int) false) false), (gb, .cells (flatC pm (base : Int)) false), (pm, .cells (memC bm) false), (bm, .cells (strCells bs) mk)] ++ ([(fb, .cells (FS.cells (F) tm wm) false), (tm, .map (.int .i64) (ikeys .i64 (F : FS).t) bt ct), (wm, .map (.int .i64) (ikeys .i64 (F : FS).w) bw cw), (blk, .cells (blkC rg db fb wq first 4 (owner : Int) (t : Int)) false), (wq, .map (.int .i64) (ikeys .i64 es) eb ec)] ++ R)) h := St.pickR (A := [(fb, .cells (FS.cells (F) tm wm) false), (tm, .map (.int .i64) (ikeys .i64 (F : FS).t) bt ct), (wm, .map (.int .i64) (ikeys .i64 (F : FS).w) bw cw), (blk, .cells (blkC rg db fb wq first 4 (owner : Int) (t : Int)) false), (wq, .map (.int .i64) (ikeys .i64 es) eb ec), (rg, .cells (ringC ((t : Nat) : Int) ((g0 : Nat) : Int) false) false), (gb, .cells (flatC pm (base : Int)) false), (pm, .cells (memC bm) false), (bm, .cells (strCells bs) mk)]) (A' := [(rg, .cells (ringC ((t : Nat) : Int) ((g0 : Nat) : Int) false) false), (gb, .cells (flatC pm (base : Int)) false), (pm, .cells (memC bm) false), (bm, .cells (strCells bs) mk), (fb, .cells (FS.cells (F) tm wm) false), (tm, .map (.int .i64) (ikeys .i64 (F : FS).t) bt ct), (wm, .map (.int .i64) (ikeys .i64 (F : FS).w) bw cw), (blk, .cells (blkC rg db fb wq first 4 (owner : Int) (t : Int)) false), (wq, .map (.int .i64) (ikeys .i64 es) eb ec)]) S_ [5, 6, 7, 8, 0, 1, 2, 3, 4] (by decide) rfl
  have wh : Wid U' h x := w.keeps B.st.keeps hw0
  refine next0 hu wh (SP.notA wh.known (B.off w.known)) hk8 M hb (by omega) hcnt SP.head (fun g1 S1 => ?_)
  have S2 := St.frame S1 SP
  simp only [List.cons_append, List.nil_append] at S2
  clear S1 SP S_
  ((with_reducible apply St.al); assumption; intro k1 g_ S_)
  repeat (first | ((with_reducible first|apply St.rI|apply St.rB|apply St.rP|apply St.rSl|apply St.rV|apply St.rM|apply St.rS|apply St.rN|apply St.ckA);assumption;(first|exact i0|exact i1|exact i2|exact i3|exact i4|exact i5|exact i6|exact i7|exact i8|exact i9|exact i10|exact i11|exact i12|exact i13|exact i14|exact i15);(first|rfl|exact Nat.le_of_ble_eq_true rfl)) | with_reducible refine der_of ?_ | ((with_reducible refine br_t ?_ ?_);rfl) | ((with_reducible refine br_f ?_ ?_);rfl) | ((with_reducible refine br_t ?_ ?_);assumption) | ((with_reducible refine br_f ?_ ?_);assumption) | ((with_reducible first|apply St.wrL|apply St.wr);assumption;(first|exact i0|exact i1|exact i2|exact i3|exact i4|exact i5|exact i6|exact i7|exact i8|exact i9|exact i10|exact i11|exact i12|exact i13|exact i14|exact i15);(first|exact Nat.le_of_ble_eq_true rfl|rfl);intro g_ S_;simp only [Ptr.add, List.set, splice, List.take, List.drop, List.nil_append, List.append_nil, List.cons_append, List.length_cons, List.length_nil, Nat.zero_add, Nat.add_zero, Nat.reduceAdd, Nat.reduceMul, Nat.mul_one, Int.toNat_zero, Int.toNat_one, Int.reduceToNat] at S_) | ((with_reducible refine ix_of ?_ ?_ ?_);exact of_decide_eq_true rfl;exact of_decide_eq_true rfl) | ((with_reducible first|refine nz_of ?_ ?_|refine nneg_of ?_ ?_);exact of_decide_eq_true rfl) | ((with_reducible refine chk_of ?_ ?_);rfl) | (with_reducible first|apply asI_of|apply asB_of|apply asP_of|apply asSl_of|apply asAggV_of|apply asTupV_of|apply asCons_of|apply asNil_of|apply isNil_n|apply isNil_i|apply nilC_i|apply nilCU_i|apply nilCU_f|apply mthC_i) | ((with_reducible refine And.intro ?_ ?_);rfl) | ((with_reducible apply exAnd);rfl))
  refine hq _ ⟨F, mk, bt, ct, bw, cw, eb, ec, y, fe, M, a3, fr, eq, hn, hp, row, hgt, ?_⟩
  rw [← hes, ← hR]
  exact (B.step S_).pickR (A := [(k1, .cells [.int .i64 0, .sl ⟨none, 0, 0⟩] false), (rg, .cells (ringC ((t : Nat) : Int) ((g0 : Nat) : Int) false) false), (gb, .cells (flatC pm (base : Int)) false), (pm, .cells (memC bm) false), (bm, .cells (strCells bs) mk), (fb, .cells (FS.cells (F) tm wm) false), (tm, .map (.int .i64) (ikeys .i64 (F : FS).t) bt ct), (wm, .map (.int .i64) (ikeys .i64 (F : FS).w) bw cw), (blk, .cells (blkC rg db fb wq first 4 (owner : Int) (t : Int)) false), (wq, .map (.int .i64) (ikeys .i64 es) eb ec)]) (A' := [(fb, .cells (FS.cells (F) tm wm) false), (tm, .map (.int .i64) (ikeys .i64 (F : FS).t) bt ct), (wm, .map (.int .i64) (ikeys .i64 (F : FS).w) bw cw), (blk, .cells (blkC rg db fb wq first 4 (owner : Int) (t : Int)) false), (wq, .map (.int .i64) (ikeys .i64 es) eb ec), (rg, .cells (ringC ((t : Nat) : Int) ((g0 : Nat) : Int) false) false), (gb, .cells (flatC pm (base : Int)) false), (pm, .cells (memC bm) false), (bm, .cells (strCells bs) mk)]) [5, 6, 7, 8, 9, 1, 2, 3, 4] (by decide) rfl

/-- One request is asked of the disk. -/
theorem kick2 (hu : GU U U') (u : Disk.DU U) (w : Wid U' h0 x) (hk8 : knownB x 8 = true) {p : Ad} (ok : p.Ok) {X : List (Nat × HO)} {m : Nat → Int} {t : Nat} {bs : List UInt8} {d : Disk.Dsk} {F0 : FS}
    (h128 : m 128 = p.kind) (h129 : m 129 = p.block) (ht0 : t ≤ 800) (hcnt : m 32 = ((t + 1 : Nat) : Int)) (hhead : m (33 + t % 8) = 0) (T : Three m 1024 16 (256 * p.page) 256 (p.kind == 0) 1100 1)
    (Wl : Wld2 p h0 X m t t [] [] bs d F0 h) {Q : Int → Int → Heap → Prop}
    (hq : ∀ q d' h', d'.blk = d.blk → Wld2 p h0 X m (t + 1) t [q] [q] bs d' F0 h' → Q 0 0 h') :
    zf1 U (some ⟨p.blk, 0⟩) (.iface 4 (.ptr (some ⟨p.gb, 0⟩))) Q h := by
  have Wl0 := Wl
  obtain ⟨F, mk, bt, ct, bw, cw, eb, ec, y, fe, M, a3, fr, eq, hn, hp, row, hgt, B⟩ := Wl
  simp only [Ad.L, List.cons_append, List.nil_append] at B
  have S_ := B.st.base
  unfold zf1 zf4
  repeat (first | ((with_reducible first|apply St.rI|apply St.rB|apply St.rP|apply St.rSl|apply St.rV|apply St.rM|apply St.rS|apply St.rN|apply St.ckA);assumption;(first|exact i0|exact i1|exact i2|exact i3|exact i4|exact i5|exact i6|exact i7|exact i8|exact i9|exact i10|exact i11|exact i12|exact i13|exact i14|exact i15);(first|rfl|exact Nat.le_of_ble_eq_true rfl)) | with_reducible refine der_of ?_ | ((with_reducible refine br_t ?_ ?_);rfl) | ((with_reducible refine br_f ?_ ?_);rfl) | ((with_reducible refine br_t ?_ ?_);assumption) | ((with_reducible refine br_f ?_ ?_);assumption) | ((with_reducible first|apply St.wrL|apply St.wr);assumption;(first|exact i0|exact i1|exact i2|exact i3|exact i4|exact i5|exact i6|exact i7|exact i8|exact i9|exact i10|exact i11|exact i12|exact i13|exact i14|exact i15);(first|exact Nat.le_of_ble_eq_true rfl|rfl);intro g_ S_;simp only [Ptr.add, List.set, splice, List.take, List.drop, List.nil_append, List.append_nil, List.cons_append, List.length_cons, List.length_nil, Nat.zero_add, Nat.add_zero, Nat.reduceAdd, Nat.reduceMul, Nat.mul_one, Int.toNat_zero, Int.toNat_one, Int.reduceToNat] at S_) | ((with_reducible refine ix_of ?_ ?_ ?_);exact of_decide_eq_true rfl;exact of_decide_eq_true rfl) | ((with_reducible first|refine nz_of ?_ ?_|refine nneg_of ?_ ?_);exact of_decide_eq_true rfl) | ((with_reducible refine chk_of ?_ ?_);rfl) | (with_reducible first|apply asI_of|apply asB_of|apply asP_of|apply asSl_of|apply asAggV_of|apply asTupV_of|apply asCons_of|apply asNil_of|apply isNil_n|apply isNil_i|apply nilC_i|apply nilCU_i|apply nilCU_f|apply mthC_i) | ((with_reducible refine And.intro ?_ ?_);rfl) | ((with_reducible apply exAnd);rfl))
  unfold zf1.j4
  intro I HI
  refine HI _ _ _ _ (round2 hu u w hk8 ok h128 h129 (by omega) (by decide) hcnt (by omega) hhead T Wl0 (fun q d' h' hd Wl' => ?_))
  refine HI _ _ _ _ (idle2 hu w hk8 ok (by omega) (by simp) hcnt Wl' (fun h'' Wl'' => hq q d' h'' hd Wl''))

theorem done2 (hu : GU U U') (w : Wid U' h0 x) (hk8 : knownB x 8 = true) {p : Ad} (ok : p.Ok) {X : List (Nat × HO)} {m : Nat → Int} {t g0 : Nat} {q : Wt} {ws ps : List Wt} {bs : List UInt8} {d : Disk.Dsk} {F0 : FS} (ht0 : t ≤ 900) (hws : ws.length < 8)
    (Wl : Wld2 p h0 X m t g0 (q :: ws) ps bs d F0 h) {Q : Bool → Int → Heap → Prop}
    (hq : ∀ m' bs' h', (∀ j, j < 41 → m' j = m j) → (∀ j, 60 ≤ j → j < 512 → j ≠ 137 → m' j = m j) → m' 41 = ((g0 + 1 : Nat) : Int) → m' (43 + 2 * (g0 % 8)) = (if p.kind = 1 then 1 else 257) → byteAt bs' p.base 1100 = 0 → Wld2 p h0 X m' t (g0 + 1) ws ps bs' d F0 h' → Q true 0 h') {a3 : Int} (ea : a3 = (p.req q).id) :
    zf0 U (some ⟨p.blk, 0⟩) (.iface 4 (.ptr (some ⟨p.gb, 0⟩))) a3 Q h := by
  subst ea
  have hw0 : ¬ none_ (U'.glob 1) := fun f => f
  obtain ⟨F, mk, bt, ct, bw, cw, eb, ec, y, fe, M, a3, fr, eq, hn, hp, row, hgt, B⟩ := Wl
  obtain ⟨n, cb, c, rest, mk'⟩ := q
  obtain ⟨es, hes⟩ : ∃ es, es = ws.map p.ent := ⟨_, rfl⟩
  obtain ⟨R, hR⟩ : ∃ R, R = X ++ ws.map p.cl := ⟨_, rfl⟩
  obtain ⟨fb, tm, wm, blk, rg, db, wq, gb, pm, bm, base, first, owner, page, block, kind⟩ := p
  obtain ⟨hb, hb4, hf, hown, hpg, hbl, hkd⟩ := ok
  obtain ⟨fn, ff, ft, fw⟩ := fr
  simp only [List.length_cons] at hgt
  have eC : Ad.L (⟨fb, tm, wm, blk, rg, db, wq, gb, pm, bm, base, first, owner, page, block, kind⟩ : Ad) F bt ct bw cw (t : Int) ((⟨n, cb, c, rest, mk'⟩ :: ws).map (⟨fb, tm, wm, blk, rg, db, wq, gb, pm, bm, base, first, owner, page, block, kind⟩ : Ad).ent) eb ec t g0 bs mk ++ (X ++ (⟨n, cb, c, rest, mk'⟩ :: ws).map (⟨fb, tm, wm, blk, rg, db, wq, gb, pm, bm, base, first, owner, page, block, kind⟩ : Ad).cl) = ([(fb, .cells (FS.cells (F) tm wm) false), (tm, .map (.int .i64) (ikeys .i64 (F : FS).t) bt ct), (wm, .map (.int .i64) (ikeys .i64 (F : FS).w) bw cw), (blk, .cells (blkC rg db fb wq first 4 (owner : Int) (t : Int)) false), (wq, .map (.int .i64) (ikeys .i64 (((owner : Int) * 4294967296 + (n : Int), .agg [.int .i64 0, .sl ⟨some ⟨cb, 0⟩, 3, c⟩, .int .i64 ((base : Int) + page), .bool (!(kind == 1))]) :: es)) eb ec), (rg, .cells (ringC ((t : Nat) : Int) ((g0 : Nat) : Int) false) false), (gb, .cells (flatC pm (base : Int)) false), (pm, .cells (memC bm) false), (bm, .cells (strCells bs) mk)] ++ X) ++ (cb, .cells (partsC 1024 16 (256 * page) 256 (kind == 0) 1100 1 ++ rest) mk') :: ws.map (⟨fb, tm, wm, blk, rg, db, wq, gb, pm, bm, base, first, owner, page, block, kind⟩ : Ad).cl := by
    rw [hes]; simp only [List.map_cons, List.append_assoc]; rfl
  rw [eC] at B
  have B := B.perm (List.perm_middle.trans (List.Perm.cons _ (by rw [List.append_assoc, ← hR])))
  clear eC
  simp only [Ad.fr, List.map_cons, ← hes, List.length_cons, List.cons_append, List.nil_append] at M fn ff ft fw eq B hb hb4 hf hown hpg hbl hkd ⊢
  have e1 : (⟨fb, tm, wm, blk, rg, db, wq, gb, pm, bm, base, first, owner, page, block, kind⟩ : Ad).req ⟨n, cb, c, rest, mk'⟩ = (⟨(owner : Int) * 4294967296 + (n : Int), kind == 1, first + block, (base : Int) + page⟩ : Disk.Req) := rfl
  rw [e1]
  unfold zf0 zf4
  have S_ := B.st.base
  repeat (first | ((with_reducible first|apply St.rI|apply St.rB|apply St.rP|apply St.rSl|apply St.rV|apply St.rM|apply St.rS|apply St.rN|apply St.ckA);assumption;(first|exact i0|exact i1|exact i2|exact i3|exact i4|exact i5|exact i6|exact i7|exact i8|exact i9|exact i10|exact i11|exact i12|exact i13|exact i14|exact i15);(first|rfl|exact Nat.le_of_ble_eq_true rfl)) | with_reducible refine der_of ?_ | ((with_reducible refine br_t ?_ ?_);rfl) | ((with_reducible refine br_f ?_ ?_);rfl) | ((with_reducible refine br_t ?_ ?_);assumption) | ((with_reducible refine br_f ?_ ?_);assumption) | ((with_reducible first|apply St.wrL|apply St.wr);assumption;(first|exact i0|exact i1|exact i2|exact i3|exact i4|exact i5|exact i6|exact i7|exact i8|exact i9|exact i10|exact i11|exact i12|exact i13|exact i14|exact i15);(first|exact Nat.le_of_ble_eq_true rfl|rfl);intro g_ S_;simp only [Ptr.add, List.set, splice, List.take, List.drop, List.nil_append, List.append_nil, List.cons_append, List.length_cons, List.length_nil, Nat.zero_add, Nat.add_zero, Nat.reduceAdd, Nat.reduceMul, Nat.mul_one, Int.toNat_zero, Int.toNat_one, Int.reduceToNat] at S_) | ((with_reducible refine ix_of ?_ ?_ ?_);exact of_decide_eq_true rfl;exact of_decide_eq_true rfl) | ((with_reducible first|refine nz_of ?_ ?_|refine nneg_of ?_ ?_);exact of_decide_eq_true rfl) | ((with_reducible refine chk_of ?_ ?_);rfl) | (with_reducible first|apply asI_of|apply asB_of|apply asP_of|apply asSl_of|apply asAggV_of|apply asTupV_of|apply asCons_of|apply asNil_of|apply isNil_n|apply isNil_i|apply nilC_i|apply nilCU_i|apply nilCU_f|apply mthC_i) | ((with_reducible refine And.intro ?_ ?_);rfl) | ((with_reducible apply exAnd);rfl))
  have M0 : MapAt h wq .i64 (((owner : Int) * 4294967296 + (n : Int), .agg [.int .i64 0, .sl ⟨some ⟨cb, 0⟩, 3, c⟩, .int .i64 ((base : Int) + page), .bool (!(kind == 1))]) :: es) := ⟨eb, ec, S_.obj (i := 5) rfl, eq⟩
  refine mapGet_of M0 ?_
  rw [show ifind ((owner : Int) * 4294967296 + (n : Int)) (((owner : Int) * 4294967296 + (n : Int), .agg [.int .i64 0, .sl ⟨some ⟨cb, 0⟩, 3, c⟩, .int .i64 ((base : Int) + page), .bool (!(kind == 1))]) :: es) = some _ from if_pos rfl]
  simp only [Option.getD_some]
  repeat (first | ((with_reducible first|apply St.rI|apply St.rB|apply St.rP|apply St.rSl|apply St.rV|apply St.rM|apply St.rS|apply St.rN|apply St.ckA);assumption;(first|exact i0|exact i1|exact i2|exact i3|exact i4|exact i5|exact i6|exact i7|exact i8|exact i9|exact i10|exact i11|exact i12|exact i13|exact i14|exact i15);(first|rfl|exact Nat.le_of_ble_eq_true rfl)) | with_reducible refine der_of ?_ | ((with_reducible refine br_t ?_ ?_);rfl) | ((with_reducible refine br_f ?_ ?_);rfl) | ((with_reducible refine br_t ?_ ?_);assumption) | ((with_reducible refine br_f ?_ ?_);assumption) | ((with_reducible first|apply St.wrL|apply St.wr);assumption;(first|exact i0|exact i1|exact i2|exact i3|exact i4|exact i5|exact i6|exact i7|exact i8|exact i9|exact i10|exact i11|exact i12|exact i13|exact i14|exact i15);(first|exact Nat.le_of_ble_eq_true rfl|rfl);intro g_ S_;simp only [Ptr.add, List.set, splice, List.take, List.drop, List.nil_append, List.append_nil, List.cons_append, List.length_cons, List.length_nil, Nat.zero_add, Nat.add_zero, Nat.reduceAdd, Nat.reduceMul, Nat.mul_one, Int.toNat_zero, Int.toNat_one, Int.reduceToNat] at S_) | ((with_reducible refine ix_of ?_ ?_ ?_);exact of_decide_eq_true rfl;exact of_decide_eq_true rfl) | ((with_reducible first|refine nz_of ?_ ?_|refine nneg_of ?_ ?_);exact of_decide_eq_true rfl) | ((with_reducible refine chk_of ?_ ?_);rfl) | (with_reducible first|apply asI_of|apply asB_of|apply asP_of|apply asSl_of|apply asAggV_of|apply asTupV_of|apply asCons_of|apply asNil_of|apply isNil_n|apply isNil_i|apply nilC_i|apply nilCU_i|apply nilCU_f|apply mthC_i) | ((with_reducible refine And.intro ?_ ?_);rfl) | ((with_reducible apply exAnd);rfl))
  ((with_reducible apply St.al); assumption; intro k1 g_ S_)
  repeat (first | ((with_reducible first|apply St.rI|apply St.rB|apply St.rP|apply St.rSl|apply St.rV|apply St.rM|apply St.rS|apply St.rN|apply St.ckA);assumption;(first|exact i0|exact i1|exact i2|exact i3|exact i4|exact i5|exact i6|exact i7|exact i8|exact i9|exact i10|exact i11|exact i12|exact i13|exact i14|exact i15);(first|rfl|exact Nat.le_of_ble_eq_true rfl)) | with_reducible refine der_of ?_ | ((with_reducible refine br_t ?_ ?_);rfl) | ((with_reducible refine br_f ?_ ?_);rfl) | ((with_reducible refine br_t ?_ ?_);assumption) | ((with_reducible refine br_f ?_ ?_);assumption) | ((with_reducible first|apply St.wrL|apply St.wr);assumption;(first|exact i0|exact i1|exact i2|exact i3|exact i4|exact i5|exact i6|exact i7|exact i8|exact i9|exact i10|exact i11|exact i12|exact i13|exact i14|exact i15);(first|exact Nat.le_of_ble_eq_true rfl|rfl);intro g_ S_;simp only [Ptr.add, List.set, splice, List.take, List.drop, List.nil_append, List.append_nil, List.cons_append, List.length_cons, List.length_nil, Nat.zero_add, Nat.add_zero, Nat.reduceAdd, Nat.reduceMul, Nat.mul_one, Int.toNat_zero, Int.toNat_one, Int.reduceToNat] at S_) | ((with_reducible refine ix_of ?_ ?_ ?_);exact of_decide_eq_true rfl;exact of_decide_eq_true rfl) | ((with_reducible first|refine nz_of ?_ ?_|refine nneg_of ?_ ?_);exact of_decide_eq_true rfl) | ((with_reducible refine chk_of ?_ ?_);rfl) | (with_reducible first|apply asI_of|apply asB_of|apply asP_of|apply asSl_of|apply asAggV_of|apply asTupV_of|apply asCons_of|apply asNil_of|apply isNil_n|apply isNil_i|apply nilC_i|apply nilCU_i|apply nilCU_f|apply mthC_i) | ((with_reducible refine And.intro ?_ ?_);rfl) | ((with_reducible apply exAnd);rfl))
  have M1 : MapAt g_ wq .i64 (((owner : Int) * 4294967296 + (n : Int), .agg [.int .i64 0, .sl ⟨some ⟨cb, 0⟩, 3, c⟩, .int .i64 ((base : Int) + page), .bool (!(kind == 1))]) :: es) := ⟨eb, ec, S_.obj (i := 6) rfl, eq⟩
  refine mapDel_of M1 (fun g1 M2 k2 => ?_)
  rw [show idel ((owner : Int) * 4294967296 + (n : Int)) (((owner : Int) * 4294967296 + (n : Int), .agg [.int .i64 0, .sl ⟨some ⟨cb, 0⟩, 3, c⟩, .int .i64 ((base : Int) + page), .bool (!(kind == 1))]) :: es) = es from if_pos rfl] at M2
  obtain ⟨eb', ec', ho2, eq2⟩ := M2
  have S1 := S_.put (i := 6) rfl ho2 k2
  simp only [List.set] at S1
  clear S_ M0 M1
  unfold zf0.j7
  repeat (first | ((with_reducible first|apply St.rI|apply St.rB|apply St.rP|apply St.rSl|apply St.rV|apply St.rM|apply St.rS|apply St.rN|apply St.ckA);assumption;(first|exact i0|exact i1|exact i2|exact i3|exact i4|exact i5|exact i6|exact i7|exact i8|exact i9|exact i10|exact i11|exact i12|exact i13|exact i14|exact i15);(first|rfl|exact Nat.le_of_ble_eq_true rfl)) | with_reducible refine der_of ?_ | ((with_reducible refine br_t ?_ ?_);rfl) | ((with_reducible refine br_f ?_ ?_);rfl) | ((with_reducible refine br_t ?_ ?_);assumption) | ((with_reducible refine br_f ?_ ?_);assumption) | ((with_reducible first|apply St.wrL|apply St.wr);assumption;(first|exact i0|exact i1|exact i2|exact i3|exact i4|exact i5|exact i6|exact i7|exact i8|exact i9|exact i10|exact i11|exact i12|exact i13|exact i14|exact i15);(first|exact Nat.le_of_ble_eq_true rfl|rfl);intro g_ S_;simp only [Ptr.add, List.set, splice, List.take, List.drop, List.nil_append, List.append_nil, List.cons_append, List.length_cons, List.length_nil, Nat.zero_add, Nat.add_zero, Nat.reduceAdd, Nat.reduceMul, Nat.mul_one, Int.toNat_zero, Int.toNat_one, Int.reduceToNat] at S_) | ((with_reducible refine ix_of ?_ ?_ ?_);exact of_decide_eq_true rfl;exact of_decide_eq_true rfl) | ((with_reducible first|refine nz_of ?_ ?_|refine nneg_of ?_ ?_);exact of_decide_eq_true rfl) | ((with_reducible refine chk_of ?_ ?_);rfl) | (with_reducible first|apply asI_of|apply asB_of|apply asP_of|apply asSl_of|apply asAggV_of|apply asTupV_of|apply asCons_of|apply asNil_of|apply isNil_n|apply isNil_i|apply nilC_i|apply nilCU_i|apply nilCU_f|apply mthC_i) | ((with_reducible refine And.intro ?_ ?_);rfl) | ((with_reducible apply exAnd);rfl))
  have SQ : St h _ (A3 fb tm wm F bt ct bw cw ++ ([(k1, .cells [.int .i64 0, .sl ⟨some ⟨cb, 0⟩, 3, c⟩, .int .i64 ((base : Int) + page), .bool (!(kind == 1))] false), (cb, .cells (partsC 1024 16 (256 * page) 256 (kind == 0) 1100 1 ++ rest) mk'), (blk, .cells (blkC rg db fb wq first 4 (owner : Int) (t : Int)) false), (wq, .map (.int .i64) (ikeys .i64 es) eb' ec'), (rg, .cells (ringC ((t : Nat) : Int) ((g0 : Nat) : Int) false) false), (gb, .cells (flatC pm (base : Int)) false), (pm, .cells (memC bm) false), (bm, .cells (strCells bs) mk)] ++ R)) g1 := St.pickR (A := [(k1, .cells [.int .i64 0, .sl ⟨some ⟨cb, 0⟩, 3, c⟩, .int .i64 ((base : Int) + page), .bool (!(kind == 1))] false), (cb, .cells (partsC 1024 16 (256 * page) 256 (kind == 0) 1100 1 ++ rest) mk'), (fb, .cells (FS.cells (F) tm wm) false), (tm, .map (.int .i64) (ikeys .i64 (F : FS).t) bt ct), (wm, .map (.int .i64) (ikeys .i64 (F : FS).w) bw cw), (blk, .cells (blkC rg db fb wq first 4 (owner : Int) (t : Int)) false), (wq, .map (.int .i64) (ikeys .i64 es) eb' ec'), (rg, .cells (ringC ((t : Nat) : Int) ((g0 : Nat) : Int) false) false), (gb, .cells (flatC pm (base : Int)) false), (pm, .cells (memC bm) false), (bm, .cells (strCells bs) mk)]) (A' := [(fb, .cells (FS.cells (F) tm wm) false), (tm, .map (.int .i64) (ikeys .i64 (F : FS).t) bt ct), (wm, .map (.int .i64) (ikeys .i64 (F : FS).w) bw cw), (k1, .cells [.int .i64 0, .sl ⟨some ⟨cb, 0⟩, 3, c⟩, .int .i64 ((base : Int) + page), .bool (!(kind == 1))] false), (cb, .cells (partsC 1024 16 (256 * page) 256 (kind == 0) 1100 1 ++ rest) mk'), (blk, .cells (blkC rg db fb wq first 4 (owner : Int) (t : Int)) false), (wq, .map (.int .i64) (ikeys .i64 es) eb' ec'), (rg, .cells (ringC ((t : Nat) : Int) ((g0 : Nat) : Int) false) false), (gb, .cells (flatC pm (base : Int)) false), (pm, .cells (memC bm) false), (bm, .cells (strCells bs) mk)]) S1 [2, 3, 4, 0, 1, 5, 6, 7, 8, 9, 10] (by decide) rfl
  clear S1
  refine Free_more (rep_at (i := 0) (j := 1) (k := 2) SQ a3 rfl rfl rfl (by decide)) (by omega) (by rw [fn]; omega) (by rw [ff]; omega) ft (by omega) fw (fun g2 R2 k3 => ?_)
  obtain ⟨bt', ct', bw', cw', S2, ok'⟩ := three_st SQ R2 k3
  simp only [A3, List.cons_append, List.nil_append] at S2
  clear SQ R2
  repeat (first | ((with_reducible first|apply St.rI|apply St.rB|apply St.rP|apply St.rSl|apply St.rV|apply St.rM|apply St.rS|apply St.rN|apply St.ckA);assumption;(first|exact i0|exact i1|exact i2|exact i3|exact i4|exact i5|exact i6|exact i7|exact i8|exact i9|exact i10|exact i11|exact i12|exact i13|exact i14|exact i15);(first|rfl|exact Nat.le_of_ble_eq_true rfl)) | with_reducible refine der_of ?_ | ((with_reducible refine br_t ?_ ?_);rfl) | ((with_reducible refine br_f ?_ ?_);rfl) | ((with_reducible refine br_t ?_ ?_);assumption) | ((with_reducible refine br_f ?_ ?_);assumption) | ((with_reducible first|apply St.wrL|apply St.wr);assumption;(first|exact i0|exact i1|exact i2|exact i3|exact i4|exact i5|exact i6|exact i7|exact i8|exact i9|exact i10|exact i11|exact i12|exact i13|exact i14|exact i15);(first|exact Nat.le_of_ble_eq_true rfl|rfl);intro g_ S_;simp only [Ptr.add, List.set, splice, List.take, List.drop, List.nil_append, List.append_nil, List.cons_append, List.length_cons, List.length_nil, Nat.zero_add, Nat.add_zero, Nat.reduceAdd, Nat.reduceMul, Nat.mul_one, Int.toNat_zero, Int.toNat_one, Int.reduceToNat] at S_) | ((with_reducible refine ix_of ?_ ?_ ?_);exact of_decide_eq_true rfl;exact of_decide_eq_true rfl) | ((with_reducible first|refine nz_of ?_ ?_|refine nneg_of ?_ ?_);exact of_decide_eq_true rfl) | ((with_reducible refine chk_of ?_ ?_);rfl) | (with_reducible first|apply asI_of|apply asB_of|apply asP_of|apply asSl_of|apply asAggV_of|apply asTupV_of|apply asCons_of|apply asNil_of|apply isNil_n|apply isNil_i|apply nilC_i|apply nilCU_i|apply nilCU_f|apply mthC_i) | ((with_reducible refine And.intro ?_ ?_);rfl) | ((with_reducible apply exAnd);rfl))
  have SA : St h _ ([(cb, .cells (partsC 1024 16 (256 * page) 256 (kind == 0) 1100 1 ++ rest) mk'), (gb, .cells (flatC pm (base : Int)) false), (pm, .cells (memC bm) false), (bm, .cells (strCells bs) mk)] ++ ([(k1, .cells [.int .i64 0, .sl ⟨some ⟨cb, 0⟩, 3, c⟩, .int .i64 ((base : Int) + page), .bool (!(kind == 1))] false), (fb, .cells (FS.cells ({ F with t := iput ((base : Int) + page) (.int .i64 (((1 + (ws.length + 1) : Nat) : Int) - 1)) F.t }) tm wm) false), (tm, .map (.int .i64) (ikeys .i64 ({ F with t := iput ((base : Int) + page) (.int .i64 (((1 + (ws.length + 1) : Nat) : Int) - 1)) F.t } : FS).t) bt' ct'), (wm, .map (.int .i64) (ikeys .i64 ({ F with t := iput ((base : Int) + page) (.int .i64 (((1 + (ws.length + 1) : Nat) : Int) - 1)) F.t } : FS).w) bw' cw'), (blk, .cells (blkC rg db fb wq first 4 (owner : Int) (t : Int)) false), (wq, .map (.int .i64) (ikeys .i64 es) eb' ec'), (rg, .cells (ringC ((t : Nat) : Int) ((g0 : Nat) : Int) false) false)] ++ R)) g2 := St.pickR (A := [(fb, .cells (FS.cells ({ F with t := iput ((base : Int) + page) (.int .i64 (((1 + (ws.length + 1) : Nat) : Int) - 1)) F.t }) tm wm) false), (tm, .map (.int .i64) (ikeys .i64 ({ F with t := iput ((base : Int) + page) (.int .i64 (((1 + (ws.length + 1) : Nat) : Int) - 1)) F.t } : FS).t) bt' ct'), (wm, .map (.int .i64) (ikeys .i64 ({ F with t := iput ((base : Int) + page) (.int .i64 (((1 + (ws.length + 1) : Nat) : Int) - 1)) F.t } : FS).w) bw' cw'), (k1, .cells [.int .i64 0, .sl ⟨some ⟨cb, 0⟩, 3, c⟩, .int .i64 ((base : Int) + page), .bool (!(kind == 1))] false), (cb, .cells (partsC 1024 16 (256 * page) 256 (kind == 0) 1100 1 ++ rest) mk'), (blk, .cells (blkC rg db fb wq first 4 (owner : Int) (t : Int)) false), (wq, .map (.int .i64) (ikeys .i64 es) eb' ec'), (rg, .cells (ringC ((t : Nat) : Int) ((g0 : Nat) : Int) false) false), (gb, .cells (flatC pm (base : Int)) false), (pm, .cells (memC bm) false), (bm, .cells (strCells bs) mk)]) (A' := [(cb, .cells (partsC 1024 16 (256 * page) 256 (kind == 0) 1100 1 ++ rest) mk'), (gb, .cells (flatC pm (base : Int)) false), (pm, .cells (memC bm) false), (bm, .cells (strCells bs) mk), (k1, .cells [.int .i64 0, .sl ⟨some ⟨cb, 0⟩, 3, c⟩, .int .i64 ((base : Int) + page), .bool (!(kind == 1))] false), (fb, .cells (FS.cells ({ F with t := iput ((base : Int) + page) (.int .i64 (((1 + (ws.length + 1) : Nat) : Int) - 1)) F.t }) tm wm) false), (tm, .map (.int .i64) (ikeys .i64 ({ F with t := iput ((base : Int) + page) (.int .i64 (((1 + (ws.length + 1) : Nat) : Int) - 1)) F.t } : FS).t) bt' ct'), (wm, .map (.int .i64) (ikeys .i64 ({ F with t := iput ((base : Int) + page) (.int .i64 (((1 + (ws.length + 1) : Nat) : Int) - 1)) F.t } : FS).w) bw' cw'), (blk, .cells (blkC rg db fb wq first 4 (owner : Int) (t : Int)) false), (wq, .map (.int .i64) (ikeys .i64 es) eb' ec'), (rg, .cells (ringC ((t : Nat) : Int) ((g0 : Nat) : Int) false) false)]) S2 [4, 8, 9, 10, 3, 0, 1, 2, 5, 6, 7] (by decide) rfl
  clear S2
  refine tell_gen (ps := [⟨1024, 16, false⟩, ⟨256 * page, 256, kind == 0⟩, ⟨1100, 1, true⟩]) (q := ⟨1100, 1, true⟩) (k := 1100) hu M hb (by decide) ⟨Nat.le_of_ble_eq_true rfl, Nat.le_of_ble_eq_true rfl⟩ rfl rfl (by decide) SA.head (fun hf => by cases hf) (fun _ bs1 m1 mk1 g3 N1 hm1 hbyte S3 => ?_)
  have S4 := St.frame S3 SA
  simp only [List.cons_append, List.nil_append] at S4
  clear S3 SA
  repeat (first | ((with_reducible first|apply St.rI|apply St.rB|apply St.rP|apply St.rSl|apply St.rV|apply St.rM|apply St.rS|apply St.rN|apply St.ckA);assumption;(first|exact i0|exact i1|exact i2|exact i3|exact i4|exact i5|exact i6|exact i7|exact i8|exact i9|exact i10|exact i11|exact i12|exact i13|exact i14|exact i15);(first|rfl|exact Nat.le_of_ble_eq_true rfl)) | with_reducible refine der_of ?_ | ((with_reducible refine br_t ?_ ?_);rfl) | ((with_reducible refine br_f ?_ ?_);rfl) | ((with_reducible refine br_t ?_ ?_);assumption) | ((with_reducible refine br_f ?_ ?_);assumption) | ((with_reducible first|apply St.wrL|apply St.wr);assumption;(first|exact i0|exact i1|exact i2|exact i3|exact i4|exact i5|exact i6|exact i7|exact i8|exact i9|exact i10|exact i11|exact i12|exact i13|exact i14|exact i15);(first|exact Nat.le_of_ble_eq_true rfl|rfl);intro g_ S_;simp only [Ptr.add, List.set, splice, List.take, List.drop, List.nil_append, List.append_nil, List.cons_append, List.length_cons, List.length_nil, Nat.zero_add, Nat.add_zero, Nat.reduceAdd, Nat.reduceMul, Nat.mul_one, Int.toNat_zero, Int.toNat_one, Int.reduceToNat] at S_) | ((with_reducible refine ix_of ?_ ?_ ?_);exact of_decide_eq_true rfl;exact of_decide_eq_true rfl) | ((with_reducible first|refine nz_of ?_ ?_|refine nneg_of ?_ ?_);exact of_decide_eq_true rfl) | ((with_reducible refine chk_of ?_ ?_);rfl) | (with_reducible first|apply asI_of|apply asB_of|apply asP_of|apply asSl_of|apply asAggV_of|apply asTupV_of|apply asCons_of|apply asNil_of|apply isNil_n|apply isNil_i|apply nilC_i|apply nilCU_i|apply nilCU_f|apply mthC_i) | ((with_reducible refine And.intro ?_ ?_);rfl) | ((with_reducible apply exAnd);rfl))
  have fin : ∀ nn : Int, 0 ≤ nn ∧ nn ≤ 1000000 → nn = (if kind = 1 then 1 else 257) → zf53 U (some ⟨rg, 0⟩) (.iface 4 (.ptr (some ⟨gb, 0⟩))) 0 nn (fun r19 h => Q true r19 h) g3 := by
    intro nn hnn hnk
    have SP : St h _ ([(rg, .cells (ringC ((t : Nat) : Int) ((g0 : Nat) : Int) false) false), (gb, .cells (flatC pm (base : Int)) false), (pm, .cells (memC bm) false), (bm, .cells (strCells bs1) mk1)] ++ ([(cb, .cells (partsC 1024 16 (256 * page) 256 (kind == 0) 1100 1 ++ rest) mk'), (k1, .cells [.int .i64 0, .sl ⟨some ⟨cb, 0⟩, 3, c⟩, .int .i64 ((base : Int) + page), .bool (!(kind == 1))] false), (fb, .cells (FS.cells ({ F with t := iput ((base : Int) + page) (.int .i64 (((1 + (ws.length + 1) : Nat) : Int) - 1)) F.t }) tm wm) false), (tm, .map (.int .i64) (ikeys .i64 ({ F with t := iput ((base : Int) + page) (.int .i64 (((1 + (ws.length + 1) : Nat) : Int) - 1)) F.t } : FS).t) bt' ct'), (wm, .map (.int .i64) (ikeys .i64 ({ F with t := iput ((base : Int) + page) (.int .i64 (((1 + (ws.length + 1) : Nat) : Int) - 1)) F.t } : FS).w) bw' cw'), (blk, .cells (blkC rg db fb wq first 4 (owner : Int) (t : Int)) false), (wq, .map (.int .i64) (ikeys .i64 es) eb' ec')] ++ R)) g3 := St.pickR (A := [(cb, .cells (partsC 1024 16 (256 * page) 256 (kind == 0) 1100 1 ++ rest) mk'), (gb, .cells (flatC pm (base : Int)) false), (pm, .cells (memC bm) false), (bm, .cells (strCells bs1) mk1), (k1, .cells [.int .i64 0, .sl ⟨some ⟨cb, 0⟩, 3, c⟩, .int .i64 ((base : Int) + page), .bool (!(kind == 1))] false), (fb, .cells (FS.cells ({ F with t := iput ((base : Int) + page) (.int .i64 (((1 + (ws.length + 1) : Nat) : Int) - 1)) F.t }) tm wm) false), (tm, .map (.int .i64) (ikeys .i64 ({ F with t := iput ((base : Int) + page) (.int .i64 (((1 + (ws.length + 1) : Nat) : Int) - 1)) F.t } : FS).t) bt' ct'), (wm, .map (.int .i64) (ikeys .i64 ({ F with t := iput ((base : Int) + page) (.int .i64 (((1 + (ws.length + 1) : Nat) : Int) - 1)) F.t } : FS).w) bw' cw'), (blk, .cells (blkC rg db fb wq first 4 (owner : Int) (t : Int)) false), (wq, .map (.int .i64) (ikeys .i64 es) eb' ec'), (rg, .cells (ringC ((t : Nat) : Int) ((g0 : Nat) : Int) false) false)]) (A' := [(rg, .cells (ringC ((t : Nat) : Int) ((g0 : Nat) : Int) false) false), (gb, .cells (flatC pm (base : Int)) false), (pm, .cells (memC bm) false), (bm, .cells (strCells bs1) mk1), (cb, .cells (partsC 1024 16 (256 * page) 256 (kind == 0) 1100 1 ++ rest) mk'), (k1, .cells [.int .i64 0, .sl ⟨some ⟨cb, 0⟩, 3, c⟩, .int .i64 ((base : Int) + page), .bool (!(kind == 1))] false), (fb, .cells (FS.cells ({ F with t := iput ((base : Int) + page) (.int .i64 (((1 + (ws.length + 1) : Nat) : Int) - 1)) F.t }) tm wm) false), (tm, .map (.int .i64) (ikeys .i64 ({ F with t := iput ((base : Int) + page) (.int .i64 (((1 + (ws.length + 1) : Nat) : Int) - 1)) F.t } : FS).t) bt' ct'), (wm, .map (.int .i64) (ikeys .i64 ({ F with t := iput ((base : Int) + page) (.int .i64 (((1 + (ws.length + 1) : Nat) : Int) - 1)) F.t } : FS).w) bw' cw'), (blk, .cells (blkC rg db fb wq first 4 (owner : Int) (t : Int)) false), (wq, .map (.int .i64) (ikeys .i64 es) eb' ec')]) S4 [10, 1, 2, 3, 0, 4, 5, 6, 7, 8, 9] (by decide) rfl
    have wh : Wid U' h x := w.keeps B.st.keeps hw0
    refine push hu (wh.keeps SP.keeps (B.off w.known)) (SP.notA wh.known (B.off w.known)) hk8 N1 hb (by omega) (by omega) hnn SP.head (fun bs2 mk2 g4 N2 S5 => ?_)
    have S6 := St.frame S5 SP
    simp only [List.cons_append, List.nil_append] at S6
    clear S5 SP
    refine hq _ bs2 g4 (fun j hj => ?_) (fun j hj hj2 hne => ?_) ?_ ?_ ?_ ⟨{ F with t := iput ((base : Int) + page) (.int .i64 (((1 + (ws.length + 1) : Nat) : Int) - 1)) F.t }, mk2, bt', ct', bw', cw', eb', ec', y, fe.put _, N2, ok', ⟨fn, ff, ?_, fw⟩, ?_, hn, hp, ?_, ?_, ?_⟩
    · unfold upd
      rw [if_neg (by omega), if_neg (by omega), if_neg (by omega)]
      exact hm1 j (by omega) (by omega)
    · unfold upd
      rw [if_neg (by omega), if_neg (by omega), if_neg (by omega)]
      exact hm1 j hj2 hne
    · unfold upd; rw [if_pos rfl]
    · unfold upd
      rw [if_neg (by omega), if_pos rfl]
      exact hnk
    · have e := byteAt_word N1 N2 hb (a := 1100) (by decide) (by unfold upd; rw [if_neg (by omega), if_neg (by omega), if_neg (by omega)])
      rw [e]; exact hbyte
    · show ifind _ (iput _ _ _) = _
      rw [ifind_iput]
      refine (if_pos rfl).trans ?_
      have : ((1 + (ws.length + 1) : Nat) : Int) - 1 = ((1 + ws.length : Nat) : Int) := by omega
      rw [this]
    · rw [← hes]; exact eq2
    · have := row.2; rw [← row.1]; exact row.1 ▸ this
    · omega
    · have e : ([(fb, .cells (FS.cells ({ F with t := iput ((base : Int) + page) (.int .i64 (((1 + (ws.length + 1) : Nat) : Int) - 1)) F.t }) tm wm) false), (tm, .map (.int .i64) (ikeys .i64 ({ F with t := iput ((base : Int) + page) (.int .i64 (((1 + (ws.length + 1) : Nat) : Int) - 1)) F.t } : FS).t) bt' ct'), (wm, .map (.int .i64) (ikeys .i64 ({ F with t := iput ((base : Int) + page) (.int .i64 (((1 + (ws.length + 1) : Nat) : Int) - 1)) F.t } : FS).w) bw' cw'), (blk, .cells (blkC rg db fb wq first 4 (owner : Int) (t : Int)) false), (wq, .map (.int .i64) (ikeys .i64 es) eb' ec'), (rg, .cells (ringC ((t : Nat) : Int) ((g0 + 1 : Nat) : Int) false) false), (gb, .cells (flatC pm (base : Int)) false), (pm, .cells (memC bm) false), (bm, .cells (strCells bs2) mk2)] ++ R) = Ad.L (⟨fb, tm, wm, blk, rg, db, wq, gb, pm, bm, base, first, owner, page, block, kind⟩ : Ad) { F with t := iput ((base : Int) + page) (.int .i64 (((1 + (ws.length + 1) : Nat) : Int) - 1)) F.t } bt' ct' bw' cw' (t : Int) (ws.map (⟨fb, tm, wm, blk, rg, db, wq, gb, pm, bm, base, first, owner, page, block, kind⟩ : Ad).ent) eb' ec' t (g0 + 1) bs2 mk2 ++ (X ++ ws.map (⟨fb, tm, wm, blk, rg, db, wq, gb, pm, bm, base, first, owner, page, block, kind⟩ : Ad).cl) := by
        rw [hR, hes]; rfl
      rw [← e]
      exact (B.step S6).pickR (A := [(rg, .cells (ringC ((t : Nat) : Int) ((g0 + 1 : Nat) : Int) false) false), (gb, .cells (flatC pm (base : Int)) false), (pm, .cells (memC bm) false), (bm, .cells (strCells bs2) mk2), (cb, .cells (partsC 1024 16 (256 * page) 256 (kind == 0) 1100 1 ++ rest) mk'), (k1, .cells [.int .i64 0, .sl ⟨some ⟨cb, 0⟩, 3, c⟩, .int .i64 ((base : Int) + page), .bool (!(kind == 1))] false), (fb, .cells (FS.cells ({ F with t := iput ((base : Int) + page) (.int .i64 (((1 + (ws.length + 1) : Nat) : Int) - 1)) F.t }) tm wm) false), (tm, .map (.int .i64) (ikeys .i64 ({ F with t := iput ((base : Int) + page) (.int .i64 (((1 + (ws.length + 1) : Nat) : Int) - 1)) F.t } : FS).t) bt' ct'), (wm, .map (.int .i64) (ikeys .i64 ({ F with t := iput ((base : Int) + page) (.int .i64 (((1 + (ws.length + 1) : Nat) : Int) - 1)) F.t } : FS).w) bw' cw'), (blk, .cells (blkC rg db fb wq first 4 (owner : Int) (t : Int)) false), (wq, .map (.int .i64) (ikeys .i64 es) eb' ec')]) [6, 7, 8, 9, 10, 0, 1, 2, 3] (by decide) rfl
  rcases hkd with rfl | rfl
  · repeat (first | ((with_reducible first|apply St.rI|apply St.rB|apply St.rP|apply St.rSl|apply St.rV|apply St.rM|apply St.rS|apply St.rN|apply St.ckA);assumption;(first|exact i0|exact i1|exact i2|exact i3|exact i4|exact i5|exact i6|exact i7|exact i8|exact i9|exact i10|exact i11|exact i12|exact i13|exact i14|exact i15);(first|rfl|exact Nat.le_of_ble_eq_true rfl)) | with_reducible refine der_of ?_ | ((with_reducible refine br_t ?_ ?_);rfl) | ((with_reducible refine br_f ?_ ?_);rfl) | ((with_reducible refine br_t ?_ ?_);assumption) | ((with_reducible refine br_f ?_ ?_);assumption) | ((with_reducible first|apply St.wrL|apply St.wr);assumption;(first|exact i0|exact i1|exact i2|exact i3|exact i4|exact i5|exact i6|exact i7|exact i8|exact i9|exact i10|exact i11|exact i12|exact i13|exact i14|exact i15);(first|exact Nat.le_of_ble_eq_true rfl|rfl);intro g_ S_;simp only [Ptr.add, List.set, splice, List.take, List.drop, List.nil_append, List.append_nil, List.cons_append, List.length_cons, List.length_nil, Nat.zero_add, Nat.add_zero, Nat.reduceAdd, Nat.reduceMul, Nat.mul_one, Int.toNat_zero, Int.toNat_one, Int.reduceToNat] at S_) | ((with_reducible refine ix_of ?_ ?_ ?_);exact of_decide_eq_true rfl;exact of_decide_eq_true rfl) | ((with_reducible first|refine nz_of ?_ ?_|refine nneg_of ?_ ?_);exact of_decide_eq_true rfl) | ((with_reducible refine chk_of ?_ ?_);rfl) | (with_reducible first|apply asI_of|apply asB_of|apply asP_of|apply asSl_of|apply asAggV_of|apply asTupV_of|apply asCons_of|apply asNil_of|apply isNil_n|apply isNil_i|apply nilC_i|apply nilCU_i|apply nilCU_f|apply mthC_i) | ((with_reducible refine And.intro ?_ ?_);rfl) | ((with_reducible apply exAnd);rfl))
    exact fin 257 (by decide) (by decide)
  · repeat (first | ((with_reducible first|apply St.rI|apply St.rB|apply St.rP|apply St.rSl|apply St.rV|apply St.rM|apply St.rS|apply St.rN|apply St.ckA);assumption;(first|exact i0|exact i1|exact i2|exact i3|exact i4|exact i5|exact i6|exact i7|exact i8|exact i9|exact i10|exact i11|exact i12|exact i13|exact i14|exact i15);(first|rfl|exact Nat.le_of_ble_eq_true rfl)) | with_reducible refine der_of ?_ | ((with_reducible refine br_t ?_ ?_);rfl) | ((with_reducible refine br_f ?_ ?_);rfl) | ((with_reducible refine br_t ?_ ?_);assumption) | ((with_reducible refine br_f ?_ ?_);assumption) | ((with_reducible first|apply St.wrL|apply St.wr);assumption;(first|exact i0|exact i1|exact i2|exact i3|exact i4|exact i5|exact i6|exact i7|exact i8|exact i9|exact i10|exact i11|exact i12|exact i13|exact i14|exact i15);(first|exact Nat.le_of_ble_eq_true rfl|rfl);intro g_ S_;simp only [Ptr.add, List.set, splice, List.take, List.drop, List.nil_append, List.append_nil, List.cons_append, List.length_cons, List.length_nil, Nat.zero_add, Nat.add_zero, Nat.reduceAdd, Nat.reduceMul, Nat.mul_one, Int.toNat_zero, Int.toNat_one, Int.reduceToNat] at S_) | ((with_reducible refine ix_of ?_ ?_ ?_);exact of_decide_eq_true rfl;exact of_decide_eq_true rfl) | ((with_reducible first|refine nz_of ?_ ?_|refine nneg_of ?_ ?_);exact of_decide_eq_true rfl) | ((with_reducible refine chk_of ?_ ?_);rfl) | (with_reducible first|apply asI_of|apply asB_of|apply asP_of|apply asSl_of|apply asAggV_of|apply asTupV_of|apply asCons_of|apply asNil_of|apply isNil_n|apply isNil_i|apply nilC_i|apply nilCU_i|apply nilCU_f|apply mthC_i) | ((with_reducible refine And.intro ?_ ?_);rfl) | ((with_reducible apply exAnd);rfl))
    exact fin 1 (by decide) (by decide)

end
end Go.Back

set_option linter.unusedSimpArgs false
set_option linter.unusedVariables false
set_option maxRecDepth 100000
namespace Go.Back
open Go.Lift Go.Fn Go.Mem Go.Frames

section
variable {U U' : Ifc} {x : Nat → Int} {h0 h : Heap}

theorem complete_r2 (u : Disk.DU U) {p : Ad} (ok : p.Ok) (hk : p.kind = 0) {X : List (Nat × HO)} {m : Nat → Int} {t g0 : Nat} {q : Wt} {ws ps : List Wt} {bs : List UInt8} {d : Disk.Dsk} {F0 : FS}
    (Wl : Wld2 p h0 X m t g0 ws (q :: ps) bs d F0 h) {Q : Int → Bool → Int → Int → Int → Heap → Prop}
    (hq : ∀ m' d' h', (∀ j, j < 192 → m' j = m j) → d'.blk = d.blk → (d.blk (p.first + p.block)).length = 256 → Wld2 p h0 X m' t g0 ws ps (Mem.put bs ((((p.base : Int) + p.page) * 256).toNat) (d.blk (p.first + p.block))) d' F0 h' → Q (p.req q).id (p.req q).write (p.req q).block (p.req q).frame 0 h') :
    zf12 U (some ⟨p.db, 0⟩) (some ⟨p.pm, 0⟩) 0 Q h := by
  obtain ⟨F, mk, bt, ct, bw, cw, eb, ec, y, fe, M, a3, fr, eq, hdn, hp, row, hgt, B⟩ := Wl
  obtain ⟨es, hes⟩ : ∃ es, es = ws.map p.ent := ⟨_, rfl⟩
  obtain ⟨R, hR⟩ : ∃ R, R = X ++ ws.map p.cl := ⟨_, rfl⟩
  rw [← hes, ← hR] at B
  rw [← hes] at eq
  obtain ⟨fb, tm, wm, blk, rg, db, wq, gb, pm, bm, base, first, owner, page, block, kind⟩ := p
  obtain ⟨hb, hb4, hf, hown, hpg, hbl, hkd⟩ := ok
  simp only [Ad.L, List.map_cons] at M eq B hp hb hb4 hf hown hpg hbl hkd hk ⊢
  subst hk
  obtain rfl := B.pbe
  have B1 := B.pickR (A' := [(bm, .cells (strCells bs) mk), (fb, .cells (FS.cells (F) tm wm) false), (tm, .map (.int .i64) (ikeys .i64 (F : FS).t) bt ct), (wm, .map (.int .i64) (ikeys .i64 (F : FS).w) bw cw), (blk, .cells (blkC rg y.pb fb wq first 4 (owner : Int) (t : Int)) false), (wq, .map (.int .i64) (ikeys .i64 es) eb ec), (rg, .cells (ringC ((t : Nat) : Int) ((g0 : Nat) : Int) false) false), (gb, .cells (flatC pm (base : Int)) false), (pm, .cells (memC bm) false)]) [8, 0, 1, 2, 3, 4, 5, 6, 7] (by decide) rfl
  have hl := M.len
  have MR : Mem.Rep pm bm bs h := mrep B1.st (i := 8) (j := 0) rfl rfl (by decide) M.len
  have h0r : ∀ (n : Nat) r', (0 : Int) = n → d.pend[n]? = some r' → n = 0 ∧ r' = (⟨(owner : Int) * 4294967296 + (q.n : Int), false, first + block, (base : Int) + page⟩ : Disk.Req) := by
    intro n r' hn hr
    obtain rfl : n = 0 := by omega
    rw [hp] at hr
    simp only [List.getElem?_cons_zero, Option.some.injEq] at hr
    exact ⟨rfl, hr.symm⟩
  refine Disk.Complete_of u B.R B.ok MR (by omega) (B1.out pm _ (List.mem_of_getElem? (i := 8) rfl)) (B1.out bm _ (List.mem_of_getElem? (i := 0) rfl)) (fun hk => ?_) (fun n r' hn hr hf2 => ?_) (fun n r' hn hr hf2 hw2 => ?_) (fun n r' hn hr hf2 hw2 y' h' R' M' hp' g k' => ?_)
  · exfalso
    rw [hp] at hk
    simp at hk
    omega
  · obtain ⟨rfl, rfl⟩ := h0r n r' hn hr
    exact absurd (by rw [hl]; simp only; omega) hf2
  · obtain ⟨rfl, rfl⟩ := h0r n r' hn hr
    cases hw2
  · obtain ⟨rfl, rfl⟩ := h0r n r' hn hr
    simp only at M' hf2
    have hbl2 : (d.blk (first + block)).length = 256 := B.ok.len _
    obtain ⟨m', M2, hm'⟩ := M.other (xs := d.blk (first + block)) (a := (((base : Int) + page) * 256).toNat) (by omega)
    obtain ⟨mk', harr⟩ := M'.arr
    have S1 := B1.st.headW harr k' B1.out (fun c hc hne => absurd (B.fresh c hc) hne)
    have B2 : BW h0 _ y.pb y' { d with pend := d.pend.eraseIdx 0 } h' := ⟨S1, R', B.ok.erase 0, hp', (fun b v hb hf => by
      rcases g b hf with h1 | h1
      · rcases List.mem_cons.1 hb with e | hb
        · cases e; exact B1.out bm _ (List.mem_cons_self) h1
        · exact B1.out b v (List.mem_cons_of_mem _ hb) h1
      · rcases List.mem_cons.1 hb with e | hb
        · cases e; rw [B1.st.obj i0] at h1; cases h1
        · rw [B1.st.objs b v (List.mem_cons_of_mem _ hb)] at h1; cases h1), (fun c hc => by
      rcases g c hc with h1 | h1
      · exact B.fresh c h1
      · exact fresh_of B1.st.keeps h1)⟩
    refine hq m' { d with pend := d.pend.eraseIdx 0 } h' (fun j hj => hm' j (by omega) (by omega)) rfl hbl2 ⟨F, mk', bt, ct, bw, cw, eb, ec, y', fe, M2, a3, fr, by rw [← hes]; exact eq, hdn, ?_, row, hgt, ?_⟩
    · show d.pend.eraseIdx 0 = _
      rw [hp]; rfl
    · rw [← hes, ← hR]
      exact B2.pickR (A := [(bm, .cells (strCells _) _), (fb, .cells (FS.cells (F) tm wm) false), (tm, .map (.int .i64) (ikeys .i64 (F : FS).t) bt ct), (wm, .map (.int .i64) (ikeys .i64 (F : FS).w) bw cw), (blk, .cells (blkC rg y.pb fb wq first 4 (owner : Int) (t : Int)) false), (wq, .map (.int .i64) (ikeys .i64 es) eb ec), (rg, .cells (ringC ((t : Nat) : Int) ((g0 : Nat) : Int) false) false), (gb, .cells (flatC pm (base : Int)) false), (pm, .cells (memC bm) false)]) [1, 2, 3, 4, 5, 6, 7, 8, 0] (by decide) rfl

/-- The disk does a request: what is written comes from the memory. -/
theorem complete_w2 (u : Disk.DU U) {p : Ad} (ok : p.Ok) (hk : p.kind = 1) {X : List (Nat × HO)} {m : Nat → Int} {t g0 : Nat} {q : Wt} {ws ps : List Wt} {bs : List UInt8} {d : Disk.Dsk} {F0 : FS}
    (Wl : Wld2 p h0 X m t g0 ws (q :: ps) bs d F0 h) {Q : Int → Bool → Int → Int → Int → Heap → Prop}
    (hq : ∀ d' h', d'.blk = (fun j => if j = p.first + p.block then Disk.frameOf bs ((p.base : Int) + p.page) else d.blk j) → Wld2 p h0 X m t g0 ws ps bs d' F0 h' → Q (p.req q).id (p.req q).write (p.req q).block (p.req q).frame 0 h') :
    zf12 U (some ⟨p.db, 0⟩) (some ⟨p.pm, 0⟩) 0 Q h := by
  obtain ⟨F, mk, bt, ct, bw, cw, eb, ec, y, fe, M, a3, fr, eq, hdn, hp, row, hgt, B⟩ := Wl
  obtain ⟨es, hes⟩ : ∃ es, es = ws.map p.ent := ⟨_, rfl⟩
  obtain ⟨R, hR⟩ : ∃ R, R = X ++ ws.map p.cl := ⟨_, rfl⟩
  rw [← hes, ← hR] at B
  rw [← hes] at eq
  obtain ⟨fb, tm, wm, blk, rg, db, wq, gb, pm, bm, base, first, owner, page, block, kind⟩ := p
  obtain ⟨hb, hb4, hf, hown, hpg, hbl, hkd⟩ := ok
  simp only [Ad.L, List.map_cons, List.cons_append, List.nil_append] at M eq B hp hb hb4 hf hown hpg hbl hkd hk ⊢
  subst hk
  obtain rfl := B.pbe
  have hl := M.len
  have MR : Mem.Rep pm bm bs h := mrep B.st (i := 7) (j := 8) rfl rfl (by decide) M.len
  have h0r : ∀ (n : Nat) r', (0 : Int) = n → d.pend[n]? = some r' → n = 0 ∧ r' = (⟨(owner : Int) * 4294967296 + (q.n : Int), true, first + block, (base : Int) + page⟩ : Disk.Req) := by
    intro n r' hn hr
    obtain rfl : n = 0 := by omega
    rw [hp] at hr
    simp only [List.getElem?_cons_zero, Option.some.injEq] at hr
    exact ⟨rfl, hr.symm⟩
  refine Disk.Complete_of u B.R B.ok MR (by omega) (B.out pm _ (List.mem_of_getElem? (i := 7) rfl)) (B.out bm _ (List.mem_of_getElem? (i := 8) rfl)) (fun hk => ?_) (fun n r' hn hr hf2 => ?_) (fun n r' hn hr hf2 hw2 y' h' R' hp' g k' => ?_) (fun n r' hn hr hf2 hw2 => ?_)
  · exfalso
    rw [hp] at hk
    simp at hk
    omega
  · obtain ⟨rfl, rfl⟩ := h0r n r' hn hr
    exact absurd (by rw [hl]; simp only; omega) hf2
  · obtain ⟨rfl, rfl⟩ := h0r n r' hn hr
    refine hq { d with pend := d.pend.eraseIdx 0, blk := fun j => if j = first + block then Disk.frameOf bs ((base : Int) + page) else d.blk j } h' rfl ⟨F, mk, bt, ct, bw, cw, eb, ec, y', fe, M, a3, fr, by rw [← hes]; exact eq, hdn, ?_, row, hgt, ?_⟩
    · show d.pend.eraseIdx 0 = _
      rw [hp]; rfl
    · rw [← hes, ← hR]
      exact B.disk R' (Disk.Ok.blk (B.ok.erase 0) (Disk.frameOf_length hf2.1 hf2.2)) hp' g k'
  · obtain ⟨rfl, rfl⟩ := h0r n r' hn hr
    cases hw2

end
end Go.Back

set_option linter.unusedSimpArgs false
set_option linter.unusedVariables false
set_option maxRecDepth 100000
namespace Go.Back
open Go.Lift Go.Fn Go.Mem Go.Frames

/-- Where the parts lie. -/
structure Nm where
  fb : Nat
  tm : Nat
  wm : Nat
  db : Nat
  pm : Nat
  bm : Nat
  wb : Nat
  hv : Nat
  cn : Nat
  blk : Nat → Nat
  rg : Nat → Nat
  wq : Nat → Nat
  gb : Nat → Nat

def Nm.ad (G : Nm) (k : Nat) (page block kind : Int) : Ad := ⟨G.fb, G.tm, G.wm, G.blk k, G.rg k, G.db, G.wq k, G.gb k, G.pm, G.bm, 4 + 16 * k, ((4 * k : Nat) : Int), k + 1, page, block, kind⟩
def Nm.wbC (G : Nm) : List V := [.ptr (some ⟨G.pm, 0⟩), .ptr (some ⟨G.fb, 0⟩), .ptr (some ⟨G.db, 0⟩), .ptr (some ⟨G.gb 0, 0⟩), .ptr (some ⟨G.gb 1, 0⟩), .ptr (some ⟨G.rg 0, 0⟩), .ptr (some ⟨G.rg 1, 0⟩), .ptr (some ⟨G.blk 0, 0⟩), .ptr (some ⟨G.blk 1, 0⟩)]
def Nm.oth (G : Nm) (k c ec : Nat) : List (Nat × HO) := [(G.blk k, .cells (blkC (G.rg k) G.db G.fb (G.wq k) ((4 * k : Nat) : Int) 4 ((k + 1 : Nat) : Int) ((c : Nat) : Int)) false), (G.wq k, .map (.int .i64) (ikeys .i64 []) [] ec), (G.rg k, .cells (ringC ((c : Nat) : Int) ((c : Nat) : Int) false) false), (G.gb k, .cells (flatC G.pm ((4 + 16 * k : Nat) : Int)) false)]

/-- The texts that the disk's first blocks have. -/
def have8 (B : Int → List UInt8) : List V := (List.range 8).map fun i => V.str (B ((i : Nat) : Int))

theorem have8_get {B : Int → List UInt8} {n : Nat} (hn : n < 8) : (have8 B)[n]? = some (.str (B ((n : Nat) : Int))) := by
  unfold have8
  rw [List.getElem?_map, List.getElem?_range hn]; rfl

theorem have8_set {B : Int → List UInt8} {n : Nat} {x : List UInt8} : (have8 B).set n (.str x) = have8 (fun j => if j = (n : Int) then x else B j) := by
  refine List.ext_getElem? (fun i => ?_)
  rcases Nat.lt_or_ge i 8 with hi | hi
  · rw [have8_get hi]
    by_cases e : i = n
    · subst e
      rw [List.getElem?_set_self (by simp [have8]; exact hi), if_pos rfl]
    · rw [List.getElem?_set_ne (fun h => e h.symm), have8_get hi, if_neg (by omega)]
  · rw [List.getElem?_eq_none (by simp [have8]; exact hi), List.getElem?_eq_none (by simp [have8]; exact hi)]

def cnC (c : Nat → Nat) : List V := [.int .i64 ((c 0 : Nat) : Int), .int .i64 ((c 1 : Nat) : Int)]
theorem cnC_get {c : Nat → Nat} {k : Nat} (hk : k < 2) : (cnC c)[0 + k * 1]? = some (.int .i64 ((c k : Nat) : Int)) := by
  rcases (by omega : k = 0 ∨ k = 1) with rfl | rfl <;> rfl
theorem cnC_set {c : Nat → Nat} {k : Nat} (hk : k < 2) : (cnC c).set (0 + k * 1) (.int .i64 ((c k + 1 : Nat) : Int)) = cnC (fun j => if j = k then c k + 1 else c j) := by
  rcases (by omega : k = 0 ∨ k = 1) with rfl | rfl <;> rfl

theorem wb_g {G : Nm} {k : Nat} (hk : k < 2) : G.wbC[0 + 3 + k * 1]? = some (.ptr (some ⟨G.gb k, 0⟩)) := by
  rcases (by omega : k = 0 ∨ k = 1) with rfl | rfl <;> rfl
theorem wb_b {G : Nm} {k : Nat} (hk : k < 2) : G.wbC[0 + 7 + k * 1]? = some (.ptr (some ⟨G.blk k, 0⟩)) := by
  rcases (by omega : k = 0 ∨ k = 1) with rfl | rfl <;> rfl

/-- All pages are had once, by their guest. -/
structure FrAll (F : FS) : Prop where
  n : F.n = 40
  first : F.first = 4
  p : ∀ (k : Nat) (page : Int), k < 2 → 0 ≤ page → page < 16 → ifind (((4 + 16 * k : Nat) : Int) + page) F.t = some (.int .i64 ((1 : Nat) : Int)) ∧ ifind (((4 + 16 * k : Nat) : Int) + page) F.w = some (.int .i64 ((k + 1 : Nat) : Int))

theorem frAll0 : FrAll (Fc 32) := by
  refine ⟨rfl, rfl, fun k page hk h0 h1 => ⟨?_, ?_⟩⟩
  · show ifind _ (tfill 36) = _
    rw [ifind_tfill, if_pos (by omega)]; rfl
  · show ifind _ (wfill 32) = _
    rw [ifind_wfill, if_pos (by omega)]
    have : 1 + ((((4 + 16 * k : Nat) : Int) + page).toNat - 4) / 16 = k + 1 := by omega
    rw [this]

theorem FrAll.back {p : Ad} {F0 F : FS} (A : FrAll F0) (e : FrEq p F0 F) (o : FrOk p F 1) : FrAll F := by
  refine ⟨o.n, o.first, fun k page hk h0 h1 => ⟨?_, by rw [e.w]; exact (A.p k page hk h0 h1).2⟩⟩
  by_cases hf : ((4 + 16 * k : Nat) : Int) + page = p.fr
  · rw [hf]; exact o.t
  · rw [e.t _ hf]; exact (A.p k page hk h0 h1).1

theorem FrAll.ok {G : Nm} {F : FS} (A : FrAll F) {k : Nat} (hk : k < 2) {page block kind : Int} (h0 : 0 ≤ page) (h1 : page < 16) : FrOk (G.ad k page block kind) F 1 :=
  ⟨A.n, A.first, (A.p k page hk h0 h1).1, (A.p k page hk h0 h1).2⟩

/-- The blocks besides the guest's own that acts: the world's, the texts, the counts; then R; then the other guest's. -/
def Nm.X (G : Nm) (cs Hs : List V) (R : List (Nat × HO)) (k' c' ec' : Nat) : List (Nat × HO) := (G.wb, .cells G.wbC false) :: (G.hv, .cells Hs false) :: (G.cn, .cells cs false) :: (R ++ G.oth k' c' ec')

/-- The list as the guest k sees it. -/
def Nm.L (G : Nm) (k k' : Nat) (F : FS) (bt : List Nat) (ct : Nat) (bw : List Nat) (cw : Nat) (c c' ec ec' : Nat) (bs : List UInt8) (mk : Bool) (cs Hs : List V) (R : List (Nat × HO)) : List (Nat × HO) :=
  (G.ad k 6 0 0).L F bt ct bw cw ((c : Nat) : Int) [] [] ec c c bs mk ++ G.X cs Hs R k' c' ec'

/-- Between two acts. -/
def Wd (G : Nm) (h0 : Heap) (c : Nat → Nat) (bs : List UInt8) (d : Disk.Dsk) (h : Heap) : Prop :=
  ∃ F mk bt ct bw cw ec0 ec1 y, A3ok F bt ct bw cw ∧ FrAll F ∧ bs.length = 10240 ∧ d.n = 12 ∧ d.pend = [] ∧ BW h0 (G.L 0 1 F bt ct bw cw (c 0) (c 1) ec0 ec1 bs mk (cnC c) (have8 d.blk) []) G.db y d h

section
variable {G : Nm} {h0 h : Heap} {c : Nat → Nat} {bs : List UInt8} {d : Disk.Dsk}

theorem Wd.at (w : Wd G h0 c bs d h) {k k' : Nat} (hk : (k = 0 ∧ k' = 1) ∨ (k = 1 ∧ k' = 0)) : ∃ F mk bt ct bw cw ec ec' y, A3ok F bt ct bw cw ∧ FrAll F ∧ bs.length = 10240 ∧ d.n = 12 ∧ d.pend = [] ∧ BW h0 (G.L k k' F bt ct bw cw (c k) (c k') ec ec' bs mk (cnC c) (have8 d.blk) []) G.db y d h := by
  obtain ⟨F, mk, bt, ct, bw, cw, ec0, ec1, y, a1, a2, a3, a4, a5, B⟩ := w
  rcases hk with ⟨rfl, rfl⟩ | ⟨rfl, rfl⟩
  · exact ⟨F, mk, bt, ct, bw, cw, ec0, ec1, y, a1, a2, a3, a4, a5, B⟩
  · exact ⟨F, mk, bt, ct, bw, cw, ec1, ec0, y, a1, a2, a3, a4, a5, B.pick [0, 1, 2, 12, 13, 14, 15, 7, 8, 9, 10, 11, 3, 4, 5, 6] (by decide) rfl⟩

theorem Wd.of {k k' : Nat} (hk : (k = 0 ∧ k' = 1) ∨ (k = 1 ∧ k' = 0)) {F : FS} {mk : Bool} {bt bw : List Nat} {ct cw ec ec' : Nat} {y : Disk.Lay} (a1 : A3ok F bt ct bw cw) (a2 : FrAll F) (a3 : bs.length = 10240) (a4 : d.n = 12) (a5 : d.pend = [])
    (B : BW h0 (G.L k k' F bt ct bw cw (c k) (c k') ec ec' bs mk (cnC c) (have8 d.blk) []) G.db y d h) : Wd G h0 c bs d h := by
  rcases hk with ⟨rfl, rfl⟩ | ⟨rfl, rfl⟩
  · exact ⟨F, mk, bt, ct, bw, cw, ec, ec', y, a1, a2, a3, a4, a5, B⟩
  · exact ⟨F, mk, bt, ct, bw, cw, ec', ec, y, a1, a2, a3, a4, a5, B.pick [0, 1, 2, 12, 13, 14, 15, 7, 8, 9, 10, 11, 3, 4, 5, 6] (by decide) rfl⟩

end

/-- A guest's page. -/
def pageOf (bs : List UInt8) (base : Nat) (page : Nat) : List UInt8 := (bs.drop (256 * (base + page))).take 256

theorem page_same {bs bs' : List UInt8} {base : Nat} {m m' : Nat → Int} (M : MemIs bs base m) (M' : MemIs bs' base m') (hb : base + 16 ≤ 40) {page : Nat} (hp : page < 16) (he : ∀ j, 32 * page ≤ j → j < 32 * page + 32 → m' j = m j) : pageOf bs' base page = pageOf bs base page := by
  have hl := M.len
  have hl' := M'.len
  unfold pageOf
  refine List.ext_getElem? (fun i => ?_)
  rcases Nat.lt_or_ge i 256 with hi | hi
  · rw [List.getElem?_take_of_lt hi, List.getElem?_take_of_lt hi, List.getElem?_drop, List.getElem?_drop]
    have e := byteAt_word M M' hb (a := 256 * page + i) (by omega) (he _ (by omega) (by omega))
    rw [byteAt_eq, byteAt_eq] at e
    have h1 : 256 * base + (256 * page + i) < bs.length := by omega
    have h2 : 256 * base + (256 * page + i) < bs'.length := by omega
    rw [List.drop_eq_getElem_cons h1, List.drop_eq_getElem_cons h2] at e
    simp only [List.headD_cons] at e
    have e3 : 256 * (base + page) + i = 256 * base + (256 * page + i) := by omega
    rw [e3, List.getElem?_eq_getElem h1, List.getElem?_eq_getElem h2]
    congr 1
    apply UInt8.toNat_inj.1
    omega
  · rw [List.getElem?_eq_none (by simp; omega), List.getElem?_eq_none (by simp; omega)]

theorem page_put {bs x : List UInt8} {base page : Nat} (hl : bs.length = 10240) (hb : base + 16 ≤ 40) (hp : page < 16) (hx : x.length = 256) : pageOf (Go.Mem.put bs (256 * base + 256 * page) x) base page = x := by
  unfold pageOf
  refine List.ext_getElem? (fun i => ?_)
  rcases Nat.lt_or_ge i 256 with hi | hi
  · rw [List.getElem?_take_of_lt hi, List.getElem?_drop, put_get (by omega), if_pos (by omega)]
    congr 1
    omega
  · rw [List.getElem?_eq_none (by simp; omega), List.getElem?_eq_none (by omega)]

theorem memIs_self {bs : List UInt8} (base : Nat) (hl : bs.length = 10240) : MemIs bs base (fun k => valN 8 bs ((256 * base + 8 * k : Nat) : Int)) := ⟨hl, fun _ _ => rfl⟩

theorem frame_page {bs : List UInt8} {base page : Nat} : Disk.frameOf bs (((base : Nat) : Int) + (page : Int)) = pageOf bs base page := by
  unfold Disk.frameOf pageOf
  have : ((((base : Nat) : Int) + (page : Int)) * 256).toNat = 256 * (base + page) := by omega
  rw [this]

end Go.Back

set_option linter.unusedSimpArgs false
set_option linter.unusedVariables false
set_option maxRecDepth 100000
namespace Go.Back
open Go.Lift Go.Fn Go.Mem Go.Frames

section
variable {U U' : Ifc} {x : Nat → Int} {G : Nm} {h0 h : Heap} {c : Nat → Nat} {bs : List UInt8} {d : Disk.Dsk}

theorem kick_stage (hu : GU U U') (u : Disk.DU U) (w : Wid U h0 x) (hk8 : knownB x 8 = true) {k k' : Nat} (hk : (k = 0 ∧ k' = 1) ∨ (k = 1 ∧ k' = 0)) {pg : Nat} {block kind : Int} (hpg : 6 ≤ pg ∧ pg < 16) (hbl : 0 ≤ block ∧ block < 4) (hkd : kind = 0 ∨ kind = 1)
    {F : FS} {mk : Bool} {bt bw : List Nat} {ct cw ec ec' : Nat} {y : Disk.Lay} {Hs : List V} {R : List (Nat × HO)} (a3 : A3ok F bt ct bw cw) (fa : FrAll F) (hl : bs.length = 10240) (hn : d.n = 12) (hp : d.pend = []) (hc : c k ≤ 100)
    (B : BW h0 (G.L k k' F bt ct bw cw (c k) (c k') ec ec' bs mk (cnC c) Hs R) G.db y d h)
    {I11 : Sl → Option Ptr → Ptr → Ptr → Int → Heap → Prop} {a1 : Sl} {a5 : Int} {a6 : Ptr} {a11 : Sl} {Q : Bool → Heap → Prop}
    (hq : ∀ q d' m bs' h', d'.blk = d.blk → pageOf bs' (4 + 16 * k) pg = pageOf bs (4 + 16 * k) pg → Wld2 (G.ad k (pg : Int) block kind) h0 (G.X (cnC fun j => if j = k then c k + 1 else c j) Hs R k' (c k') ec') m (c k + 1) (c k) [q] [q] bs' d' F h' →
      zf41.j26 U I11 a1 (some ⟨G.wb, 0⟩) ⟨G.hv, 0⟩ ⟨G.cn, 0⟩ a5 a6 (k : Int) (some ⟨G.gb k, 0⟩) block (pg : Int) a11 0 0 Q h') :
    zf41.j23 U I11 a1 (some ⟨G.wb, 0⟩) ⟨G.hv, 0⟩ ⟨G.cn, 0⟩ a5 a6 (k : Int) (some ⟨G.gb k, 0⟩) block (pg : Int) a11 kind Q h := by
  have hw0 : ∀ z : Nat, ¬ none_ z := fun _ f => f
  have w' : Wid U' h0 x := by intro i hi; rw [← hu.glob]; exact w i hi
  have k2 : k < 2 := by omega
  have ok : (G.ad k (pg : Int) block kind).Ok := ⟨by show 4 + 16 * k + 16 ≤ 40; omega, by show 4 ≤ 4 + 16 * k; omega, by show (0 : Int) ≤ ((4 * k : Nat) : Int) ∧ ((4 * k : Nat) : Int) ≤ 8; omega, by show k + 1 = 1 ∨ k + 1 = 2; omega, by show (6 : Int) ≤ (pg : Int) ∧ (pg : Int) < 16; omega, hbl, hkd⟩
  have M := memIs_self (4 + 16 * k) hl
  generalize (fun j : Nat => valN 8 bs ((256 * (4 + 16 * k) + 8 * j : Nat) : Int)) = m at M
  have hb : 4 + 16 * k + 16 ≤ 40 := ok.b
  unfold zf41.j23
  have S_ := B.st.base
  have wg : Wid U h x := w.keeps B.st.keeps (hw0 _)
  have ng : ¬ keysOf _ (U.glob 1) := B.off w.known
  refine ix_of (by omega) (by omega) ?_
  rw [Int.toNat_natCast]
  refine S_.rI (i := 11) rfl (cnC_get k2) ?_
  have SR : St h _ ([(G.gb k, .cells (flatC G.pm ((4 + 16 * k : Nat) : Int)) false), (G.pm, .cells (memC G.bm) false), (G.bm, .cells (strCells bs) mk)] ++ ([(G.fb, .cells (F.cells G.tm G.wm) false), (G.tm, .map (.int .i64) (ikeys .i64 F.t) bt ct), (G.wm, .map (.int .i64) (ikeys .i64 F.w) bw cw), (G.blk k, .cells (blkC (G.rg k) G.db G.fb (G.wq k) ((4 * k : Nat) : Int) 4 ((k + 1 : Nat) : Int) ((c k : Nat) : Int)) false), (G.wq k, .map (.int .i64) (ikeys .i64 []) [] ec), (G.rg k, .cells (ringC ((c k : Nat) : Int) ((c k : Nat) : Int) false) false), (G.wb, .cells G.wbC false), (G.hv, .cells Hs false), (G.cn, .cells (cnC c) false)] ++ (R ++ G.oth k' (c k') ec'))) h :=
    St.pickR (A := [(G.fb, .cells (F.cells G.tm G.wm) false), (G.tm, .map (.int .i64) (ikeys .i64 F.t) bt ct), (G.wm, .map (.int .i64) (ikeys .i64 F.w) bw cw), (G.blk k, .cells (blkC (G.rg k) G.db G.fb (G.wq k) ((4 * k : Nat) : Int) 4 ((k + 1 : Nat) : Int) ((c k : Nat) : Int)) false), (G.wq k, .map (.int .i64) (ikeys .i64 []) [] ec), (G.rg k, .cells (ringC ((c k : Nat) : Int) ((c k : Nat) : Int) false) false), (G.gb k, .cells (flatC G.pm ((4 + 16 * k : Nat) : Int)) false), (G.pm, .cells (memC G.bm) false), (G.bm, .cells (strCells bs) mk), (G.wb, .cells G.wbC false), (G.hv, .cells Hs false), (G.cn, .cells (cnC c) false)])
      (A' := [(G.gb k, .cells (flatC G.pm ((4 + 16 * k : Nat) : Int)) false), (G.pm, .cells (memC G.bm) false), (G.bm, .cells (strCells bs) mk), (G.fb, .cells (F.cells G.tm G.wm) false), (G.tm, .map (.int .i64) (ikeys .i64 F.t) bt ct), (G.wm, .map (.int .i64) (ikeys .i64 F.w) bw cw), (G.blk k, .cells (blkC (G.rg k) G.db G.fb (G.wq k) ((4 * k : Nat) : Int) 4 ((k + 1 : Nat) : Int) ((c k : Nat) : Int)) false), (G.wq k, .map (.int .i64) (ikeys .i64 []) [] ec), (G.rg k, .cells (ringC ((c k : Nat) : Int) ((c k : Nat) : Int) false) false), (G.wb, .cells G.wbC false), (G.hv, .cells Hs false), (G.cn, .cells (cnC c) false)]) S_ [6, 7, 8, 0, 1, 2, 3, 4, 5, 9, 10, 11] (by decide) rfl
  clear S_
  have eblk : IntKind.u64.wrap block = block := wrapu64
  rw [eblk]
  refine request_of (wg.keeps SR.keeps ng) (SR.notA wg.known ng) hk8 M hb (by omega) (by omega) (page := (pg : Int)) (by omega) SR.head (fun pb bs1 mk1 g2 M1 S1 => ?_)
  have S2 := St.frame S1 SR
  clear S1 SR
  refine ⟨S2.ck1 (i := 12) rfl (cnC_get k2), ?_⟩
  refine offer_of (c := c k) (wg.keeps S2.keeps ng) (S2.notA wg.known ng) hk8 M1 hb (by omega) (by decide) (by omega) (by decide) (by decide) (by decide) (by decide) S2.head (fun bs2 mk2 g3 M2 S3 => ?_) rfl
  have S4 := St.frame S3 S2
  clear S3 S2
  refine ix_of (by omega) (by omega) ?_
  rw [Int.toNat_natCast]
  refine S4.rI (i := 12) rfl (cnC_get k2) ?_
  refine ix_of (by omega) (by omega) ?_
  rw [Int.toNat_natCast]
  have ew : IntKind.i64.wrap (((c k : Nat) : Int) + 1) = ((c k + 1 : Nat) : Int) := by rw [wrap64] <;> omega
  rw [ew]
  refine S4.wr (i := 12) rfl (cnC_get k2) (fun g4 S5 => ?_)
  have S5 : St h _ (([(pb, .cells (partsC 1024 16 (256 * (pg : Int)) 256 (kind == 0) 1100 1) false), (G.gb k, .cells (flatC G.pm ((4 + 16 * k : Nat) : Int)) false), (G.pm, .cells (memC G.bm) false), (G.bm, .cells (strCells bs2) mk2), (G.fb, .cells (F.cells G.tm G.wm) false), (G.tm, .map (.int .i64) (ikeys .i64 F.t) bt ct), (G.wm, .map (.int .i64) (ikeys .i64 F.w) bw cw), (G.blk k, .cells (blkC (G.rg k) G.db G.fb (G.wq k) ((4 * k : Nat) : Int) 4 ((k + 1 : Nat) : Int) ((c k : Nat) : Int)) false), (G.wq k, .map (.int .i64) (ikeys .i64 []) [] ec), (G.rg k, .cells (ringC ((c k : Nat) : Int) ((c k : Nat) : Int) false) false), (G.wb, .cells G.wbC false), (G.hv, .cells Hs false), (G.cn, .cells ((cnC c).set (0 + k * 1) (.int .i64 ((c k + 1 : Nat) : Int))) false)] ++ (R ++ G.oth k' (c k') ec'))) g4 := S5
  rw [cnC_set k2] at S5
  clear S4
  rw [der_some]
  refine ix_of (by omega) (by omega) ?_
  rw [Int.toNat_natCast]
  refine S5.rP (i := 10) rfl (wb_b k2) ?_
  have B5 := B.step S5
  clear S5
  have hpage : pageOf bs2 (4 + 16 * k) pg = pageOf bs (4 + 16 * k) pg := by
    refine page_same M M2 hb (by omega) (fun j h1 h2 => ?_)
    rw [off_high (by omega)]
    unfold reqM upd
    rw [if_neg (by omega), if_neg (by omega), if_neg (by omega)]
  have hh : offM (reqM m kind block) (c k) 1024 16 (256 * (pg : Int)) 256 (kind == 0) 1100 1 (33 + c k % 8) = 0 := by
    unfold offM upd
    rw [if_neg (by omega), if_pos rfl]
  have W2 : Wld2 (G.ad k (pg : Int) block kind) h0 (G.X (cnC fun j => if j = k then c k + 1 else c j) Hs R k' (c k') ec') (offM (reqM m kind block) (c k) 1024 16 (256 * (pg : Int)) 256 (kind == 0) 1100 1) (c k) (c k) [] [] bs2 d F g4 := by
    refine ⟨F, mk2, bt, ct, bw, cw, [], ec, y, ⟨rfl, fun _ _ => rfl⟩, M2, a3, fa.ok k2 (by omega) (by omega), ⟨List.nodup_nil, fun b hb => (by cases hb), rfl⟩, hn, hp, trivial, rfl, ?_⟩
    rw [List.map_nil, List.map_nil, List.append_nil]
    exact B5.pickR (A := [(pb, .cells (partsC 1024 16 (256 * (pg : Int)) 256 (kind == 0) 1100 1) false), (G.gb k, .cells (flatC G.pm ((4 + 16 * k : Nat) : Int)) false), (G.pm, .cells (memC G.bm) false), (G.bm, .cells (strCells bs2) mk2), (G.fb, .cells (F.cells G.tm G.wm) false), (G.tm, .map (.int .i64) (ikeys .i64 F.t) bt ct), (G.wm, .map (.int .i64) (ikeys .i64 F.w) bw cw), (G.blk k, .cells (blkC (G.rg k) G.db G.fb (G.wq k) ((4 * k : Nat) : Int) 4 ((k + 1 : Nat) : Int) ((c k : Nat) : Int)) false), (G.wq k, .map (.int .i64) (ikeys .i64 []) [] ec), (G.rg k, .cells (ringC ((c k : Nat) : Int) ((c k : Nat) : Int) false) false), (G.wb, .cells G.wbC false), (G.hv, .cells Hs false), (G.cn, .cells (cnC fun j => if j = k then c k + 1 else c j) false)])
      (A' := [(G.fb, .cells (F.cells G.tm G.wm) false), (G.tm, .map (.int .i64) (ikeys .i64 F.t) bt ct), (G.wm, .map (.int .i64) (ikeys .i64 F.w) bw cw), (G.blk k, .cells (blkC (G.rg k) G.db G.fb (G.wq k) ((4 * k : Nat) : Int) 4 ((k + 1 : Nat) : Int) ((c k : Nat) : Int)) false), (G.wq k, .map (.int .i64) (ikeys .i64 []) [] ec), (G.rg k, .cells (ringC ((c k : Nat) : Int) ((c k : Nat) : Int) false) false), (G.gb k, .cells (flatC G.pm ((4 + 16 * k : Nat) : Int)) false), (G.pm, .cells (memC G.bm) false), (G.bm, .cells (strCells bs2) mk2), (G.wb, .cells G.wbC false), (G.hv, .cells Hs false), (G.cn, .cells (cnC fun j => if j = k then c k + 1 else c j) false)]) [4, 5, 6, 7, 8, 9, 1, 2, 3, 10, 11, 12] (by decide) rfl
  refine kick2 hu u w' hk8 ok ?_ ?_ (by omega) off_cnt hh (off_three (by decide) (by decide) (by decide) (by decide) (by show (0 : Int) ≤ 256 * (pg : Int) ∧ 256 * (pg : Int) ≤ 1000000; omega) (by decide)) W2 (fun q d' h' hd Wl => hq q d' _ bs2 h' hd hpage Wl)
  · exact (off_high (by decide)).trans rfl
  · exact (off_high (by decide)).trans rfl

end
end Go.Back

set_option linter.unusedSimpArgs false
set_option linter.unusedVariables false
set_option maxRecDepth 100000
namespace Go.Back
open Go.Lift Go.Fn Go.Mem Go.Frames

section
variable {U U' : Ifc} {x : Nat → Int} {G : Nm} {h0 h h' : Heap} {c : Nat → Nat} {bs : List UInt8} {d : Disk.Dsk} {F0 : FS} {m : Nat → Int} {t g0 k' c' ec' : Nat} {ws ps : List Wt} {cs Hs : List V} {R : List (Nat × HO)} {p : Ad}

theorem Wld2.keep0 {X : List (Nat × HO)} (Wl : Wld2 p h0 X m t g0 ws ps bs d F0 h) (k : Keeps none_ h h') : Wld2 p h0 X m t g0 ws ps bs d F0 h' := by
  obtain ⟨F, mk, bt, ct, bw, cw, eb, ec, y, fe, M, a3, fr, eq, hn, hp, row, hgt, B⟩ := Wl
  exact ⟨F, mk, bt, ct, bw, cw, eb, ec, y, fe, M, a3, fr, eq, hn, hp, row, hgt, B.step (B.st.base.keep k)⟩

/-- One block more. -/
theorem Wld2.add {b : Nat} {v : HO} (Wl : Wld2 p h0 (G.X cs Hs R k' c' ec') m t g0 ws ps bs d F0 h) (hb : h.obj b = none) (ho : h'.obj b = some v) (k : Keeps none_ h h') : Wld2 p h0 (G.X cs Hs ((b, v) :: R) k' c' ec') m t g0 ws ps bs d F0 h' := by
  obtain ⟨F, mk, bt, ct, bw, cw, eb, ec, y, fe, M, a3, fr, eq, hn, hp, row, hgt, B⟩ := Wl
  refine ⟨F, mk, bt, ct, bw, cw, eb, ec, y, fe, M, a3, fr, eq, hn, hp, row, hgt, ?_⟩
  have S := B.st.base.more hb ho k
  have B1 := B.step S
  have e1 : (b, v) :: (p.L F bt ct bw cw (t : Int) (ws.map p.ent) eb ec t g0 bs mk ++ (G.X cs Hs R k' c' ec' ++ ws.map p.cl)) = (b, v) :: ((p.L F bt ct bw cw (t : Int) (ws.map p.ent) eb ec t g0 bs mk ++ [(G.wb, .cells G.wbC false), (G.hv, .cells Hs false), (G.cn, .cells cs false)]) ++ (R ++ G.oth k' c' ec' ++ ws.map p.cl)) := by
    unfold Nm.X; simp only [List.cons_append, List.append_assoc, List.nil_append]
  have e2 : p.L F bt ct bw cw (t : Int) (ws.map p.ent) eb ec t g0 bs mk ++ (G.X cs Hs ((b, v) :: R) k' c' ec' ++ ws.map p.cl) = (p.L F bt ct bw cw (t : Int) (ws.map p.ent) eb ec t g0 bs mk ++ [(G.wb, .cells G.wbC false), (G.hv, .cells Hs false), (G.cn, .cells cs false)]) ++ (b, v) :: (R ++ G.oth k' c' ec' ++ ws.map p.cl) := by
    unfold Nm.X; simp only [List.cons_append, List.append_assoc, List.nil_append]
  rw [e1] at B1
  rw [e2]
  exact B1.perm List.perm_middle.symm

/-- The other guest's block has no such request. -/
theorem done_no {W : Nat → Prop} {L : List (Nat × HO)} {i j blk rg db fb wq gb ec : Nat} {first o asked id : Int} (S : St h0 W L h) (hi : L[i]? = some (blk, .cells (blkC rg db fb wq first 4 o asked) false)) (hj : L[j]? = some (wq, .map (.int .i64) (ikeys .i64 []) [] ec)) {Q : Bool → Int → Heap → Prop} (hq : ∀ h', Keeps none_ h h' → Q false 0 h') :
    zf0 U (some ⟨blk, 0⟩) (.iface 4 (.ptr (some ⟨gb, 0⟩))) id Q h := by
  unfold zf0 zf4
  refine br_f rfl ?_
  rw [der_some]
  refine S.rM hi rfl (br_f rfl (isNil_i (br_f rfl ?_)))
  rw [der_some]
  refine S.rM hi rfl ⟨_, _, _, S.obj hj, ?_⟩
  show asAggV (.agg [.int .i64 0, .sl ⟨none, 0, 0⟩, .int .i64 0, .bool false]) _
  refine asAggV_of (asCons_of (asI_of (asCons_of (asSl_of (asCons_of (asI_of (asCons_of (asB_of (asNil_of ?_)))))))))
  refine al_wrL rfl (fun b h1 hb ho k1 => br_t rfl (hq h1 k1))

/-- What is seen of a request that waits. -/
theorem look_stage {k : Nat} (k2 : k < 2) {pg : Nat} {block kind : Int} (hpg : 6 ≤ pg ∧ pg < 16) (hbl : 0 ≤ block ∧ block < 4) {q : Wt}
    (Wl : Wld2 (G.ad k (pg : Int) block kind) h0 (G.X cs Hs R k' c' ec') m t g0 [q] [q] bs d F0 h)
    {I11 : Sl → Option Ptr → Ptr → Ptr → Int → Heap → Prop} {a1 : Sl} {a5 : Int} {a6 : Ptr} {a11 : Sl} {Q : Bool → Heap → Prop}
    (hq : ∀ h', Wld2 (G.ad k (pg : Int) block kind) h0 (G.X cs Hs R k' c' ec') m t g0 [q] [q] bs d F0 h' →
      zf41.j30 U I11 a1 (some ⟨G.wb, 0⟩) ⟨G.hv, 0⟩ ⟨G.cn, 0⟩ a5 a6 (k : Int) (some ⟨G.gb k, 0⟩) block (pg : Int) a11 Q h') :
    zf41.j26 U I11 a1 (some ⟨G.wb, 0⟩) ⟨G.hv, 0⟩ ⟨G.cn, 0⟩ a5 a6 (k : Int) (some ⟨G.gb k, 0⟩) block (pg : Int) a11 0 0 Q h := by
  have Wl0 := Wl
  obtain ⟨F, mk, bt, ct, bw, cw, eb, ec, y, fe, M, a3, fr, eq, hn, hp, row, hgt, B⟩ := Wl
  have S_ := B.st.base
  unfold zf41.j26
  rw [der_some]
  refine S_.rP (i := 9) rfl rfl ?_
  have hpb : y.pb = G.db := B.pbe
  rw [show (some (⟨G.db, 0⟩ : Ptr)) = some ⟨y.pb, 0⟩ by rw [hpb]]
  refine Disk.Pending_of B.R B.ok (fun s' h1 H1 hb1 hO k1 => ?_)
  have Wl1 := Wl0.keep0 k1
  have B1 := B.step (S_.keep k1)
  have S1 := B1.st.base
  rw [der_some]
  refine S1.rP (i := 9) rfl rfl ?_
  rw [der_some]
  refine S1.rI (i := 6) (x := ((4 + 16 * k : Nat) : Int)) rfl rfl ?_
  have efr : IntKind.i64.wrap (((4 + 16 * k : Nat) : Int) + (pg : Int)) = ((4 + 16 * k : Nat) : Int) + (pg : Int) := by rw [wrap64] <;> omega
  rw [efr]
  refine Owner_of (rep_at (i := 0) (j := 1) (k := 2) S1 a3 rfl rfl rfl (by decide)) fr.t (by simp) fr.w ?_
  refine br_f rfl (br_f rfl ?_)
  rw [der_some]
  refine ix_of (by omega) (by omega) ?_
  rw [Int.toNat_natCast]
  refine S1.rP (i := 9) rfl (wb_b k2) ?_
  refine waits2 (p := G.ad k (pg : Int) block kind) Wl1 (br_f rfl ?_)
  rw [hp] at H1
  have hlen := Disk.Held.slen H1
  have hlen : s'.len = 1 := hlen
  refine br_f (by rw [hlen]; rfl) (br_f rfl ?_)
  obtain ⟨pp, hpp⟩ := Disk.Held.some H1 (n := 0) (by simp)
  have e0 : (0 : Int).toNat = 0 := rfl
  refine ix_of (by omega) (by omega) ?_
  rw [hpp, der_some, e0]
  refine Disk.rd3 H1 hpp (n := 0) rfl ?_
  rw [der_some]
  refine S1.rI (i := 6) (x := ((4 + 16 * k : Nat) : Int)) rfl rfl ?_
  rw [efr]
  refine br_f (by show (((4 + 16 * k : Nat) : Int) + (pg : Int) != ((4 + 16 * k : Nat) : Int) + (pg : Int)) = false; simp) ?_
  refine ix_of (by omega) (by omega) ?_
  rw [der_some, e0]
  refine Disk.rd2 H1 hpp (n := 0) rfl ?_
  have e4 : IntKind.i64.wrap (4 * (k : Int)) = ((4 * k : Nat) : Int) := by rw [wrap64] <;> omega
  have e5 : IntKind.i64.wrap (((4 * k : Nat) : Int) + block) = ((4 * k : Nat) : Int) + block := by rw [wrap64] <;> omega
  rw [e4, e5]
  refine br_f (by show ((((4 * k : Nat) : Int) + block) != (((4 * k : Nat) : Int) + block)) = false; simp) ?_
  exact hq h1 Wl1

end
end Go.Back

set_option linter.unusedSimpArgs false
set_option linter.unusedVariables false
set_option maxRecDepth 100000
namespace Go.Back
open Go.Lift Go.Fn Go.Mem Go.Frames

/-- What the disk did. -/
def Did (p : Ad) (bs : List UInt8) (B : Int → List UInt8) (bs' : List UInt8) (B' : Int → List UInt8) : Prop :=
  (p.kind = 1 ∧ bs' = bs ∧ B' = fun j => if j = p.first + p.block then Disk.frameOf bs ((p.base : Int) + p.page) else B j) ∨
  (p.kind = 0 ∧ (B (p.first + p.block)).length = 256 ∧ bs' = Go.Mem.put bs ((((p.base : Int) + p.page) * 256).toNat) (B (p.first + p.block)) ∧ B' = B)

section
variable {U U' : Ifc} {x : Nat → Int} {G : Nm} {h0 h h' : Heap} {bs : List UInt8} {d : Disk.Dsk} {F0 : FS} {m : Nat → Int} {t g0 k' c' ec' : Nat} {ws ps : List Wt} {cs Hs : List V} {R : List (Nat × HO)} {p : Ad}

/-- One block is written. -/
theorem Wld2.wr {b : Nat} {v v' : HO} (Wl : Wld2 p h0 (G.X cs Hs ((b, v) :: R) k' c' ec') m t g0 ws ps bs d F0 h) (ho : h'.obj b = some v') (k : Keeps (· = b) h h') : Wld2 p h0 (G.X cs Hs ((b, v') :: R) k' c' ec') m t g0 ws ps bs d F0 h' := by
  obtain ⟨F, mk, bt, ct, bw, cw, eb, ec, y, fe, M, a3, fr, eq, hn, hp, row, hgt, B⟩ := Wl
  refine ⟨F, mk, bt, ct, bw, cw, eb, ec, y, fe, M, a3, fr, eq, hn, hp, row, hgt, ?_⟩
  exact B.step (B.st.base.put (i := 12) (x := v) rfl ho k)

theorem complete_any (u : Disk.DU U) (ok : p.Ok) {X : List (Nat × HO)} {q : Wt} (Wl : Wld2 p h0 X m t g0 ws (q :: ps) bs d F0 h) {Q : Int → Bool → Int → Int → Int → Heap → Prop}
    (hq : ∀ m' bs' d' h', (∀ j, j < 192 → m' j = m j) → Did p bs d.blk bs' d'.blk → Wld2 p h0 X m' t g0 ws ps bs' d' F0 h' → Q (p.req q).id (p.req q).write (p.req q).block (p.req q).frame 0 h') :
    zf12 U (some ⟨p.db, 0⟩) (some ⟨p.pm, 0⟩) 0 Q h := by
  rcases ok.k with hk | hk
  · exact complete_r2 u ok hk Wl (fun m' d' h' hm hd hl Wl' => hq m' _ d' h' hm (.inr ⟨hk, hl, rfl, hd⟩) Wl')
  · exact complete_w2 u ok hk Wl (fun d' h' hd Wl' => hq m _ d' h' (fun _ _ => rfl) (.inl ⟨hk, rfl, hd⟩) Wl')

theorem complete_stage (u : Disk.DU U) {k : Nat} {page block kind : Int} (ok : (G.ad k page block kind).Ok) {q : Wt}
    (Wl : Wld2 (G.ad k page block kind) h0 (G.X cs Hs R k' c' ec') m t g0 [q] [q] bs d F0 h)
    {I11 : Sl → Option Ptr → Ptr → Ptr → Int → Heap → Prop} {a1 : Sl} {a5 a7 : Int} {a6 : Ptr} {a8 : Option Ptr} {a9 a10 : Int} {a11 : Sl} {Q : Bool → Heap → Prop}
    (hq : ∀ b m' bs' d' h', (∀ j, j < 192 → m' j = m j) → Did (G.ad k page block kind) bs d.blk bs' d'.blk → Wld2 (G.ad k page block kind) h0 (G.X cs Hs ((b, .cells ((G.ad k page block kind).req q).cells false) :: R) k' c' ec') m' t g0 [q] [] bs' d' F0 h' →
      zf41.j31 U I11 a1 (some ⟨G.wb, 0⟩) ⟨G.hv, 0⟩ ⟨G.cn, 0⟩ a5 a6 a7 a8 a9 a10 a11 0 ⟨b, 0⟩ Q h') :
    zf41.j30 U I11 a1 (some ⟨G.wb, 0⟩) ⟨G.hv, 0⟩ ⟨G.cn, 0⟩ a5 a6 a7 a8 a9 a10 a11 Q h := by
  have Wl0 := Wl
  obtain ⟨F, mk, bt, ct, bw, cw, eb, ec, y, fe, M, a3, fr, eq, hn, hp, row, hgt, B⟩ := Wl
  have S_ := B.st.base
  unfold zf41.j30
  rw [der_some]
  refine S_.rP (i := 9) rfl rfl ?_
  rw [der_some]
  refine S_.rP (i := 9) rfl rfl ⟨?_, ?_⟩
  · refine complete_any (p := G.ad k page block kind) u ok Wl0 (fun m' bs' d' h1 hm hd Wl1 => ?_)
    exact al_wrL rfl (fun b h2 hb ho k2 => hq b m' bs' d' h2 hm hd (Wl1.add hb ho k2))
  · refine al_of (fun b h1 hb ho k1 => ?_)
    have Wl1 := Wl0.add hb ho k1
    have S1 := S_.keep k1
    refine ⟨S1.ck1 (i := 9) rfl rfl, S1.ck1 (i := 9) rfl rfl, ?_⟩
    refine complete_any (p := G.ad k page block kind) u ok Wl1 (fun m' bs' d' h2 hm hd Wl2 => ?_)
    have Wl2' := Wl2
    obtain ⟨F, mk, bt, ct, bw, cw, eb, ec, y, fe, M, a3, fr, eq, hn, hp, row, hgt, B2⟩ := Wl2'
    have ho2 := B2.st.base.obj (i := 12) (b := b) (x := .cells [.int .i64 0, .bool false, .int .i64 0, .int .i64 0] false) rfl
    refine wrL_of (j := 0) ho2 (Nat.le_of_ble_eq_true rfl) (fun h3 ho3 k3 => ?_)
    exact hq b m' bs' d' h3 hm hd (Wl2.wr ho3 k3)

/-- It is given back to its guest, and to none else. -/
theorem back_stage (hu : GU U U') (w' : Wid U' h0 x) (hk8 : knownB x 8 = true) {k : Nat} (hk : (k = 0 ∧ k' = 1) ∨ (k = 1 ∧ k' = 0)) {page block kind : Int} (ok : (G.ad k page block kind).Ok) {q : Wt} (ht0 : t ≤ 900) {rb : Nat} {e1 e2 : Nat × HO}
    (Wl : Wld2 (G.ad k page block kind) h0 (G.X cs Hs [(rb, .cells ((G.ad k page block kind).req q).cells false), e1, e2] k' c' ec') m t g0 [q] [] bs d F0 h)
    {I11 : Sl → Option Ptr → Ptr → Ptr → Int → Heap → Prop} {a1 : Sl} {a5 : Int} {a6 : Ptr} {a9 a10 : Int} {a11 : Sl} {Q : Bool → Heap → Prop}
    (hq : ∀ m' bs' h', (∀ j, j < 41 → m' j = m j) → (∀ j, 60 ≤ j → j < 512 → j ≠ 137 → m' j = m j) → m' 41 = ((g0 + 1 : Nat) : Int) → m' (43 + 2 * (g0 % 8)) = (if kind = 1 then 1 else 257) → byteAt bs' (4 + 16 * k) 1100 = 0 →
      Wld2 (G.ad k page block kind) h0 (G.X cs Hs [(rb, .cells ((G.ad k page block kind).req q).cells false), e1, e2] k' c' ec') m' t (g0 + 1) [] [] bs' d F0 h' →
      zf41.j33 U I11 a1 (some ⟨G.wb, 0⟩) ⟨G.hv, 0⟩ ⟨G.cn, 0⟩ a5 a6 (k : Int) (some ⟨G.gb k, 0⟩) a9 a10 a11 0 false 0 true 0 Q h') :
    zf41.j31 U I11 a1 (some ⟨G.wb, 0⟩) ⟨G.hv, 0⟩ ⟨G.cn, 0⟩ a5 a6 (k : Int) (some ⟨G.gb k, 0⟩) a9 a10 a11 0 ⟨rb, 0⟩ Q h := by
  have Wl0 := Wl
  obtain ⟨F, mk, bt, ct, bw, cw, eb, ec, y, fe, M, a3, fr, eq, hn, hp, row, hgt, B⟩ := Wl
  have S_ := B.st.base
  have ek : IntKind.i64.wrap (1 - (k : Int)) = ((k' : Nat) : Int) := by rw [wrap64] <;> omega
  have k2 : k < 2 := by omega
  have k2' : k' < 2 := by omega
  unfold zf41.j31
  rw [ek, der_some]
  refine ix_of (by omega) (by omega) ?_
  rw [Int.toNat_natCast]
  refine S_.rP (i := 9) rfl (wb_b k2') ?_
  rw [der_some]
  refine ix_of (by omega) (by omega) ?_
  rw [Int.toNat_natCast]
  refine S_.rP (i := 9) rfl (wb_g k2') ?_
  refine S_.rI (i := 12) rfl rfl ⟨S_.ck1 (i := 12) rfl rfl, S_.ck1 (i := 9) rfl (wb_b k2'), ?_⟩
  refine done_no S_ (i := 15) (j := 16) rfl rfl (fun h1 k1 => ?_)
  have S1 := S_.keep k1
  rw [der_some]
  refine ix_of (by omega) (by omega) ?_
  rw [Int.toNat_natCast]
  refine S1.rP (i := 9) rfl (wb_b k2) ?_
  refine S1.rI (i := 12) rfl rfl ⟨S1.ck1 (i := 12) rfl rfl, S1.ck1 (i := 9) rfl (wb_b k2), ?_⟩
  exact done2 (p := G.ad k page block kind) hu w' hk8 ok ht0 (by simp) (Wl0.keep0 k1) (fun m' bs' h2 m1 m2 m3 m4 m5 Wl2 => hq m' bs' h2 m1 m2 m3 m4 m5 Wl2) rfl

/-- What is seen when it is given back. -/
theorem seen_stage (w : Wid U h0 x) (hk8 : knownB x 8 = true) (hk1 : knownB x 1 = true) {k : Nat} (k2 : k < 2) {pg : Nat} {block kind : Int} (hpg : 6 ≤ pg ∧ pg < 16) (hg : g0 ≤ 900) {c : Nat → Nat} (hc : c k = g0 + 1)
    {rb b8 : Nat} {rq ac : List V} {e2 : Nat × HO} (hw8 : ac[3]? = some (.bool (kind == 1))) (hkd : kind = 0 ∨ kind = 1)
    (Wl : Wld2 (G.ad k (pg : Int) block kind) h0 (G.X (cnC c) Hs [(rb, .cells rq false), (b8, .cells ac false), e2] k' c' ec') m t (g0 + 1) [] [] bs d F0 h)
    (h41 : m 41 = ((g0 + 1 : Nat) : Int)) (h43 : m (43 + 2 * (g0 % 8)) = (if kind = 1 then 1 else 257)) (hby : byteAt bs (4 + 16 * k) 1100 = 0)
    {I11 : Sl → Option Ptr → Ptr → Ptr → Int → Heap → Prop} {a1 : Sl} {a5 : Int} {a11 : Sl} {Q : Bool → Heap → Prop}
    (hq : ∀ h', Wld2 (G.ad k (pg : Int) block kind) h0 (G.X (cnC c) Hs [(rb, .cells rq false), (b8, .cells ac false), e2] k' c' ec') m t (g0 + 1) [] [] bs d F0 h' →
      zf41.j41 U I11 a1 (some ⟨G.wb, 0⟩) ⟨G.hv, 0⟩ ⟨G.cn, 0⟩ a5 ⟨b8, 0⟩ (k : Int) (some ⟨G.gb k, 0⟩) block (pg : Int) a11 Q h') :
    zf41.j33 U I11 a1 (some ⟨G.wb, 0⟩) ⟨G.hv, 0⟩ ⟨G.cn, 0⟩ a5 ⟨b8, 0⟩ (k : Int) (some ⟨G.gb k, 0⟩) block (pg : Int) a11 0 false 0 true 0 Q h := by
  have hw0 : ∀ z : Nat, ¬ none_ z := fun _ f => f
  have Wl0 := Wl
  obtain ⟨F, mk, bt, ct, bw, cw, eb, ec, y, fe, M, a3, fr, eq, hn, hp, row, hgt, B⟩ := Wl
  have S_ := B.st.base
  have hb : 4 + 16 * k + 16 ≤ 40 := by omega
  have wg : Wid U h x := w.keeps B.st.keeps (hw0 _)
  have ng : ¬ keysOf _ (U.glob 1) := B.off w.known
  unfold zf41.j33
  rw [der_some]
  refine S_.rP (i := 9) rfl rfl ?_
  rw [der_some]
  refine S_.rI (i := 6) (x := ((4 + 16 * k : Nat) : Int)) rfl rfl ?_
  have efr : IntKind.i64.wrap (((4 + 16 * k : Nat) : Int) + (pg : Int)) = ((4 + 16 * k : Nat) : Int) + (pg : Int) := by rw [wrap64] <;> omega
  rw [efr]
  refine Owner_of (rep_at (i := 0) (j := 1) (k := 2) S_ a3 rfl rfl rfl (by decide)) fr.t (by simp) fr.w ?_
  refine gbyte (g := 6) (p := 7) (b := 8) wg ng hk1 S_ rfl rfl rfl (by decide) M hb (k := 1100) (by decide) rfl (fun h1 k1 => ?_)
  have S1 := S_.keep k1
  rw [show byteAt bs (G.ad k (pg : Int) block kind).base 1100 = 0 from hby]
  unfold zf47
  refine gload (g := 6) (p := 7) (b := 8) wg ng hk8 S1 rfl rfl rfl (by decide) M hb (k := 41) (by decide) rfl (fun h2 k2' => ?_)
  have S2 := S1.keep k2'
  rw [h41]
  refine nz_of (by decide) ?_
  have e8 : (g0 + 1 - 1 : Int) = g0 := by omega
  have eidx : IntKind.u64.wrap (IntKind.u64.wrap (336 + IntKind.u64.wrap (16 * (IntKind.u64.wrap (((g0 + 1 : Nat) : Int) - 1)).tmod 8)) + 8) = ((8 * (43 + 2 * (g0 % 8)) : Nat) : Int) := by
    have e1 : IntKind.u64.wrap (((g0 + 1 : Nat) : Int) - 1) = ((g0 : Nat) : Int) := by rw [wrapu64] <;> omega
    rw [e1, Int.tmod_eq_emod_of_nonneg (by omega), wrapu64 (x := 16 * ((g0 : Int) % 8)), wrapu64 (x := 336 + 16 * ((g0 : Int) % 8)), wrapu64] <;> omega
  refine gload (g := 6) (p := 7) (b := 8) wg ng hk8 S2 rfl rfl rfl (by decide) M hb (k := 43 + 2 * (g0 % 8)) (by omega) eidx (fun h3 k3 => ?_)
  have S3 := S2.keep k3
  rw [h43]
  have Wl3 := ((Wl0.keep0 k1).keep0 k2').keep0 k3
  have eg : IntKind.i64.wrap ((g0 + 1 : Nat) : Int) = ((g0 + 1 : Nat) : Int) := by rw [wrap64] <;> omega
  rw [eg]
  have rest : ∀ n : Int, IntKind.i64.wrap (if kind = 1 then 1 else 257) = n → zf41.j39 U I11 a1 (some ⟨G.wb, 0⟩) ⟨G.hv, 0⟩ ⟨G.cn, 0⟩ a5 ⟨b8, 0⟩ (k : Int) (some ⟨G.gb k, 0⟩) block (pg : Int) a11 0 ((1 + ([] : List Wt).length : Nat) : Int) false 0 true 0 0 ((g0 + 1 : Nat) : Int) (IntKind.i64.wrap (if kind = 1 then 1 else 257)) n Q h3 := by
    intro n en
    unfold zf41.j39
    refine br_f rfl (br_f rfl (br_f rfl (br_f rfl (br_f rfl (br_f rfl (br_f rfl ?_))))))
    refine ix_of (by omega) (by omega) ?_
    rw [Int.toNat_natCast]
    refine S3.rI (i := 11) rfl (cnC_get k2) ?_
    refine br_f (by rw [hc]; simp) (br_f (by rw [en]; simp) ?_)
    rw [der_some]
    refine ix_of (by omega) (by omega) ?_
    rw [Int.toNat_natCast]
    refine S3.rP (i := 9) rfl (wb_b k2) ?_
    refine waits2 (p := G.ad k (pg : Int) block kind) Wl3 (br_f rfl ?_)
    exact hq h3 Wl3
  unfold zf41.j36
  refine S3.rB (i := 13) rfl hw8 ?_
  rcases hkd with rfl | rfl
  · exact br_t rfl (rest 257 (by decide))
  · exact br_f rfl (rest 1 (by decide))

end
end Go.Back

set_option linter.unusedSimpArgs false
set_option linter.unusedVariables false
set_option maxRecDepth 100000
namespace Go.Back
open Go.Lift Go.Fn Go.Mem Go.Frames

theorem appZ_own2 {κ : Sl → Heap → Prop} {h : Heap} {s : Sl} {x : List UInt8} {b : Nat} {n : Int} (O : Own h s 1 (strCells x) b) (h0 : 0 ≤ n) (hb : x.length + n.toNat ≤ 1000000000)
    (hk : ∀ s' h' b', Own h' s' 1 (strCells (x ++ List.replicate n.toNat 0)) b' → s'.len = x.length + n.toNat → (b' = b ∨ h.obj b' = none) → Keeps (· = b) h h' → κ s' h') : appZ 1 1 [.int .u8 0] s n κ h := by
  have hl : s.len = x.length := by have := O.len; rw [strCells_length] at this; omega
  refine ⟨h0, by omega, by omega, ?_⟩
  refine appS_own (m := n.toNat) O (by rw [flatRep_length]; rfl) rfl (by omega) (by omega) (fun s' h' b' O' hl' hbb k => ?_)
  rw [flatRep_bytes, ← strCells_append] at O'
  exact hk s' h' b' O' (by omega) hbb k

theorem and_small (m : Int) {n : Int} (h0 : 0 ≤ n) (h1 : n ≤ 1000) : 0 ≤ ibits .and .i64 m n ∧ ibits .and .i64 m n ≤ n := and64_le m n h0 (by omega)

/-- An act, as the memory ahead of the call has it. -/
def BActAt (h0 : Heap) (s : Sl) (i : Nat) : Prop :=
  ∃ (p : Ptr) (who bl pa : Int) (wr : Bool) (sl : Sl) (x : List UInt8), s.p = some p ∧ h0.get p.b (p.o + i * 5) = some (.int .i64 who) ∧ h0.get p.b (p.o + i * 5 + 1) = some (.int .i64 bl) ∧ h0.get p.b (p.o + i * 5 + 2) = some (.int .i64 pa) ∧
    h0.get p.b (p.o + i * 5 + 3) = some (.bool wr) ∧ h0.get p.b (p.o + i * 5 + 4) = some (.sl sl) ∧ Held h0 sl 1 (strCells x) ∧ x.length ≤ 1048576

section
variable {U U' : Ifc} {x : Nat → Int} {G : Nm} {h0 h h' : Heap} {bs : List UInt8} {d : Disk.Dsk} {F0 : FS} {m : Nat → Int} {k' ec' : Nat} {R : List (Nat × HO)} {c : Nat → Nat}

theorem held_row {b : Nat} {x : List UInt8} {rest : List V} {mk : Bool} {n cap : Nat} (ho : h.obj b = some (.cells (strCells x ++ rest) mk)) (hn : x.length = n) : Held h ⟨some ⟨b, 0⟩, n, cap⟩ 1 (strCells x) := by
  refine ⟨by rw [strCells_length, hn]; simp, fun p hp i v hv => ?_, fun hp => by cases hp⟩
  cases hp
  rw [get_cells ho, Nat.zero_add, List.getElem?_append_left, hv]
  rcases Nat.lt_or_ge i (strCells x).length with h1 | h1
  · exact h1
  · rw [List.getElem?_eq_none h1] at hv; cases hv

theorem end_stage {k : Nat} (hk : (k = 0 ∧ k' = 1) ∨ (k = 1 ∧ k' = 0)) {pg : Nat} {block kind : Int} (hpg : 6 ≤ pg ∧ pg < 16) (hbl : 0 ≤ block ∧ block < 4) (hkd : kind = 0 ∨ kind = 1)
    {e0 : Nat × HO} {b8 tb : Nat} {ac rest : List V} {tmk : Bool} {text : List UInt8} {cap : Nat} {B0 : Int → List UInt8} (hw8 : ac[3]? = some (.bool (kind == 1))) (htx : text.length = 256)
    (Wl : Wld2 (G.ad k (pg : Int) block kind) h0 (G.X (cnC c) (have8 B0) [e0, (b8, .cells ac false), (tb, .cells (strCells text ++ rest) tmk)] k' (c k') ec') m (c k) (c k) [] [] bs d F0 h) (fa : FrAll F0)
    (hw : kind = 1 → d.blk = fun j => if j = ((4 * k : Nat) : Int) + block then text else B0 j) (hr : kind = 0 → d.blk = B0 ∧ pageOf bs (4 + 16 * k) pg = B0 (((4 * k : Nat) : Int) + block))
    {I11 : Sl → Option Ptr → Ptr → Ptr → Int → Heap → Prop} {a1 : Sl} {a5 : Int} {Q : Bool → Heap → Prop}
    (hI : ∀ h', Wd G h0 c bs d h' → I11 a1 (some ⟨G.wb, 0⟩) ⟨G.hv, 0⟩ ⟨G.cn, 0⟩ (IntKind.i64.wrap (a5 + 1)) h') :
    zf41.j41 U I11 a1 (some ⟨G.wb, 0⟩) ⟨G.hv, 0⟩ ⟨G.cn, 0⟩ a5 ⟨b8, 0⟩ (k : Int) (some ⟨G.gb k, 0⟩) block (pg : Int) ⟨some ⟨tb, 0⟩, 256, cap⟩ Q h := by
  obtain ⟨F, mk, bt, ct, bw, cw, eb, ec, y, fe, M, a3, fr, eq, hn, hp, row, hgt, B⟩ := Wl
  have S_ := B.st.base
  have heb : eb = [] := List.length_eq_zero_iff.1 eq.2.2
  subst heb
  have hb : 4 + 16 * k + 16 ≤ 40 := by omega
  have hidx : IntKind.i64.wrap (IntKind.i64.wrap (4 * (k : Int)) + block) = (((4 * k + block.toNat : Nat)) : Int) := by
    rw [wrap64 (x := 4 * (k : Int)), wrap64] <;> omega
  have hix : ((4 * k + block.toNat : Nat) : Int) = ((4 * k : Nat) : Int) + block := by omega
  unfold zf41.j41
  refine S_.rB (i := 13) rfl hw8 ?_
  rw [hidx]
  rcases hkd with rfl | rfl
  · obtain ⟨hd, hpage⟩ := hr rfl
    refine br_f rfl ?_
    have ea : IntKind.u64.wrap (IntKind.i64.wrap (256 * (pg : Int))) = ((256 * pg : Nat) : Int) := by
      rw [wrap64 (x := 256 * (pg : Int)), wrapu64] <;> omega
    refine gbytes (g := 6) (p := 7) (b := 8) S_ rfl rfl rfl (by decide) M hb (k := 256 * pg) (n := 256) (by omega) ea rfl (fun s cb rest2 mk2 g2 S2 hsp hsl hsc => ?_)
    refine ix_of (by omega) (by omega) ?_
    rw [Int.toNat_natCast]
    have hget : (have8 B0)[0 + (4 * k + block.toNat) * 1]? = some (.str (B0 (((4 * k : Nat) : Int) + block))) := by
      rw [Nat.zero_add, Nat.mul_one, have8_get (by omega), hix]
    refine S2.rS (i := 11) rfl hget ?_
    have hpg2 : (bs.drop (256 * (4 + 16 * k) + 256 * pg)).take 256 = pageOf bs (4 + 16 * k) pg := by
      unfold pageOf
      rw [show 256 * (4 + 16 * k) + 256 * pg = 256 * (4 + 16 * k + pg) by omega]
    have hlen : (pageOf bs (4 + 16 * k) pg).length = 256 := by
      have := M.len
      unfold pageOf; simp; omega
    obtain ⟨sp, sl, sc⟩ := s
    simp only at hsp hsl
    subst hsp hsl
    have ho := S2.obj i0
    rw [show (G.ad k (pg : Int) block 0).base = 4 + 16 * k from rfl, hpg2] at ho
    refine cellsS_of (held_row ho hlen) ?_
    rw [bytesOf_str]
    refine ⟨S2.ck1 (i := 11) rfl hget, ?_⟩
    refine br_f (by rw [hpage]; simp) ?_
    unfold zf41.j12
    have B2 := (B.step S2).pick (L' := G.L k k' F bt ct bw cw (c k) (c k') ec ec' bs mk (cnC c) (have8 B0) []) [1, 2, 3, 4, 5, 6, 7, 8, 9, 10, 11, 12, 16, 17, 18, 19] (by decide) rfl
    rw [← hd] at B2
    exact hI g2 (Wd.of hk a3 (fa.back fe fr) M.len hn hp B2)
  · have hd := hw rfl
    refine br_t rfl ?_
    have ho := S_.obj (i := 14) (b := tb) (x := .cells (strCells text ++ rest) tmk) rfl
    refine cellsS_of (held_row ho htx) ?_
    rw [bytesOf_str]
    refine ix_of (by omega) (by omega) ?_
    rw [Int.toNat_natCast]
    refine S_.wr (i := 10) (l := have8 B0) rfl (by show (have8 B0)[0 + (4 * k + block.toNat) * 1]? = _; rw [Nat.zero_add, Nat.mul_one]; exact have8_get (by omega)) (fun g2 S2 => ?_)
    unfold zf41.j12
    have B2 := (B.step S2).pick (L' := G.L k k' F bt ct bw cw (c k) (c k') ec ec' bs mk (cnC c) ((have8 B0).set (0 + (4 * k + block.toNat) * 1) (.str text)) []) [0, 1, 2, 3, 4, 5, 6, 7, 8, 9, 10, 11, 15, 16, 17, 18] (by decide) rfl
    rw [Nat.zero_add, Nat.mul_one, have8_set, hix, ← hd] at B2
    exact hI g2 (Wd.of hk a3 (fa.back fe fr) M.len hn hp B2)

theorem act (hu : GU U U') (u : Disk.DU U) (w : Wid U h0 x) (hk8 : knownB x 8 = true) (hk1 : knownB x 1 = true) {a1 : Sl} {i : Nat} (hi : i < a1.len) (hil : a1.len ≤ 9223372036854775807) (hi100 : i < 100) (ba : BActAt h0 a1 i) (hc : ∀ j, c j ≤ i) (Wl : Wd G h0 c bs d h)
    {I11 : Sl → Option Ptr → Ptr → Ptr → Int → Heap → Prop} {Q : Bool → Heap → Prop}
    (hI : ∀ c' bs' d' h', (∀ j, c' j ≤ i + 1) → Wd G h0 c' bs' d' h' → I11 a1 (some ⟨G.wb, 0⟩) ⟨G.hv, 0⟩ ⟨G.cn, 0⟩ ((i : Int) + 1) h') :
    zf41.b11 U I11 a1 (some ⟨G.wb, 0⟩) ⟨G.hv, 0⟩ ⟨G.cn, 0⟩ (i : Int) Q h := by
  obtain ⟨p, who, blk, pa, wr, sl, tx, hp, g0, g1, g2, g3, g4, H, hx⟩ := ba
  have w' : Wid U' h0 x := by intro i hi; rw [← hu.glob]; exact w i hi
  have ew : IntKind.i64.wrap ((i : Int) + 1) = (i : Int) + 1 := wrap64
  obtain ⟨k0, k1⟩ := and_small who (n := 1) (by decide) (by decide)
  obtain ⟨k, k', hk, ek⟩ : ∃ k k' : Nat, ((k = 0 ∧ k' = 1) ∨ (k = 1 ∧ k' = 0)) ∧ ibits .and .i64 who 1 = (k : Int) := by
    rcases (by omega : ibits .and .i64 who 1 = 0 ∨ ibits .and .i64 who 1 = 1) with e | e
    · exact ⟨0, 1, .inl ⟨rfl, rfl⟩, by rw [e]; rfl⟩
    · exact ⟨1, 0, .inr ⟨rfl, rfl⟩, by rw [e]; rfl⟩
  have k2 : k < 2 := by omega
  obtain ⟨b0, b3⟩ := and_small blk (n := 3) (by decide) (by decide)
  obtain ⟨block, hblock⟩ : ∃ block, ibits .and .i64 blk 3 = block := ⟨_, rfl⟩
  obtain ⟨p0, p7⟩ := and_small pa (n := 7) (by decide) (by decide)
  obtain ⟨pg, hpg, hpg1⟩ : ∃ pg : Nat, IntKind.i64.wrap (6 + ibits .and .i64 pa 7) = (pg : Int) ∧ 6 ≤ pg ∧ pg < 16 := ⟨(6 + ibits .and .i64 pa 7).toNat, by rw [wrap64] <;> omega, by omega, by omega⟩
  rw [hblock] at b0 b3
  obtain ⟨F, mk, bt, ct, bw, cw, ec, ec', y, a3, fa, hl, hn, hpd, B⟩ := Wl.at hk
  have get0 : ∀ {b o : Nat} {v : V}, h0.get b o = some v → h.get b o = some v := by
    intro b o v hg
    have hb : h0.obj b ≠ none := by intro hn; unfold Heap.get at hg; rw [hn] at hg; cases hg
    rw [Heap.get_obj (B.st.keeps.same b hb (fun f => f))]; exact hg
  unfold zf41.b11
  refine br_t (by simp; omega) (br_t (by simp; omega) (ix_of (by omega) (by omega) ?_))
  rw [hp, der_some, Int.toNat_natCast]
  refine rdI_of (get0 g0) (rdI_of (get0 g1) (rdI_of (get0 g2) (rdB_of (get0 g3) (rdSl_of (get0 g4) ?_))))
  refine al_wrL rfl (fun b8 h1 hb8 ho8 kk1 => ?_)
  have B1 := B.step (B.st.base.more hb8 ho8 kk1)
  have S1 := B1.st.base
  refine loc_I ho8 rfl ?_
  rw [der_some, ek]
  refine ix_of (by omega) (by omega) ?_
  rw [Int.toNat_natCast]
  refine S1.rP (i := 10) rfl (wb_g k2) ?_
  unfold zf41.j16
  refine loc_I ho8 rfl (loc_I ho8 rfl ?_)
  rw [hblock, hpg]
  intro b3' hb3'
  have k3 : Keeps none_ h1 (h1.new b3' (.cells [] false)) := Keeps.new hb3' _
  refine loc_Sl (k3.obj ho8 (fun f => f)) rfl ?_
  have Hh : Held (h1.new b3' (.cells [] false)) sl 1 (strCells tx) := (H.keeps B1.st.keeps (fun _ _ f => f)).keeps k3 (fun _ _ f => f)
  have hslen : sl.len = tx.length := by have := H.len; rw [strCells_length] at this; omega
  refine cellsS_of Hh ?_
  rw [hslen]
  refine copy_of (sz := 1) (bytes := 1) (n := tx.length) (by rw [strCells_length]; omega) rfl (by omega) (by omega) (fun s5 h2 b5 O5 hl5 hb5 k5 => ?_) hb3'
  refine appZ_own2 O5 (by decide) (by simp; omega) (fun s7 h3 b7 O7 hl7 hbb k7 => ?_)
  have e256 : (256 : Int).toNat = 256 := rfl
  rw [e256] at O7 hl7
  have hb7 : h1.obj b7 = none := by
    rcases hbb with rfl | hbb
    · exact hb5
    · exact fresh_of k5 hbb
  have k17 : Keeps none_ h1 h3 := by
    refine ⟨fun z hz _ => ?_, fun z hz => k7.known z (k5.known z hz)⟩
    rw [k7.same z (k5.known z hz) (fun e => hz (e ▸ hb5))]
    exact k5.same z hz (fun f => f)
  refine sb_of (by decide) (by have := O7.cap; omega) ?_
  rw [e256]
  obtain ⟨text, htext⟩ : ∃ text, (tx ++ List.replicate 256 (0 : UInt8)).take 256 = text := ⟨_, rfl⟩
  have htx : text.length = 256 := by rw [← htext]; simp
  obtain ⟨rest7, mk7, ho7, _⟩ := O7.obj
  have ho7 : h3.obj b7 = some (.cells (strCells text ++ (strCells ((tx ++ List.replicate 256 (0 : UInt8)).drop 256) ++ rest7)) mk7) := by
    rw [ho7, ← List.append_assoc, ← strCells_append, ← htext, List.take_append_drop]
  generalize strCells ((tx ++ List.replicate 256 (0 : UInt8)).drop 256) ++ rest7 = rest at ho7
  have hslp : slp s7.p (0 * 1) 0 s7.cap = some ⟨b7, 0⟩ := by
    rw [O7.p]; unfold slp; split <;> rfl
  rw [hslp]
  have ho8' := k17.obj ho8 (fun f => f)
  have B3 := (B1.step (S1.more hb7 ho7 k17)).pick (L' := G.L k k' F bt ct bw cw (c k) (c k') ec ec' bs mk (cnC c) (have8 d.blk) [(b8, .cells [.int .i64 who, .int .i64 blk, .int .i64 pa, .bool wr, .sl sl] false), (b7, .cells (strCells text ++ rest) mk7)]) [2, 3, 4, 5, 6, 7, 8, 9, 10, 11, 12, 13, 1, 0, 14, 15, 16, 17] (by decide) rfl
  -- from the offer on
  have go : ∀ (kind : Int) (bs1 : List UInt8) (mk1 : Bool) (g : Heap), (kind = 0 ∨ kind = 1) → wr = (kind == 1) → bs1.length = 10240 → (kind = 1 → pageOf bs1 (4 + 16 * k) pg = text) →
      BW h0 (G.L k k' F bt ct bw cw (c k) (c k') ec ec' bs1 mk1 (cnC c) (have8 d.blk) [(b8, .cells [.int .i64 who, .int .i64 blk, .int .i64 pa, .bool wr, .sl sl] false), (b7, .cells (strCells text ++ rest) mk7)]) G.db y d g →
      zf41.j23 U I11 a1 (some ⟨G.wb, 0⟩) ⟨G.hv, 0⟩ ⟨G.cn, 0⟩ (i : Int) ⟨b8, 0⟩ (k : Int) (some ⟨G.gb k, 0⟩) block (pg : Int) ⟨some ⟨b7, 0⟩, 256, s7.cap - 0⟩ kind Q g := by
    intro kind bs1 mk1 g hkd hwr hl1 hpage Bg
    have ok : (G.ad k (pg : Int) block kind).Ok := ⟨by show 4 + 16 * k + 16 ≤ 40; omega, by show 4 ≤ 4 + 16 * k; omega, by show (0 : Int) ≤ ((4 * k : Nat) : Int) ∧ ((4 * k : Nat) : Int) ≤ 8; omega, by show k + 1 = 1 ∨ k + 1 = 2; omega, by show (6 : Int) ≤ (pg : Int) ∧ (pg : Int) < 16; omega, by show 0 ≤ block ∧ block < 4; omega, hkd⟩
    have hck := hc k
    refine kick_stage hu u w hk8 hk hpg1 (by omega) hkd a3 fa hl1 hn hpd (by omega) Bg (fun q d2 m2 bs2 g2 hd2 hpage2 W2 => ?_)
    refine look_stage k2 hpg1 (by omega) W2 (fun g3 W3 => ?_)
    refine complete_stage u ok W3 (fun rb m4 bs4 d4 g4 hm4 did W4 => ?_)
    refine back_stage hu w' hk8 hk ok (by omega) W4 (fun m5 bs5 g5 q1 q2 q3 q4 q5 W5 => ?_)
    have M4 : MemIs bs4 (4 + 16 * k) m4 := by obtain ⟨F, mk, bt, ct, bw, cw, eb, ec, y, fe, M, _⟩ := W4; exact M
    have M5 : MemIs bs5 (4 + 16 * k) m5 := by obtain ⟨F, mk, bt, ct, bw, cw, eb, ec, y, fe, M, _⟩ := W5; exact M
    have M2 : MemIs bs2 (4 + 16 * k) m2 := by obtain ⟨F, mk, bt, ct, bw, cw, eb, ec, y, fe, M, _⟩ := W2; exact M
    have hp5 : pageOf bs5 (4 + 16 * k) pg = pageOf bs4 (4 + 16 * k) pg := page_same M4 M5 (by omega) (by omega) (fun j h1 h2 => q2 j (by omega) (by omega) (by omega))
    have hrq : (if kind = 1 then (1 : Int) else 257) = (if kind = 1 then 1 else 257) := rfl
    refine seen_stage w hk8 hk1 k2 hpg1 (by omega) (c := fun j => if j = k then c k + 1 else c j) (by simp) (b8 := b8) (by show some (V.bool wr) = _; rw [hwr]) hkd W5 q3 q4 q5 (fun g6 W6 => ?_)
    obtain ⟨c2, hc2⟩ : ∃ c2 : Nat → Nat, (fun j => if j = k then c k + 1 else c j) = c2 := ⟨_, rfl⟩
    have hck1 : c2 k = c k + 1 := by rw [← hc2]; simp
    have hck2 : c2 k' = c k' := by rw [← hc2]; show (if k' = k then _ else _) = _; rw [if_neg (by omega)]
    have hcle : ∀ j, c2 j ≤ i + 1 := by
      intro j
      rw [← hc2]
      show (if j = k then c k + 1 else c j) ≤ i + 1
      have := hc j
      split <;> omega
    rw [hc2, ← hck1, ← hck2] at W6
    refine end_stage (c := c2) (B0 := d.blk) (d := d4) (F0 := F) (ac := [.int .i64 who, .int .i64 blk, .int .i64 pa, .bool wr, .sl sl]) hk hpg1 (by omega) hkd (by show some (V.bool wr) = _; rw [hwr]) htx W6 fa (fun e => ?_) (fun e => ?_) (fun g7 Wd7 => ?_)
    · subst e
      rcases did with ⟨_, _, hd⟩ | ⟨he, _⟩
      · rw [hd, hd2]
        funext j
        show (if j = ((4 * k : Nat) : Int) + block then Disk.frameOf bs2 (((4 + 16 * k : Nat) : Int) + (pg : Int)) else d.blk j) = _
        rw [frame_page, hpage2, hpage rfl]
      · cases he
    · subst e
      rcases did with ⟨he, _⟩ | ⟨_, hlen, hbs, hd⟩
      · cases he
      · refine ⟨by rw [hd, hd2], ?_⟩
        rw [hp5, hbs]
        have e1 : (((((4 + 16 * k : Nat) : Int) + (pg : Int)) * 256).toNat) = 256 * (4 + 16 * k) + 256 * pg := by omega
        show pageOf (Go.Mem.put bs2 ((((4 + 16 * k : Nat) : Int) + (pg : Int)) * 256).toNat (d2.blk (((4 * k : Nat) : Int) + block))) (4 + 16 * k) pg = _
        have hlen' : (d2.blk (((4 * k : Nat) : Int) + block)).length = 256 := hlen
        rw [e1, page_put M2.len (by omega) (by omega) hlen', hd2]
    · rw [ew]
      exact hI _ _ _ g7 hcle Wd7
  refine loc_B ho8' rfl ?_
  cases wr with
  | true =>
    refine br_t rfl ?_
    have S3 := B3.st.base
    have ea : IntKind.u64.wrap (IntKind.i64.wrap (256 * (pg : Int))) = ((256 * pg : Nat) : Int) := by
      rw [wrap64 (x := 256 * (pg : Int)), wrapu64] <;> omega
    have Htx : Held h3 ⟨some ⟨b7, 0⟩, 256 - 0, s7.cap - 0⟩ 1 (strCells text) := held_row ho7 htx
    refine gput2 (g := 6) (p := 7) (b := 8) (base := 4 + 16 * k) (k := 256 * pg) S3 rfl rfl rfl (by decide) (memIs_self _ hl) (by omega) Htx (by omega) ea (fun mk4 h4 S4 => ?_)
    have B4 : BW h0 (G.L k k' F bt ct bw cw (c k) (c k') ec ec' (Go.Mem.put bs (256 * (4 + 16 * k) + 256 * pg) text) mk4 (cnC c) (have8 d.blk) [(b8, .cells [.int .i64 who, .int .i64 blk, .int .i64 pa, .bool true, .sl sl] false), (b7, .cells (strCells text ++ rest) mk7)]) G.db y d h4 := B3.step S4
    unfold zf41.j20
    refine B4.st.base.rB (i := 12) rfl rfl (br_t rfl ?_)
    exact go 1 _ mk4 h4 (.inr rfl) rfl (by rw [put_length (by omega)]; exact hl) (fun _ => page_put hl (by omega) (by omega) htx) B4
  | false =>
    refine br_f rfl ?_
    unfold zf41.j20
    refine B3.st.base.rB (i := 12) rfl rfl (br_f rfl ?_)
    exact go 0 bs mk h3 (.inl rfl) rfl hl (fun e => by cases e) B3

end
end Go.Back

set_option linter.unusedSimpArgs false
set_option linter.unusedVariables false
set_option maxRecDepth 100000
namespace Go.Back
open Go.Lift Go.Fn Go.Mem Go.Frames

theorem BW.start {h0 h : Heap} {L : List (Nat × HO)} {db dm : Nat} (S : St h0 none_ ((db, .cells [.int .i64 12, .map (some dm), .sl ⟨none, 0, 0⟩] false) :: (dm, .map (.int .i64) [] [] 0) :: L) h) :
    BW h0 L db ⟨db, dm, ⟨none, 0, 0⟩, [], fun _ => False⟩ ⟨12, fun _ => Disk.zeros, []⟩ h := by
  have hfoot : ∀ z, Disk.Lay.Foot ⟨db, dm, ⟨none, 0, 0⟩, [], fun _ => False⟩ z → z = db ∨ z = dm := by
    intro z hz
    rcases hz with h1 | h1 | h1 | h1
    · exact .inl h1
    · exact .inr h1
    · obtain ⟨p, hp, _⟩ := h1; cases hp
    · exact h1.elim
  have hn := S.nodup
  simp only [List.map_cons, List.nodup_cons, List.mem_cons, not_or] at hn
  refine ⟨S.tail.tail, ⟨S.obj i0, ⟨[], 0, S.obj i1, by simp, by simp, rfl⟩, by simp [IKeys], fun i => rfl, .inl ⟨rfl, rfl⟩, fun x hx => hx.elim, fun x hx => ?_, fun e => hn.1.1 e.symm⟩, ⟨by decide, by decide, by simp, fun i => by simp [Disk.zeros], by simp, by simp⟩, rfl, fun b v hb hf => ?_, fun z hz => ?_⟩
  · obtain ⟨p, hp, _⟩ := hx; cases hp
  · have hm : b ∈ L.map (·.1) := List.mem_map.2 ⟨_, hb, rfl⟩
    rcases hfoot b hf with rfl | rfl
    · exact hn.1.2 hm
    · exact hn.2.1 hm
  · rcases hfoot z hz with rfl | rfl
    · rcases S.new _ _ (List.mem_cons_self) with h1 | h1
      · exact h1
      · exact h1.elim
    · rcases S.new _ _ (List.mem_cons_of_mem _ (List.mem_cons_self)) with h1 | h1
      · exact h1
      · exact h1.elim

def hvC (i : Nat) : List V := List.replicate i (.str Disk.zeros) ++ List.replicate (8 - i) (.str [])

theorem hvC_get {i : Nat} (hi : i < 8) : (hvC i)[i]? = some (.str []) := by
  unfold hvC
  rw [List.getElem?_append_right (by simp), List.getElem?_replicate, if_pos (by simp; omega)]

theorem hvC_set {i : Nat} (hi : i < 8) : (hvC i).set i (.str Disk.zeros) = hvC (i + 1) := by
  rcases (by omega : i = 0 ∨ i = 1 ∨ i = 2 ∨ i = 3 ∨ i = 4 ∨ i = 5 ∨ i = 6 ∨ i = 7) with rfl | rfl | rfl | rfl | rfl | rfl | rfl | rfl <;> rfl

section
variable {U U' : Ifc} {x : Nat → Int} {h0 h : Heap}

theorem texts_stage {hv : Nat} {L : List (Nat × HO)} {a1 : Sl} {a2 : Option Ptr} {Q : Bool → Heap → Prop} (S : St h0 none_ ((hv, .cells zf70 false) :: L) h)
    (hk : ∀ cn h', St h0 none_ ((cn, .cells [.int .i64 0, .int .i64 0] false) :: (hv, .cells (hvC 8) false) :: L) h' → zf41.j11 U a1 a2 ⟨hv, 0⟩ ⟨cn, 0⟩ 0 Q h') :
    zf41.j6 U a1 a2 ⟨hv, 0⟩ 0 Q h := by
  unfold zf41.j6
  intro I HI
  have main : ∀ n i : Nat, i + n = 8 → ∀ g, St h0 none_ ((hv, .cells (hvC i) false) :: L) g → I a1 a2 ⟨hv, 0⟩ (i : Int) g := by
    intro n
    induction n with
    | zero =>
      intro i hi g S
      obtain rfl : i = 8 := by omega
      refine HI _ _ _ _ _ ?_
      unfold zf41.b6
      refine br_f rfl ?_
      exact S.al (fun cn h' S' => hk cn h' S')
    | succ n ih =>
      intro i hi g S
      refine HI _ _ _ _ _ ?_
      unfold zf41.b6
      refine br_t (by simp; omega) ?_
      refine mkSl_of (sz := 1) (n := 256) rfl (by omega) (by omega) (fun g1 b O hb k1 => ?_)
      rw [flatRep_bytes] at O
      refine cellsS_of O.held ?_
      rw [bytesOf_str]
      refine ix_of (by omega) (by omega) ?_
      rw [Int.toNat_natCast]
      obtain ⟨rest, mk, ho, _⟩ := O.obj
      have S1 := S.more hb ho k1
      refine S1.wr (i := 1) rfl (u := .str []) (by show (hvC i)[0 + i * 1]? = _; rw [Nat.zero_add, Nat.mul_one]; exact hvC_get (by omega)) (fun g2 S2 => ?_)
      have S3 : St h0 none_ ((hv, .cells (hvC (i + 1)) false) :: L) g2 := by
        have e8 : (hvC i).set (0 + i * 1) (.str (List.replicate 256 0)) = hvC (i + 1) := by rw [Nat.zero_add, Nat.mul_one]; exact hvC_set (by omega)
        have S4 : St h0 none_ ((hv, .cells ((hvC i).set (0 + i * 1) (.str (List.replicate 256 0))) false) :: L) g2 := S2.tail
        rw [e8] at S4
        exact S4
      have e : IntKind.i64.wrap ((i : Int) + 1) = ((i + 1 : Nat) : Int) := by rw [wrap64] <;> omega
      rw [e]
      exact ih (i + 1) (by omega) g2 S3
  exact main 8 0 rfl h S

theorem acts_stage (hu : GU U U') (u : Disk.DU U) (w : Wid U h0 x) (hk8 : knownB x 8 = true) (hk1 : knownB x 1 = true) {G : Nm} {a1 : Sl} (hil : a1.len ≤ 9223372036854775807) (ba : ∀ i, i < a1.len → BActAt h0 a1 i)
    {Q : Bool → Heap → Prop} (hQ : ∀ h, Q true h) {bs : List UInt8} {d : Disk.Dsk} (Wl : Wd G h0 (fun _ => 0) bs d h) : zf41.j11 U a1 (some ⟨G.wb, 0⟩) ⟨G.hv, 0⟩ ⟨G.cn, 0⟩ 0 Q h := by
  unfold zf41.j11
  intro I HI
  have main : ∀ n i : Nat, i + n = 101 → ∀ c bs d g, (∀ j, c j ≤ i) → Wd G h0 c bs d g → I a1 (some ⟨G.wb, 0⟩) ⟨G.hv, 0⟩ ⟨G.cn, 0⟩ (i : Int) g := by
    intro n
    induction n with
    | zero =>
      intro i hi c bs d g hc Wl
      refine HI _ _ _ _ _ _ ?_
      unfold zf41.b11
      by_cases h1 : i < a1.len
      · exact br_t (by simp; omega) (br_f (by simp; omega) (hQ _))
      · exact br_f (by simp; omega) (hQ _)
    | succ n ih =>
      intro i hi c bs d g hc Wl
      refine HI _ _ _ _ _ _ ?_
      by_cases h1 : i < a1.len
      · by_cases h2 : i < 100
        · exact act hu u w hk8 hk1 h1 hil h2 (ba i h1) hc Wl (fun c' bs' d' g' hc' Wl' => ih (i + 1) (by omega) c' bs' d' g' hc' Wl')
        · unfold zf41.b11
          exact br_t (by simp; omega) (br_f (by simp; omega) (hQ _))
      · unfold zf41.b11
        exact br_f (by simp; omega) (hQ _)
  exact main 101 0 rfl _ bs d h (fun _ => Nat.le_refl _) Wl

theorem blocks (hu : GU U U') (u : Disk.DU U) (w : Wid U h0 x) (hk8 : knownB x 8 = true) (hk1 : knownB x 1 = true) (a1 : Sl) (hil : a1.len ≤ 9223372036854775807) (ba : ∀ i, i < a1.len → BActAt h0 a1 i) {Q : Bool → Heap → Prop} (hQ : ∀ h, Q true h) : zf41 U a1 Q h0 := by
  unfold zf41
  refine begin_of (fun wb g0 g1 r0 r1 b0 b1 w0 w1 db dm pm bm fb tm wm mk bt ct bw cw g S ok => ?_)
  refine br_f rfl (S.al (fun hv g2 S2 => texts_stage S2 (fun cn g3 S3 => ?_)))
  have S4 := St.pick (L' := (db, .cells [.int .i64 12, .map (some dm), .sl ⟨none, 0, 0⟩] false) :: (dm, .map (.int .i64) [] [] 0) :: (⟨fb, tm, wm, db, pm, bm, wb, hv, cn, fun k => if k = 0 then b0 else b1, fun k => if k = 0 then r0 else r1, fun k => if k = 0 then w0 else w1, fun k => if k = 0 then g0 else g1⟩ : Nm).L 0 1 (Fc 32) bt ct bw cw 0 0 0 0 (List.replicate 10240 0) mk (cnC fun _ => 0) (have8 fun _ => Disk.zeros) []) S3 [14, 15, 2, 3, 4, 10, 12, 8, 6, 16, 17, 5, 1, 0, 11, 13, 9, 7] (by decide) rfl
  have B := BW.start S4
  exact acts_stage (G := ⟨fb, tm, wm, db, pm, bm, wb, hv, cn, fun k => if k = 0 then b0 else b1, fun k => if k = 0 then r0 else r1, fun k => if k = 0 then w0 else w1, fun k => if k = 0 then g0 else g1⟩) (bs := List.replicate 10240 0) (d := ⟨12, fun _ => Disk.zeros, []⟩) hu u w hk8 hk1 hil ba hQ ⟨Fc 32, mk, bt, ct, bw, cw, 0, 0, ⟨db, dm, ⟨none, 0, 0⟩, [], fun _ => False⟩, ok, frAll0, by rw [List.length_replicate], rfl, rfl, B⟩

end
end Go.Back

import Derived.Test.YtgfnnjnmomifjaaDoorGwT
import Derived.Test.YtgfnnjnmomifjaaDoorStKit
import Derived.Test.YtgfnnjnmomifjaaDoorMem
import Derived.Test.YtgfnnjnmomifjaaDoorArgKit
set_option linter.unusedSimpArgs false
set_option linter.unusedVariables false
set_option maxRecDepth 100000

/- Chains of any parts: offered, taken, told. -/
namespace Go.Back
open Go.Lift Go.Fn Go.Mem Go.Frames

structure Pt where
  a : Int
  l : Int
  w : Bool

def Pt.cells (p : Pt) : List V := [.int .u64 p.a, .int .i64 p.l, .bool p.w]
def pcells : List Pt → List V
  | [] => []
  | p :: ps => p.cells ++ pcells ps

theorem pcells_length : ∀ ps : List Pt, (pcells ps).length = ps.length * 3
  | [] => rfl
  | p :: ps => by simp only [pcells, List.length_append, pcells_length ps, List.length_cons, Pt.cells, List.length_nil]; omega

theorem pcells_append (a b : List Pt) : pcells (a ++ b) = pcells a ++ pcells b := by
  induction a with
  | nil => rfl
  | cons p a ih => simp only [List.cons_append, pcells, ih, List.append_assoc]

theorem pcells_get : ∀ {ps : List Pt} {i : Nat} {p : Pt} {j : Nat} {r : List V}, ps[i]? = some p → j < 3 → (pcells ps ++ r)[i * 3 + j]? = p.cells[j]?
  | [], _, _, _, _, h, _ => by simp at h
  | q :: ps, 0, p, j, r, h, hj => by
    simp at h; subst h
    rw [show pcells (q :: ps) = q.cells ++ pcells ps from rfl, List.append_assoc, List.getElem?_append_left (by simp [Pt.cells]; omega), Nat.zero_mul, Nat.zero_add]
  | q :: ps, i + 1, p, j, r, h, hj => by
    simp only [List.getElem?_cons_succ] at h
    rw [show pcells (q :: ps) = q.cells ++ pcells ps from rfl, List.append_assoc, List.getElem?_append_right (by simp [Pt.cells]; omega)]
    rw [show (i + 1) * 3 + j - q.cells.length = i * 3 + j by simp [Pt.cells]; omega]
    exact pcells_get h hj

/-- Parts that may be offered: only the last one is to be written. -/
structure PtOk (p : Pt) : Prop where
  a : 0 ≤ p.a ∧ p.a ≤ 1000000
  l : 1 ≤ p.l ∧ p.l ≤ 4096

def flg (p : Pt) (more : Bool) : Int := (if p.w then 2 else 0) + (if more then 1 else 0)

theorem flg_ok (p : Pt) (more : Bool) : (0 ≤ flg p more ∧ flg p more ≤ 3) ∧ (ibits .and .u64 (flg p more) 2 != 0) = p.w ∧ (ibits .and .u64 (flg p more) 1 != 0) = more := by
  unfold flg
  cases p.w <;> cases more
  · exact ⟨by decide, rfl, rfl⟩
  · exact ⟨by decide, rfl, rfl⟩
  · exact ⟨by decide, rfl, rfl⟩
  · exact ⟨by decide, rfl, rfl⟩

/-- The descriptors of the parts up to k stand there. -/
def Desc (m : Nat → Int) (ps : List Pt) (k : Nat) : Prop :=
  ∀ i p, i < k → ps[i]? = some p → m (4 * i) = p.a ∧ m (4 * i + 1) = p.l ∧ m (4 * i + 2) = flg p (decide (i + 1 < ps.length)) ∧ m (4 * i + 3) = ((i + 1 : Nat) : Int)

theorem Desc.same {m m' : Nat → Int} {ps : List Pt} {k : Nat} (D : Desc m ps k) (h : ∀ j, j < 4 * k → m' j = m j) : Desc m' ps k := by
  intro i p hi hp
  obtain ⟨h1, h2, h3, h4⟩ := D i p hi hp
  exact ⟨(h _ (by omega)).trans h1, (h _ (by omega)).trans h2, (h _ (by omega)).trans h3, (h _ (by omega)).trans h4⟩

section
variable {U U' : Ifc} {x : Nat → Int} {h0 h : Heap} {W : Nat → Prop}

theorem offer_gen (w : Wid U h0 x) (hw : ¬ W (U.glob 1)) (hk8 : knownB x 8 = true) {pb gb pm bm base cp : Nat} {bs : List UInt8} {mk mkp : Bool} {m : Nat → Int} {ps : List Pt} {rp : List V} (M : MemIs bs base m) (hb : base + 16 ≤ 40) (hps : 1 ≤ ps.length ∧ ps.length ≤ 8) (hok : ∀ p, p ∈ ps → PtOk p)
    (S : St h0 W [(pb, .cells (pcells ps ++ rp) mkp), (gb, .cells (flatC pm (base : Int)) false), (pm, .cells (memC bm) false), (bm, .cells (strCells bs) mk)] h) {Q : Heap → Prop}
    (hq : ∀ bs' m' mk' h', MemIs bs' base m' → Desc m' ps ps.length → m' 32 = 1 → m' 33 = 0 → (∀ j, 41 ≤ j → m' j = m j) → St h0 W [(pb, .cells (pcells ps ++ rp) mkp), (gb, .cells (flatC pm (base : Int)) false), (pm, .cells (memC bm) false), (bm, .cells (strCells bs') mk')] h' → Q h') : palisadelaw24_offer U (some ⟨gb, 0⟩) 0 ⟨some ⟨pb, 0⟩, ps.length, cp⟩ Q h := by
  unfold palisadelaw24_offer palisadelaw24_offer.j1
  intro I HI
  have key : ∀ (j i : Nat) (m1 : Nat → Int) (bs : List UInt8) (mk : Bool) (h : Heap), i + j = ps.length → MemIs bs base m1 → Desc m1 ps i → (∀ j, 32 ≤ j → m1 j = m j) → St h0 W [(pb, .cells (pcells ps ++ rp) mkp), (gb, .cells (flatC pm (base : Int)) false), (pm, .cells (memC bm) false), (bm, .cells (strCells bs) mk)] h → I (some ⟨gb, 0⟩) 0 ⟨some ⟨pb, 0⟩, ps.length, cp⟩ (i : Int) h := by
    intro j
    induction j with
    | zero =>
      intro i m1 bs mk h hij M D hm S
      obtain rfl : i = ps.length := by omega
      refine HI _ _ _ _ _ ?_
      unfold palisadelaw24_offer.b1
      refine br_f (decide_eq_false (by simp)) ?_
      refine nz_of (by decide) ?_
      refine gstore (g := 1) (p := 2) (b := 3) w hw hk8 S rfl rfl rfl (by decide) M hb (k := 33) (by decide) (by decide) (by decide) (by decide) (fun bs2 mk2 g2 M S => ?_)
      simp only [List.set] at S
      refine gstore (g := 1) (p := 2) (b := 3) w hw hk8 S rfl rfl rfl (by decide) M hb (k := 32) (by decide) (by decide) (by decide) (by decide) (fun bs3 mk3 g3 M S => ?_)
      simp only [List.set] at S
      refine hq bs3 _ mk3 _ M (D.same (fun j hj => ?_)) (by unfold upd; rw [if_pos rfl]; decide) (by unfold upd; rw [if_neg (by decide), if_pos rfl]) (fun j hj => ?_) S
      · unfold upd; rw [if_neg (by omega), if_neg (by omega)]
      · unfold upd; rw [if_neg (by omega), if_neg (by omega)]; exact hm j (by omega)
    | succ j ih =>
      intro i m1 bs mk h hij M D hm S
      have hi : i < ps.length := by omega
      have hp : ps[i]? = some ps[i] := List.getElem?_eq_getElem hi
      generalize ps[i] = p at hp
      have pok := hok p (List.mem_of_getElem? hp)
      obtain ⟨pa, pl⟩ := pok
      have c0 : (pcells ps ++ rp)[0 + i * 3 + 0]? = some (.int .u64 p.a) := by rw [Nat.zero_add]; exact (pcells_get hp (by decide)).trans rfl
      have c1 : (pcells ps ++ rp)[0 + i * 3 + 1]? = some (.int .i64 p.l) := by rw [Nat.zero_add]; exact (pcells_get hp (by decide)).trans rfl
      have c2 : (pcells ps ++ rp)[0 + i * 3 + 2]? = some (.bool p.w) := by rw [Nat.zero_add]; exact (pcells_get hp (by decide)).trans rfl
      refine HI _ _ _ _ _ ?_
      unfold palisadelaw24_offer.b1
      refine br_t (decide_eq_true (by show (i : Int) < (ps.length : Int); omega)) (br_t (decide_eq_true (by omega)) (ix_of (by omega) (by show (i : Int) < (ps.length : Int); omega) ?_))
      rw [der_some, Int.toNat_natCast]
      refine S.rB i0 c2 ?_
      have e32 : IntKind.u64.wrap (32 * IntKind.u64.wrap (i : Int)) = ((8 * (4 * i) : Nat) : Int) := by rw [wrapu64 (x := (i : Int)), wrapu64] <;> omega
      have a8 : IntKind.u64.wrap (((8 * (4 * i) : Nat) : Int) + 8) = ((8 * (4 * i + 1) : Nat) : Int) := by rw [wrapu64] <;> omega
      have a16 : IntKind.u64.wrap (((8 * (4 * i) : Nat) : Int) + 16) = ((8 * (4 * i + 2) : Nat) : Int) := by rw [wrapu64] <;> omega
      have a24 : IntKind.u64.wrap (((8 * (4 * i) : Nat) : Int) + 24) = ((8 * (4 * i + 3) : Nat) : Int) := by rw [wrapu64] <;> omega
      have en : IntKind.u64.wrap (IntKind.i64.wrap ((i : Int) + 1)) = ((i + 1 : Nat) : Int) := by rw [wrap64 (x := (i : Int) + 1), wrapu64] <;> omega
      have en2 : IntKind.i64.wrap ((i : Int) + 1) = ((i + 1 : Nat) : Int) := by rw [wrap64] <;> omega
      have el : IntKind.u64.wrap p.l = p.l := wrapu64
      have j8 : palisadelaw24_offer.j8 U I (some ⟨gb, 0⟩) 0 ⟨some ⟨pb, 0⟩, ps.length, cp⟩ (i : Int) (flg p (decide (i + 1 < ps.length))) Q h := by
        have fo := (flg_ok p (decide (i + 1 < ps.length))).1
        unfold palisadelaw24_offer.j8
        refine ix_of (by omega) (by show (i : Int) < (ps.length : Int); omega) ?_
        rw [der_some, Int.toNat_natCast]
        refine S.rI i0 c0 ?_
        rw [e32]
        refine gstore (g := 1) (p := 2) (b := 3) w hw hk8 S rfl rfl rfl (by decide) M hb (k := 4 * i) (by omega) rfl pa.1 (by omega) (fun bs2 mk2 g2 M S => ?_)
        simp only [List.set] at S
        refine ix_of (by omega) (by show (i : Int) < (ps.length : Int); omega) ?_
        rw [der_some, Int.toNat_natCast]
        refine S.rI i0 c1 ?_
        rw [el, a8]
        refine gstore (g := 1) (p := 2) (b := 3) w hw hk8 S rfl rfl rfl (by decide) M hb (k := 4 * i + 1) (by omega) rfl (by omega) (by omega) (fun bs3 mk3 g3 M S => ?_)
        simp only [List.set] at S
        rw [a16]
        refine gstore (g := 1) (p := 2) (b := 3) w hw hk8 S rfl rfl rfl (by decide) M hb (k := 4 * i + 2) (by omega) rfl fo.1 (by omega) (fun bs4 mk4 g4 M S => ?_)
        simp only [List.set] at S
        unfold palisadelaw24_offer.j12
        rw [a24, en]
        refine gstore (g := 1) (p := 2) (b := 3) w hw hk8 S rfl rfl rfl (by decide) M hb (k := 4 * i + 3) (by omega) rfl (by omega) (by omega) (fun bs5 mk5 g5 M S => ?_)
        simp only [List.set] at S
        unfold palisadelaw24_offer.j2
        rw [en2]
        refine ih (i + 1) _ bs5 mk5 g5 (by omega) M (fun i' p' hi' hp' => ?_) (fun j hj => ?_) S
        · unfold upd
          by_cases e : i' = i
          · subst e
            rw [hp] at hp'; cases hp'
            refine ⟨?_, ?_, ?_, ?_⟩
            · rw [if_neg (by omega), if_neg (by omega), if_neg (by omega), if_pos rfl]
            · rw [if_neg (by omega), if_neg (by omega), if_pos rfl]
            · rw [if_neg (by omega), if_pos rfl]
            · rw [if_pos rfl]
          · obtain ⟨h1, h2, h3, h4⟩ := D i' p' (by omega) hp'
            refine ⟨?_, ?_, ?_, ?_⟩
            · rw [if_neg (by omega), if_neg (by omega), if_neg (by omega), if_neg (by omega)]; exact h1
            · rw [if_neg (by omega), if_neg (by omega), if_neg (by omega), if_neg (by omega)]; exact h2
            · rw [if_neg (by omega), if_neg (by omega), if_neg (by omega), if_neg (by omega)]; exact h3
            · rw [if_neg (by omega), if_neg (by omega), if_neg (by omega), if_neg (by omega)]; exact h4
        · unfold upd
          rw [if_neg (by omega), if_neg (by omega), if_neg (by omega), if_neg (by omega)]
          exact hm j hj
      have j6 : ∀ f : Int, f = (if p.w then 2 else 0) → palisadelaw24_offer.j6 U I (some ⟨gb, 0⟩) 0 ⟨some ⟨pb, 0⟩, ps.length, cp⟩ (i : Int) f Q h := by
        intro f hf
        unfold palisadelaw24_offer.j6
        by_cases e : i + 1 < ps.length
        · refine br_t (decide_eq_true (by rw [en2]; show ((i + 1 : Nat) : Int) < (ps.length : Int); omega)) (br_t (decide_eq_true (by omega)) ?_)
          have : IntKind.u64.wrap (f + 1) = flg p (decide (i + 1 < ps.length)) := by
            rw [hf, decide_eq_true e]; unfold flg; cases p.w <;> decide
          rw [this]; exact j8
        · refine br_f (decide_eq_false (by rw [en2]; show ¬ ((i + 1 : Nat) : Int) < (ps.length : Int); omega)) ?_
          have : f = flg p (decide (i + 1 < ps.length)) := by
            rw [hf, decide_eq_false e]; unfold flg; cases p.w <;> decide
          rw [this]; exact j8
      cases hpw : p.w
      · exact br_f rfl (j6 0 (by rw [hpw]; rfl))
      · exact br_t rfl (j6 2 (by rw [hpw]; rfl))
  exact key ps.length 0 m bs mk h (by omega) M (fun i p hi => by omega) (fun _ _ => rfl) S

end
end Go.Back

/- A chain of any parts is taken. -/
namespace Go.Back
open Go.Lift Go.Fn Go.Mem Go.Frames

section
variable {U U' : Ifc} {x : Nat → Int} {h0 h : Heap} {W : Nat → Prop}

theorem chain_gen (hu : GU U U') (w : Wid U' h0 x) (hw : ¬ W (U'.glob 1)) (hk8 : knownB x 8 = true) {rd rg gb pm bm base : Nat} {bs : List UInt8} {mk : Bool} {m : Nat → Int} {t gv : Int} {ps : List Pt} (M : MemIs bs base m) (hb : base + 16 ≤ 40) (hps : 1 ≤ ps.length ∧ ps.length ≤ 8) (hok : ∀ p, p ∈ ps → PtOk p) (hwr : ∀ (i : Nat) p q, ps[i]? = some p → ps[i + 1]? = some q → p.w = true → q.w = true) (D : Desc m ps ps.length)
    (S : St h0 W [(rd, .cells (rdC gb) false), (rg, .cells (ringC (t : Int) gv false) false), (gb, .cells (flatC pm (base : Int)) false), (pm, .cells (memC bm) false), (bm, .cells (strCells bs) mk)] h)
    {Q : Int → Sl → Bool → Heap → Prop} (hq : ∀ cb c rest mk' h', St h0 W [(cb, .cells (pcells (ps) ++ rest) mk'), (rd, .cells (rdC gb) false), (rg, .cells (ringC (t : Int) gv false) false), (gb, .cells (flatC pm (base : Int)) false), (pm, .cells (memC bm) false), (bm, .cells (strCells bs) mk)] h' → Q 0 ⟨some ⟨cb, 0⟩, ps.length, c⟩ true h') :
    ring_Ring_chain U (some ⟨rg, 0⟩) (some ⟨rd, 0⟩) 0 Q h := by
  unfold ring_Ring_chain
  ((with_reducible apply St.al); assumption; intro c1 g_ S_)
  repeat (first | ((with_reducible first|apply St.rI|apply St.rB|apply St.rP|apply St.rSl|apply St.rV|apply St.rM|apply St.rS|apply St.rN|apply St.ckA);assumption;(first|exact i0|exact i1|exact i2|exact i3|exact i4|exact i5|exact i6|exact i7|exact i8|exact i9|exact i10|exact i11|exact i12|exact i13|exact i14|exact i15);(first|rfl|exact Nat.le_of_ble_eq_true rfl)) | with_reducible refine der_of ?_ | ((with_reducible refine br_t ?_ ?_);rfl) | ((with_reducible refine br_f ?_ ?_);rfl) | ((with_reducible refine br_t ?_ ?_);assumption) | ((with_reducible refine br_f ?_ ?_);assumption) | ((with_reducible first|apply St.wrL|apply St.wr);assumption;(first|exact i0|exact i1|exact i2|exact i3|exact i4|exact i5|exact i6|exact i7|exact i8|exact i9|exact i10|exact i11|exact i12|exact i13|exact i14|exact i15);(first|exact Nat.le_of_ble_eq_true rfl|rfl);intro g_ S_;simp only [Ptr.add, List.set, splice, List.take, List.drop, List.nil_append, List.append_nil, List.cons_append, List.length_cons, List.length_nil, Nat.zero_add, Nat.add_zero, Nat.reduceAdd, Nat.reduceMul, Nat.mul_one, Int.toNat_zero, Int.toNat_one, Int.reduceToNat] at S_) | ((with_reducible refine ix_of ?_ ?_ ?_);exact of_decide_eq_true rfl;exact of_decide_eq_true rfl) | ((with_reducible first|refine nz_of ?_ ?_|refine nneg_of ?_ ?_);exact of_decide_eq_true rfl) | ((with_reducible refine chk_of ?_ ?_);rfl) | (with_reducible first|apply asI_of|apply asB_of|apply asP_of|apply asSl_of|apply asAggV_of|apply asTupV_of|apply asCons_of|apply asNil_of|apply isNil_n|apply isNil_i|apply nilC_i|apply nilCU_i|apply nilCU_f|apply mthC_i) | ((with_reducible refine And.intro ?_ ?_);rfl) | ((with_reducible apply exAnd);rfl))
  unfold ring_Ring_chain.j3
  intro I HI
  -- the end, and the next round, behind a part that was appended
  have step : ∀ (i : Nat) (p : Pt) (cb c c1 d : Nat) (rest : List V) (mk' : Bool) (g : Heap), i < ps.length → ps[i]? = some p →
      (i + 1 < ps.length → ∀ cb c rest mk' g', St h0 W [(cb, .cells (pcells (ps.take (i + 1)) ++ rest) mk'), (c1, .cells [.int .i64 0, .sl ⟨some ⟨cb, 0⟩, i + 1, c⟩] false), (rd, .cells (rdC gb) false), (rg, .cells (ringC (t : Int) gv false) false), (gb, .cells (flatC pm (base : Int)) false), (pm, .cells (memC bm) false), (bm, .cells (strCells bs) mk)] g' → i + 1 ≤ c → rest.length = (c - (i + 1)) * 3 → I (some ⟨rg, 0⟩) (some ⟨rd, 0⟩) 0 ⟨c1, 0⟩ false ((i + 1 : Nat) : Int) 8 ((i + 1 : Nat) : Int) g') →
      St h0 W [(cb, .cells (pcells (ps.take i) ++ rest) mk'), (d, .cells p.cells false), (c1, .cells [.int .i64 0, .sl ⟨some ⟨cb, 0⟩, i, c⟩] false), (rd, .cells (rdC gb) false), (rg, .cells (ringC (t : Int) gv false) false), (gb, .cells (flatC pm (base : Int)) false), (pm, .cells (memC bm) false), (bm, .cells (strCells bs) mk)] g → 1 ≤ i → i ≤ c → rest.length = (c - i) * 3 →
      ring_Ring_chain.j10 U I (some ⟨rg, 0⟩) (some ⟨rd, 0⟩) 0 ⟨c1, 0⟩ ⟨d, 0⟩ ((i + 1 : Nat) : Int) (decide (i + 1 < ps.length)) 8 (i : Int) Q g := by
    intro i p cb c c1 d rest mk' g hi hp hnext S hi1 hc hr
    have et : ps.take i ++ [p] = ps.take (i + 1) := by rw [List.take_add_one, hp]; rfl
    have ew : IntKind.u64.wrap ((i : Int) + 1) = ((i + 1 : Nat) : Int) := by rw [wrapu64] <;> omega
    unfold Pt.cells at S
    unfold ring_Ring_chain.j10
    repeat (first | ((with_reducible first|apply St.rI|apply St.rB|apply St.rP|apply St.rSl|apply St.rV|apply St.rM|apply St.rS|apply St.rN|apply St.ckA);assumption;(first|exact i0|exact i1|exact i2|exact i3|exact i4|exact i5|exact i6|exact i7|exact i8|exact i9|exact i10|exact i11|exact i12|exact i13|exact i14|exact i15);(first|rfl|exact Nat.le_of_ble_eq_true rfl)) | with_reducible refine der_of ?_ | ((with_reducible refine br_t ?_ ?_);rfl) | ((with_reducible refine br_f ?_ ?_);rfl) | ((with_reducible refine br_t ?_ ?_);assumption) | ((with_reducible refine br_f ?_ ?_);assumption) | ((with_reducible first|apply St.wrL|apply St.wr);assumption;(first|exact i0|exact i1|exact i2|exact i3|exact i4|exact i5|exact i6|exact i7|exact i8|exact i9|exact i10|exact i11|exact i12|exact i13|exact i14|exact i15);(first|exact Nat.le_of_ble_eq_true rfl|rfl);intro g_ S_;simp only [Ptr.add, List.set, splice, List.take, List.drop, List.nil_append, List.append_nil, List.cons_append, List.length_cons, List.length_nil, Nat.zero_add, Nat.add_zero, Nat.reduceAdd, Nat.reduceMul, Nat.mul_one, Int.toNat_zero, Int.toNat_one, Int.reduceToNat] at S_) | ((with_reducible refine ix_of ?_ ?_ ?_);exact of_decide_eq_true rfl;exact of_decide_eq_true rfl) | ((with_reducible first|refine nz_of ?_ ?_|refine nneg_of ?_ ?_);exact of_decide_eq_true rfl) | ((with_reducible refine chk_of ?_ ?_);rfl) | (with_reducible first|apply asI_of|apply asB_of|apply asP_of|apply asSl_of|apply asAggV_of|apply asTupV_of|apply asCons_of|apply asNil_of|apply isNil_n|apply isNil_i|apply nilC_i|apply nilCU_i|apply nilCU_f|apply mthC_i) | ((with_reducible refine And.intro ?_ ?_);rfl) | ((with_reducible apply exAnd);rfl))
    ((with_reducible apply St.al); assumption; intro e2 g_ S_)
    repeat (first | ((with_reducible first|apply St.rI|apply St.rB|apply St.rP|apply St.rSl|apply St.rV|apply St.rM|apply St.rS|apply St.rN|apply St.ckA);assumption;(first|exact i0|exact i1|exact i2|exact i3|exact i4|exact i5|exact i6|exact i7|exact i8|exact i9|exact i10|exact i11|exact i12|exact i13|exact i14|exact i15);(first|rfl|exact Nat.le_of_ble_eq_true rfl)) | with_reducible refine der_of ?_ | ((with_reducible refine br_t ?_ ?_);rfl) | ((with_reducible refine br_f ?_ ?_);rfl) | ((with_reducible refine br_t ?_ ?_);assumption) | ((with_reducible refine br_f ?_ ?_);assumption) | ((with_reducible first|apply St.wrL|apply St.wr);assumption;(first|exact i0|exact i1|exact i2|exact i3|exact i4|exact i5|exact i6|exact i7|exact i8|exact i9|exact i10|exact i11|exact i12|exact i13|exact i14|exact i15);(first|exact Nat.le_of_ble_eq_true rfl|rfl);intro g_ S_;simp only [Ptr.add, List.set, splice, List.take, List.drop, List.nil_append, List.append_nil, List.cons_append, List.length_cons, List.length_nil, Nat.zero_add, Nat.add_zero, Nat.reduceAdd, Nat.reduceMul, Nat.mul_one, Int.toNat_zero, Int.toNat_one, Int.reduceToNat] at S_) | ((with_reducible refine ix_of ?_ ?_ ?_);exact of_decide_eq_true rfl;exact of_decide_eq_true rfl) | ((with_reducible first|refine nz_of ?_ ?_|refine nneg_of ?_ ?_);exact of_decide_eq_true rfl) | ((with_reducible refine chk_of ?_ ?_);rfl) | (with_reducible first|apply asI_of|apply asB_of|apply asP_of|apply asSl_of|apply asAggV_of|apply asTupV_of|apply asCons_of|apply asNil_of|apply isNil_n|apply isNil_i|apply nilC_i|apply nilCU_i|apply nilCU_f|apply mthC_i) | ((with_reducible refine And.intro ?_ ?_);rfl) | ((with_reducible apply exAnd);rfl))
    have S4 : St h0 W [(cb, .cells (pcells (ps.take i) ++ rest) mk'), (c1, .cells [.int .i64 0, .sl ⟨some ⟨cb, 0⟩, i, c⟩] false), (rd, .cells (rdC gb) false), (rg, .cells (ringC (t : Int) gv false) false), (gb, .cells (flatC pm (base : Int)) false), (pm, .cells (memC bm) false), (bm, .cells (strCells bs) mk)] g_ := St.pick S_ [1, 3, 4, 5, 6, 7, 8] (by decide) rfl
    clear S_ S
    refine app_own S4 (by rw [pcells_length, List.length_take]; omega) hc hr rfl rfl (by decide) (by omega) (fun cb c rest mk' g2 S2 hc hr => ?_)
    have e3 : pcells (ps.take i) ++ [V.int .u64 p.a, V.int .i64 p.l, V.bool p.w] = pcells (ps.take (i + 1)) := by
      rw [← et, pcells_append]; rfl
    simp only [List.take, List.drop] at S2
    rw [e3] at S2
    clear S4
    repeat (first | ((with_reducible first|apply St.rI|apply St.rB|apply St.rP|apply St.rSl|apply St.rV|apply St.rM|apply St.rS|apply St.rN|apply St.ckA);assumption;(first|exact i0|exact i1|exact i2|exact i3|exact i4|exact i5|exact i6|exact i7|exact i8|exact i9|exact i10|exact i11|exact i12|exact i13|exact i14|exact i15);(first|rfl|exact Nat.le_of_ble_eq_true rfl)) | with_reducible refine der_of ?_ | ((with_reducible refine br_t ?_ ?_);rfl) | ((with_reducible refine br_f ?_ ?_);rfl) | ((with_reducible refine br_t ?_ ?_);assumption) | ((with_reducible refine br_f ?_ ?_);assumption) | ((with_reducible first|apply St.wrL|apply St.wr);assumption;(first|exact i0|exact i1|exact i2|exact i3|exact i4|exact i5|exact i6|exact i7|exact i8|exact i9|exact i10|exact i11|exact i12|exact i13|exact i14|exact i15);(first|exact Nat.le_of_ble_eq_true rfl|rfl);intro g_ S_;simp only [Ptr.add, List.set, splice, List.take, List.drop, List.nil_append, List.append_nil, List.cons_append, List.length_cons, List.length_nil, Nat.zero_add, Nat.add_zero, Nat.reduceAdd, Nat.reduceMul, Nat.mul_one, Int.toNat_zero, Int.toNat_one, Int.reduceToNat] at S_) | ((with_reducible refine ix_of ?_ ?_ ?_);exact of_decide_eq_true rfl;exact of_decide_eq_true rfl) | ((with_reducible first|refine nz_of ?_ ?_|refine nneg_of ?_ ?_);exact of_decide_eq_true rfl) | ((with_reducible refine chk_of ?_ ?_);rfl) | (with_reducible first|apply asI_of|apply asB_of|apply asP_of|apply asSl_of|apply asAggV_of|apply asTupV_of|apply asCons_of|apply asNil_of|apply isNil_n|apply isNil_i|apply nilC_i|apply nilCU_i|apply nilCU_f|apply mthC_i) | ((with_reducible refine And.intro ?_ ?_);rfl) | ((with_reducible apply exAnd);rfl))
    by_cases e : i + 1 < ps.length
    · rw [decide_eq_true e]
      repeat (first | ((with_reducible first|apply St.rI|apply St.rB|apply St.rP|apply St.rSl|apply St.rV|apply St.rM|apply St.rS|apply St.rN|apply St.ckA);assumption;(first|exact i0|exact i1|exact i2|exact i3|exact i4|exact i5|exact i6|exact i7|exact i8|exact i9|exact i10|exact i11|exact i12|exact i13|exact i14|exact i15);(first|rfl|exact Nat.le_of_ble_eq_true rfl)) | with_reducible refine der_of ?_ | ((with_reducible refine br_t ?_ ?_);rfl) | ((with_reducible refine br_f ?_ ?_);rfl) | ((with_reducible refine br_t ?_ ?_);assumption) | ((with_reducible refine br_f ?_ ?_);assumption) | ((with_reducible first|apply St.wrL|apply St.wr);assumption;(first|exact i0|exact i1|exact i2|exact i3|exact i4|exact i5|exact i6|exact i7|exact i8|exact i9|exact i10|exact i11|exact i12|exact i13|exact i14|exact i15);(first|exact Nat.le_of_ble_eq_true rfl|rfl);intro g_ S_;simp only [Ptr.add, List.set, splice, List.take, List.drop, List.nil_append, List.append_nil, List.cons_append, List.length_cons, List.length_nil, Nat.zero_add, Nat.add_zero, Nat.reduceAdd, Nat.reduceMul, Nat.mul_one, Int.toNat_zero, Int.toNat_one, Int.reduceToNat] at S_) | ((with_reducible refine ix_of ?_ ?_ ?_);exact of_decide_eq_true rfl;exact of_decide_eq_true rfl) | ((with_reducible first|refine nz_of ?_ ?_|refine nneg_of ?_ ?_);exact of_decide_eq_true rfl) | ((with_reducible refine chk_of ?_ ?_);rfl) | (with_reducible first|apply asI_of|apply asB_of|apply asP_of|apply asSl_of|apply asAggV_of|apply asTupV_of|apply asCons_of|apply asNil_of|apply isNil_n|apply isNil_i|apply nilC_i|apply nilCU_i|apply nilCU_f|apply mthC_i) | ((with_reducible refine And.intro ?_ ?_);rfl) | ((with_reducible apply exAnd);rfl))
      rw [ew]
      exact hnext e cb c rest mk' _ (St.pick S_ [0, 1, 2, 3, 4, 5, 6] (by decide) rfl) hc hr
    · rw [decide_eq_false e]
      repeat (first | ((with_reducible first|apply St.rI|apply St.rB|apply St.rP|apply St.rSl|apply St.rV|apply St.rM|apply St.rS|apply St.rN|apply St.ckA);assumption;(first|exact i0|exact i1|exact i2|exact i3|exact i4|exact i5|exact i6|exact i7|exact i8|exact i9|exact i10|exact i11|exact i12|exact i13|exact i14|exact i15);(first|rfl|exact Nat.le_of_ble_eq_true rfl)) | with_reducible refine der_of ?_ | ((with_reducible refine br_t ?_ ?_);rfl) | ((with_reducible refine br_f ?_ ?_);rfl) | ((with_reducible refine br_t ?_ ?_);assumption) | ((with_reducible refine br_f ?_ ?_);assumption) | ((with_reducible first|apply St.wrL|apply St.wr);assumption;(first|exact i0|exact i1|exact i2|exact i3|exact i4|exact i5|exact i6|exact i7|exact i8|exact i9|exact i10|exact i11|exact i12|exact i13|exact i14|exact i15);(first|exact Nat.le_of_ble_eq_true rfl|rfl);intro g_ S_;simp only [Ptr.add, List.set, splice, List.take, List.drop, List.nil_append, List.append_nil, List.cons_append, List.length_cons, List.length_nil, Nat.zero_add, Nat.add_zero, Nat.reduceAdd, Nat.reduceMul, Nat.mul_one, Int.toNat_zero, Int.toNat_one, Int.reduceToNat] at S_) | ((with_reducible refine ix_of ?_ ?_ ?_);exact of_decide_eq_true rfl;exact of_decide_eq_true rfl) | ((with_reducible first|refine nz_of ?_ ?_|refine nneg_of ?_ ?_);exact of_decide_eq_true rfl) | ((with_reducible refine chk_of ?_ ?_);rfl) | (with_reducible first|apply asI_of|apply asB_of|apply asP_of|apply asSl_of|apply asAggV_of|apply asTupV_of|apply asCons_of|apply asNil_of|apply isNil_n|apply isNil_i|apply nilC_i|apply nilCU_i|apply nilCU_f|apply mthC_i) | ((with_reducible refine And.intro ?_ ?_);rfl) | ((with_reducible apply exAnd);rfl))
      have e4 : i + 1 = ps.length := by omega
      rw [e4, List.take_length] at S_
      rw [e4]
      exact hq cb c rest mk' _ (St.pick S_ [0, 2, 3, 4, 5, 6] (by decide) rfl)
  have key : ∀ (j i : Nat) (c1 cb c : Nat) (rest : List V) (mk' : Bool) (g : Heap), i + j = ps.length → 1 ≤ i → 1 ≤ j → St h0 W [(cb, .cells (pcells (ps.take i) ++ rest) mk'), (c1, .cells [.int .i64 0, .sl ⟨some ⟨cb, 0⟩, i, c⟩] false), (rd, .cells (rdC gb) false), (rg, .cells (ringC (t : Int) gv false) false), (gb, .cells (flatC pm (base : Int)) false), (pm, .cells (memC bm) false), (bm, .cells (strCells bs) mk)] g → i ≤ c → rest.length = (c - i) * 3 → I (some ⟨rg, 0⟩) (some ⟨rd, 0⟩) 0 ⟨c1, 0⟩ false (i : Int) 8 (i : Int) g := by
    intro j
    induction j with
    | zero => intro i c1 cb c rest mk' g hij hi hj; omega
    | succ j ih =>
      intro i c1 cb c rest mk' g hij hi hj S hc hr
      have hil : i < ps.length := by omega
      have hp : ps[i]? = some ps[i] := List.getElem?_eq_getElem hil
      generalize ps[i] = p at hp
      obtain ⟨d0, d1, d2, d3⟩ := D i p hil hp
      have pok := hok p (List.mem_of_getElem? hp)
      have fo := flg_ok p (decide (i + 1 < ps.length))
      have hp1 : ps[i - 1]? = some ps[i - 1] := List.getElem?_eq_getElem (by omega)
      generalize ps[i - 1] = p1 at hp1
      have w1 := hwr (i - 1) p1 p hp1 (by rw [show i - 1 + 1 = i by omega]; exact hp)
      have hpt : (ps.take i)[i - 1]? = some p1 := by rw [List.getElem?_take_of_lt (by omega)]; exact hp1
      have c2 : (pcells (ps.take i) ++ rest)[0 + (i - 1) * 3 + 2]? = some (.bool p1.w) := by rw [Nat.zero_add, pcells_get hpt (by decide)]; rfl
      refine HI _ _ _ _ _ _ _ _ _ ?_
      unfold ring_Ring_chain.b3
      refine br_t (decide_eq_true (by omega)) ?_
      repeat (first | ((with_reducible first|apply St.rI|apply St.rB|apply St.rP|apply St.rSl|apply St.rV|apply St.rM|apply St.rS|apply St.rN|apply St.ckA);assumption;(first|exact i0|exact i1|exact i2|exact i3|exact i4|exact i5|exact i6|exact i7|exact i8|exact i9|exact i10|exact i11|exact i12|exact i13|exact i14|exact i15);(first|rfl|exact Nat.le_of_ble_eq_true rfl)) | with_reducible refine der_of ?_ | ((with_reducible refine br_t ?_ ?_);rfl) | ((with_reducible refine br_f ?_ ?_);rfl) | ((with_reducible refine br_t ?_ ?_);assumption) | ((with_reducible refine br_f ?_ ?_);assumption) | ((with_reducible first|apply St.wrL|apply St.wr);assumption;(first|exact i0|exact i1|exact i2|exact i3|exact i4|exact i5|exact i6|exact i7|exact i8|exact i9|exact i10|exact i11|exact i12|exact i13|exact i14|exact i15);(first|exact Nat.le_of_ble_eq_true rfl|rfl);intro g_ S_;simp only [Ptr.add, List.set, splice, List.take, List.drop, List.nil_append, List.append_nil, List.cons_append, List.length_cons, List.length_nil, Nat.zero_add, Nat.add_zero, Nat.reduceAdd, Nat.reduceMul, Nat.mul_one, Int.toNat_zero, Int.toNat_one, Int.reduceToNat] at S_) | ((with_reducible refine ix_of ?_ ?_ ?_);exact of_decide_eq_true rfl;exact of_decide_eq_true rfl) | ((with_reducible first|refine nz_of ?_ ?_|refine nneg_of ?_ ?_);exact of_decide_eq_true rfl) | ((with_reducible refine chk_of ?_ ?_);rfl) | (with_reducible first|apply asI_of|apply asB_of|apply asP_of|apply asSl_of|apply asAggV_of|apply asTupV_of|apply asCons_of|apply asNil_of|apply isNil_n|apply isNil_i|apply nilC_i|apply nilCU_i|apply nilCU_f|apply mthC_i) | ((with_reducible refine And.intro ?_ ?_);rfl) | ((with_reducible apply exAnd);rfl))
      refine br_f (decide_eq_false (by omega)) ?_
      repeat (first | ((with_reducible first|apply St.rI|apply St.rB|apply St.rP|apply St.rSl|apply St.rV|apply St.rM|apply St.rS|apply St.rN|apply St.ckA);assumption;(first|exact i0|exact i1|exact i2|exact i3|exact i4|exact i5|exact i6|exact i7|exact i8|exact i9|exact i10|exact i11|exact i12|exact i13|exact i14|exact i15);(first|rfl|exact Nat.le_of_ble_eq_true rfl)) | with_reducible refine der_of ?_ | ((with_reducible refine br_t ?_ ?_);rfl) | ((with_reducible refine br_f ?_ ?_);rfl) | ((with_reducible refine br_t ?_ ?_);assumption) | ((with_reducible refine br_f ?_ ?_);assumption) | ((with_reducible first|apply St.wrL|apply St.wr);assumption;(first|exact i0|exact i1|exact i2|exact i3|exact i4|exact i5|exact i6|exact i7|exact i8|exact i9|exact i10|exact i11|exact i12|exact i13|exact i14|exact i15);(first|exact Nat.le_of_ble_eq_true rfl|rfl);intro g_ S_;simp only [Ptr.add, List.set, splice, List.take, List.drop, List.nil_append, List.append_nil, List.cons_append, List.length_cons, List.length_nil, Nat.zero_add, Nat.add_zero, Nat.reduceAdd, Nat.reduceMul, Nat.mul_one, Int.toNat_zero, Int.toNat_one, Int.reduceToNat] at S_) | ((with_reducible refine ix_of ?_ ?_ ?_);exact of_decide_eq_true rfl;exact of_decide_eq_true rfl) | ((with_reducible first|refine nz_of ?_ ?_|refine nneg_of ?_ ?_);exact of_decide_eq_true rfl) | ((with_reducible refine chk_of ?_ ?_);rfl) | (with_reducible first|apply asI_of|apply asB_of|apply asP_of|apply asSl_of|apply asAggV_of|apply asTupV_of|apply asCons_of|apply asNil_of|apply isNil_n|apply isNil_i|apply nilC_i|apply nilCU_i|apply nilCU_f|apply mthC_i) | ((with_reducible refine And.intro ?_ ?_);rfl) | ((with_reducible apply exAnd);rfl))
      refine part (r := 2) (g := 4) (p := 5) (b := 6) (i := i) hu w hw hk8 S rfl rfl rfl rfl (by decide) M hb (by omega) (by rw [wrapu64 (x := 32 * (i : Int)), wrapu64] <;> omega) d0 d1 d2 d3 pok.l fo.1 pok.a (fun g1 S1 => ?_)
      rw [fo.2.1, fo.2.2]
      ((with_reducible apply St.al); assumption; intro d g_ S_)
      repeat (first | ((with_reducible first|apply St.rI|apply St.rB|apply St.rP|apply St.rSl|apply St.rV|apply St.rM|apply St.rS|apply St.rN|apply St.ckA);assumption;(first|exact i0|exact i1|exact i2|exact i3|exact i4|exact i5|exact i6|exact i7|exact i8|exact i9|exact i10|exact i11|exact i12|exact i13|exact i14|exact i15);(first|rfl|exact Nat.le_of_ble_eq_true rfl)) | with_reducible refine der_of ?_ | ((with_reducible refine br_t ?_ ?_);rfl) | ((with_reducible refine br_f ?_ ?_);rfl) | ((with_reducible refine br_t ?_ ?_);assumption) | ((with_reducible refine br_f ?_ ?_);assumption) | ((with_reducible first|apply St.wrL|apply St.wr);assumption;(first|exact i0|exact i1|exact i2|exact i3|exact i4|exact i5|exact i6|exact i7|exact i8|exact i9|exact i10|exact i11|exact i12|exact i13|exact i14|exact i15);(first|exact Nat.le_of_ble_eq_true rfl|rfl);intro g_ S_;simp only [Ptr.add, List.set, splice, List.take, List.drop, List.nil_append, List.append_nil, List.cons_append, List.length_cons, List.length_nil, Nat.zero_add, Nat.add_zero, Nat.reduceAdd, Nat.reduceMul, Nat.mul_one, Int.toNat_zero, Int.toNat_one, Int.reduceToNat] at S_) | ((with_reducible refine ix_of ?_ ?_ ?_);exact of_decide_eq_true rfl;exact of_decide_eq_true rfl) | ((with_reducible first|refine nz_of ?_ ?_|refine nneg_of ?_ ?_);exact of_decide_eq_true rfl) | ((with_reducible refine chk_of ?_ ?_);rfl) | (with_reducible first|apply asI_of|apply asB_of|apply asP_of|apply asSl_of|apply asAggV_of|apply asTupV_of|apply asCons_of|apply asNil_of|apply isNil_n|apply isNil_i|apply nilC_i|apply nilCU_i|apply nilCU_f|apply mthC_i) | ((with_reducible refine And.intro ?_ ?_);rfl) | ((with_reducible apply exAnd);rfl))
      unfold ring_Ring_chain.j8
      repeat (first | ((with_reducible first|apply St.rI|apply St.rB|apply St.rP|apply St.rSl|apply St.rV|apply St.rM|apply St.rS|apply St.rN|apply St.ckA);assumption;(first|exact i0|exact i1|exact i2|exact i3|exact i4|exact i5|exact i6|exact i7|exact i8|exact i9|exact i10|exact i11|exact i12|exact i13|exact i14|exact i15);(first|rfl|exact Nat.le_of_ble_eq_true rfl)) | with_reducible refine der_of ?_ | ((with_reducible refine br_t ?_ ?_);rfl) | ((with_reducible refine br_f ?_ ?_);rfl) | ((with_reducible refine br_t ?_ ?_);assumption) | ((with_reducible refine br_f ?_ ?_);assumption) | ((with_reducible first|apply St.wrL|apply St.wr);assumption;(first|exact i0|exact i1|exact i2|exact i3|exact i4|exact i5|exact i6|exact i7|exact i8|exact i9|exact i10|exact i11|exact i12|exact i13|exact i14|exact i15);(first|exact Nat.le_of_ble_eq_true rfl|rfl);intro g_ S_;simp only [Ptr.add, List.set, splice, List.take, List.drop, List.nil_append, List.append_nil, List.cons_append, List.length_cons, List.length_nil, Nat.zero_add, Nat.add_zero, Nat.reduceAdd, Nat.reduceMul, Nat.mul_one, Int.toNat_zero, Int.toNat_one, Int.reduceToNat] at S_) | ((with_reducible refine ix_of ?_ ?_ ?_);exact of_decide_eq_true rfl;exact of_decide_eq_true rfl) | ((with_reducible first|refine nz_of ?_ ?_|refine nneg_of ?_ ?_);exact of_decide_eq_true rfl) | ((with_reducible refine chk_of ?_ ?_);rfl) | (with_reducible first|apply asI_of|apply asB_of|apply asP_of|apply asSl_of|apply asAggV_of|apply asTupV_of|apply asCons_of|apply asNil_of|apply isNil_n|apply isNil_i|apply nilC_i|apply nilCU_i|apply nilCU_f|apply mthC_i) | ((with_reducible refine And.intro ?_ ?_);rfl) | ((with_reducible apply exAnd);rfl))
      refine br_t (decide_eq_true (by show (i : Int) > 0; omega)) ?_
      repeat (first | ((with_reducible first|apply St.rI|apply St.rB|apply St.rP|apply St.rSl|apply St.rV|apply St.rM|apply St.rS|apply St.rN|apply St.ckA);assumption;(first|exact i0|exact i1|exact i2|exact i3|exact i4|exact i5|exact i6|exact i7|exact i8|exact i9|exact i10|exact i11|exact i12|exact i13|exact i14|exact i15);(first|rfl|exact Nat.le_of_ble_eq_true rfl)) | with_reducible refine der_of ?_ | ((with_reducible refine br_t ?_ ?_);rfl) | ((with_reducible refine br_f ?_ ?_);rfl) | ((with_reducible refine br_t ?_ ?_);assumption) | ((with_reducible refine br_f ?_ ?_);assumption) | ((with_reducible first|apply St.wrL|apply St.wr);assumption;(first|exact i0|exact i1|exact i2|exact i3|exact i4|exact i5|exact i6|exact i7|exact i8|exact i9|exact i10|exact i11|exact i12|exact i13|exact i14|exact i15);(first|exact Nat.le_of_ble_eq_true rfl|rfl);intro g_ S_;simp only [Ptr.add, List.set, splice, List.take, List.drop, List.nil_append, List.append_nil, List.cons_append, List.length_cons, List.length_nil, Nat.zero_add, Nat.add_zero, Nat.reduceAdd, Nat.reduceMul, Nat.mul_one, Int.toNat_zero, Int.toNat_one, Int.reduceToNat] at S_) | ((with_reducible refine ix_of ?_ ?_ ?_);exact of_decide_eq_true rfl;exact of_decide_eq_true rfl) | ((with_reducible first|refine nz_of ?_ ?_|refine nneg_of ?_ ?_);exact of_decide_eq_true rfl) | ((with_reducible refine chk_of ?_ ?_);rfl) | (with_reducible first|apply asI_of|apply asB_of|apply asP_of|apply asSl_of|apply asAggV_of|apply asTupV_of|apply asCons_of|apply asNil_of|apply isNil_n|apply isNil_i|apply nilC_i|apply nilCU_i|apply nilCU_f|apply mthC_i) | ((with_reducible refine And.intro ?_ ?_);rfl) | ((with_reducible apply exAnd);rfl))
      have ei : IntKind.i64.wrap ((i : Int) - 1) = ((i - 1 : Nat) : Int) := by rw [wrap64] <;> omega
      rw [ei]
      refine ix_of (by omega) (by show ((i - 1 : Nat) : Int) < (i : Int); omega) ?_
      rw [der_some, Int.toNat_natCast]
      refine S_.rB i1 c2 ?_
      have fin := step i p cb c c1 d rest mk' _ hil hp (fun e cb c rest mk' g' S' hc hr => ih (i + 1) c1 cb c rest mk' g' (by omega) (by omega) (by omega) S' hc hr) (St.pick S_ [1, 0, 2, 3, 4, 5, 6, 7] (by decide) rfl) hi hc hr
      cases e1 : p1.w
      · exact br_f rfl fin
      · refine br_t rfl (S_.rB (p := (⟨d, 0⟩ : Ptr).add 2) (x := p.w) i0 rfl (br_f (by rw [w1 e1]; rfl) ?_))
        exact fin
  have hp : ps[0]? = some ps[0] := List.getElem?_eq_getElem (by omega)
  generalize ps[0] = p at hp
  obtain ⟨d0, d1, d2, d3⟩ := D 0 p (by omega) hp
  have pok := hok p (List.mem_of_getElem? hp)
  have fo := flg_ok p (decide (0 + 1 < ps.length))
  refine HI _ _ _ _ _ _ _ _ _ ?_
  unfold ring_Ring_chain.b3
  repeat (first | ((with_reducible first|apply St.rI|apply St.rB|apply St.rP|apply St.rSl|apply St.rV|apply St.rM|apply St.rS|apply St.rN|apply St.ckA);assumption;(first|exact i0|exact i1|exact i2|exact i3|exact i4|exact i5|exact i6|exact i7|exact i8|exact i9|exact i10|exact i11|exact i12|exact i13|exact i14|exact i15);(first|rfl|exact Nat.le_of_ble_eq_true rfl)) | with_reducible refine der_of ?_ | ((with_reducible refine br_t ?_ ?_);rfl) | ((with_reducible refine br_f ?_ ?_);rfl) | ((with_reducible refine br_t ?_ ?_);assumption) | ((with_reducible refine br_f ?_ ?_);assumption) | ((with_reducible first|apply St.wrL|apply St.wr);assumption;(first|exact i0|exact i1|exact i2|exact i3|exact i4|exact i5|exact i6|exact i7|exact i8|exact i9|exact i10|exact i11|exact i12|exact i13|exact i14|exact i15);(first|exact Nat.le_of_ble_eq_true rfl|rfl);intro g_ S_;simp only [Ptr.add, List.set, splice, List.take, List.drop, List.nil_append, List.append_nil, List.cons_append, List.length_cons, List.length_nil, Nat.zero_add, Nat.add_zero, Nat.reduceAdd, Nat.reduceMul, Nat.mul_one, Int.toNat_zero, Int.toNat_one, Int.reduceToNat] at S_) | ((with_reducible refine ix_of ?_ ?_ ?_);exact of_decide_eq_true rfl;exact of_decide_eq_true rfl) | ((with_reducible first|refine nz_of ?_ ?_|refine nneg_of ?_ ?_);exact of_decide_eq_true rfl) | ((with_reducible refine chk_of ?_ ?_);rfl) | (with_reducible first|apply asI_of|apply asB_of|apply asP_of|apply asSl_of|apply asAggV_of|apply asTupV_of|apply asCons_of|apply asNil_of|apply isNil_n|apply isNil_i|apply nilC_i|apply nilCU_i|apply nilCU_f|apply mthC_i) | ((with_reducible refine And.intro ?_ ?_);rfl) | ((with_reducible apply exAnd);rfl))
  refine part (r := 1) (g := 3) (p := 4) (b := 5) (i := 0) hu w hw hk8 S_ rfl rfl rfl rfl (by decide) M hb (by decide) (by decide) d0 d1 d2 d3 pok.l fo.1 pok.a (fun g1 S1 => ?_)
  rw [fo.2.1, fo.2.2]
  clear S_ S
  ((with_reducible apply St.al); assumption; intro d1 g_ S_)
  repeat (first | ((with_reducible first|apply St.rI|apply St.rB|apply St.rP|apply St.rSl|apply St.rV|apply St.rM|apply St.rS|apply St.rN|apply St.ckA);assumption;(first|exact i0|exact i1|exact i2|exact i3|exact i4|exact i5|exact i6|exact i7|exact i8|exact i9|exact i10|exact i11|exact i12|exact i13|exact i14|exact i15);(first|rfl|exact Nat.le_of_ble_eq_true rfl)) | with_reducible refine der_of ?_ | ((with_reducible refine br_t ?_ ?_);rfl) | ((with_reducible refine br_f ?_ ?_);rfl) | ((with_reducible refine br_t ?_ ?_);assumption) | ((with_reducible refine br_f ?_ ?_);assumption) | ((with_reducible first|apply St.wrL|apply St.wr);assumption;(first|exact i0|exact i1|exact i2|exact i3|exact i4|exact i5|exact i6|exact i7|exact i8|exact i9|exact i10|exact i11|exact i12|exact i13|exact i14|exact i15);(first|exact Nat.le_of_ble_eq_true rfl|rfl);intro g_ S_;simp only [Ptr.add, List.set, splice, List.take, List.drop, List.nil_append, List.append_nil, List.cons_append, List.length_cons, List.length_nil, Nat.zero_add, Nat.add_zero, Nat.reduceAdd, Nat.reduceMul, Nat.mul_one, Int.toNat_zero, Int.toNat_one, Int.reduceToNat] at S_) | ((with_reducible refine ix_of ?_ ?_ ?_);exact of_decide_eq_true rfl;exact of_decide_eq_true rfl) | ((with_reducible first|refine nz_of ?_ ?_|refine nneg_of ?_ ?_);exact of_decide_eq_true rfl) | ((with_reducible refine chk_of ?_ ?_);rfl) | (with_reducible first|apply asI_of|apply asB_of|apply asP_of|apply asSl_of|apply asAggV_of|apply asTupV_of|apply asCons_of|apply asNil_of|apply isNil_n|apply isNil_i|apply nilC_i|apply nilCU_i|apply nilCU_f|apply mthC_i) | ((with_reducible refine And.intro ?_ ?_);rfl) | ((with_reducible apply exAnd);rfl))
  unfold ring_Ring_chain.j8
  repeat (first | ((with_reducible first|apply St.rI|apply St.rB|apply St.rP|apply St.rSl|apply St.rV|apply St.rM|apply St.rS|apply St.rN|apply St.ckA);assumption;(first|exact i0|exact i1|exact i2|exact i3|exact i4|exact i5|exact i6|exact i7|exact i8|exact i9|exact i10|exact i11|exact i12|exact i13|exact i14|exact i15);(first|rfl|exact Nat.le_of_ble_eq_true rfl)) | with_reducible refine der_of ?_ | ((with_reducible refine br_t ?_ ?_);rfl) | ((with_reducible refine br_f ?_ ?_);rfl) | ((with_reducible refine br_t ?_ ?_);assumption) | ((with_reducible refine br_f ?_ ?_);assumption) | ((with_reducible first|apply St.wrL|apply St.wr);assumption;(first|exact i0|exact i1|exact i2|exact i3|exact i4|exact i5|exact i6|exact i7|exact i8|exact i9|exact i10|exact i11|exact i12|exact i13|exact i14|exact i15);(first|exact Nat.le_of_ble_eq_true rfl|rfl);intro g_ S_;simp only [Ptr.add, List.set, splice, List.take, List.drop, List.nil_append, List.append_nil, List.cons_append, List.length_cons, List.length_nil, Nat.zero_add, Nat.add_zero, Nat.reduceAdd, Nat.reduceMul, Nat.mul_one, Int.toNat_zero, Int.toNat_one, Int.reduceToNat] at S_) | ((with_reducible refine ix_of ?_ ?_ ?_);exact of_decide_eq_true rfl;exact of_decide_eq_true rfl) | ((with_reducible first|refine nz_of ?_ ?_|refine nneg_of ?_ ?_);exact of_decide_eq_true rfl) | ((with_reducible refine chk_of ?_ ?_);rfl) | (with_reducible first|apply asI_of|apply asB_of|apply asP_of|apply asSl_of|apply asAggV_of|apply asTupV_of|apply asCons_of|apply asNil_of|apply isNil_n|apply isNil_i|apply nilC_i|apply nilCU_i|apply nilCU_f|apply mthC_i) | ((with_reducible refine And.intro ?_ ?_);rfl) | ((with_reducible apply exAnd);rfl))
  unfold ring_Ring_chain.j10
  repeat (first | ((with_reducible first|apply St.rI|apply St.rB|apply St.rP|apply St.rSl|apply St.rV|apply St.rM|apply St.rS|apply St.rN|apply St.ckA);assumption;(first|exact i0|exact i1|exact i2|exact i3|exact i4|exact i5|exact i6|exact i7|exact i8|exact i9|exact i10|exact i11|exact i12|exact i13|exact i14|exact i15);(first|rfl|exact Nat.le_of_ble_eq_true rfl)) | with_reducible refine der_of ?_ | ((with_reducible refine br_t ?_ ?_);rfl) | ((with_reducible refine br_f ?_ ?_);rfl) | ((with_reducible refine br_t ?_ ?_);assumption) | ((with_reducible refine br_f ?_ ?_);assumption) | ((with_reducible first|apply St.wrL|apply St.wr);assumption;(first|exact i0|exact i1|exact i2|exact i3|exact i4|exact i5|exact i6|exact i7|exact i8|exact i9|exact i10|exact i11|exact i12|exact i13|exact i14|exact i15);(first|exact Nat.le_of_ble_eq_true rfl|rfl);intro g_ S_;simp only [Ptr.add, List.set, splice, List.take, List.drop, List.nil_append, List.append_nil, List.cons_append, List.length_cons, List.length_nil, Nat.zero_add, Nat.add_zero, Nat.reduceAdd, Nat.reduceMul, Nat.mul_one, Int.toNat_zero, Int.toNat_one, Int.reduceToNat] at S_) | ((with_reducible refine ix_of ?_ ?_ ?_);exact of_decide_eq_true rfl;exact of_decide_eq_true rfl) | ((with_reducible first|refine nz_of ?_ ?_|refine nneg_of ?_ ?_);exact of_decide_eq_true rfl) | ((with_reducible refine chk_of ?_ ?_);rfl) | (with_reducible first|apply asI_of|apply asB_of|apply asP_of|apply asSl_of|apply asAggV_of|apply asTupV_of|apply asCons_of|apply asNil_of|apply isNil_n|apply isNil_i|apply nilC_i|apply nilCU_i|apply nilCU_f|apply mthC_i) | ((with_reducible refine And.intro ?_ ?_);rfl) | ((with_reducible apply exAnd);rfl))
  ((with_reducible apply St.al); assumption; intro e1 g_ S_)
  repeat (first | ((with_reducible first|apply St.rI|apply St.rB|apply St.rP|apply St.rSl|apply St.rV|apply St.rM|apply St.rS|apply St.rN|apply St.ckA);assumption;(first|exact i0|exact i1|exact i2|exact i3|exact i4|exact i5|exact i6|exact i7|exact i8|exact i9|exact i10|exact i11|exact i12|exact i13|exact i14|exact i15);(first|rfl|exact Nat.le_of_ble_eq_true rfl)) | with_reducible refine der_of ?_ | ((with_reducible refine br_t ?_ ?_);rfl) | ((with_reducible refine br_f ?_ ?_);rfl) | ((with_reducible refine br_t ?_ ?_);assumption) | ((with_reducible refine br_f ?_ ?_);assumption) | ((with_reducible first|apply St.wrL|apply St.wr);assumption;(first|exact i0|exact i1|exact i2|exact i3|exact i4|exact i5|exact i6|exact i7|exact i8|exact i9|exact i10|exact i11|exact i12|exact i13|exact i14|exact i15);(first|exact Nat.le_of_ble_eq_true rfl|rfl);intro g_ S_;simp only [Ptr.add, List.set, splice, List.take, List.drop, List.nil_append, List.append_nil, List.cons_append, List.length_cons, List.length_nil, Nat.zero_add, Nat.add_zero, Nat.reduceAdd, Nat.reduceMul, Nat.mul_one, Int.toNat_zero, Int.toNat_one, Int.reduceToNat] at S_) | ((with_reducible refine ix_of ?_ ?_ ?_);exact of_decide_eq_true rfl;exact of_decide_eq_true rfl) | ((with_reducible first|refine nz_of ?_ ?_|refine nneg_of ?_ ?_);exact of_decide_eq_true rfl) | ((with_reducible refine chk_of ?_ ?_);rfl) | (with_reducible first|apply asI_of|apply asB_of|apply asP_of|apply asSl_of|apply asAggV_of|apply asTupV_of|apply asCons_of|apply asNil_of|apply isNil_n|apply isNil_i|apply nilC_i|apply nilCU_i|apply nilCU_f|apply mthC_i) | ((with_reducible refine And.intro ?_ ?_);rfl) | ((with_reducible apply exAnd);rfl))
  refine app_nil S_ rfl rfl (by decide) (fun cb c rest mk' g2 S2 hc hr => ?_)
  clear S_
  repeat (first | ((with_reducible first|apply St.rI|apply St.rB|apply St.rP|apply St.rSl|apply St.rV|apply St.rM|apply St.rS|apply St.rN|apply St.ckA);assumption;(first|exact i0|exact i1|exact i2|exact i3|exact i4|exact i5|exact i6|exact i7|exact i8|exact i9|exact i10|exact i11|exact i12|exact i13|exact i14|exact i15);(first|rfl|exact Nat.le_of_ble_eq_true rfl)) | with_reducible refine der_of ?_ | ((with_reducible refine br_t ?_ ?_);rfl) | ((with_reducible refine br_f ?_ ?_);rfl) | ((with_reducible refine br_t ?_ ?_);assumption) | ((with_reducible refine br_f ?_ ?_);assumption) | ((with_reducible first|apply St.wrL|apply St.wr);assumption;(first|exact i0|exact i1|exact i2|exact i3|exact i4|exact i5|exact i6|exact i7|exact i8|exact i9|exact i10|exact i11|exact i12|exact i13|exact i14|exact i15);(first|exact Nat.le_of_ble_eq_true rfl|rfl);intro g_ S_;simp only [Ptr.add, List.set, splice, List.take, List.drop, List.nil_append, List.append_nil, List.cons_append, List.length_cons, List.length_nil, Nat.zero_add, Nat.add_zero, Nat.reduceAdd, Nat.reduceMul, Nat.mul_one, Int.toNat_zero, Int.toNat_one, Int.reduceToNat] at S_) | ((with_reducible refine ix_of ?_ ?_ ?_);exact of_decide_eq_true rfl;exact of_decide_eq_true rfl) | ((with_reducible first|refine nz_of ?_ ?_|refine nneg_of ?_ ?_);exact of_decide_eq_true rfl) | ((with_reducible refine chk_of ?_ ?_);rfl) | (with_reducible first|apply asI_of|apply asB_of|apply asP_of|apply asSl_of|apply asAggV_of|apply asTupV_of|apply asCons_of|apply asNil_of|apply isNil_n|apply isNil_i|apply nilC_i|apply nilCU_i|apply nilCU_f|apply mthC_i) | ((with_reducible refine And.intro ?_ ?_);rfl) | ((with_reducible apply exAnd);rfl))
  have et : ps.take 1 = [p] := by rw [List.take_one, List.head?_eq_getElem?, hp]; rfl
  have e3 : ([V.int .u64 p.a, V.int .i64 p.l, V.bool p.w] : List V) = pcells (ps.take 1) := by rw [et]; rfl
  by_cases e : 0 + 1 < ps.length
  · rw [decide_eq_true e]
    repeat (first | ((with_reducible first|apply St.rI|apply St.rB|apply St.rP|apply St.rSl|apply St.rV|apply St.rM|apply St.rS|apply St.rN|apply St.ckA);assumption;(first|exact i0|exact i1|exact i2|exact i3|exact i4|exact i5|exact i6|exact i7|exact i8|exact i9|exact i10|exact i11|exact i12|exact i13|exact i14|exact i15);(first|rfl|exact Nat.le_of_ble_eq_true rfl)) | with_reducible refine der_of ?_ | ((with_reducible refine br_t ?_ ?_);rfl) | ((with_reducible refine br_f ?_ ?_);rfl) | ((with_reducible refine br_t ?_ ?_);assumption) | ((with_reducible refine br_f ?_ ?_);assumption) | ((with_reducible first|apply St.wrL|apply St.wr);assumption;(first|exact i0|exact i1|exact i2|exact i3|exact i4|exact i5|exact i6|exact i7|exact i8|exact i9|exact i10|exact i11|exact i12|exact i13|exact i14|exact i15);(first|exact Nat.le_of_ble_eq_true rfl|rfl);intro g_ S_;simp only [Ptr.add, List.set, splice, List.take, List.drop, List.nil_append, List.append_nil, List.cons_append, List.length_cons, List.length_nil, Nat.zero_add, Nat.add_zero, Nat.reduceAdd, Nat.reduceMul, Nat.mul_one, Int.toNat_zero, Int.toNat_one, Int.reduceToNat] at S_) | ((with_reducible refine ix_of ?_ ?_ ?_);exact of_decide_eq_true rfl;exact of_decide_eq_true rfl) | ((with_reducible first|refine nz_of ?_ ?_|refine nneg_of ?_ ?_);exact of_decide_eq_true rfl) | ((with_reducible refine chk_of ?_ ?_);rfl) | (with_reducible first|apply asI_of|apply asB_of|apply asP_of|apply asSl_of|apply asAggV_of|apply asTupV_of|apply asCons_of|apply asNil_of|apply isNil_n|apply isNil_i|apply nilC_i|apply nilCU_i|apply nilCU_f|apply mthC_i) | ((with_reducible refine And.intro ?_ ?_);rfl) | ((with_reducible apply exAnd);rfl))
    rw [show IntKind.u64.wrap (0 + 1) = 1 by decide]
    refine key (ps.length - 1) 1 c1 cb c rest mk' _ (by omega) (by decide) (by omega) ?_ hc hr
    rw [← e3]
    exact St.pick S_ [0, 3, 4, 5, 6, 7, 8] (by decide) rfl
  · rw [decide_eq_false e]
    repeat (first | ((with_reducible first|apply St.rI|apply St.rB|apply St.rP|apply St.rSl|apply St.rV|apply St.rM|apply St.rS|apply St.rN|apply St.ckA);assumption;(first|exact i0|exact i1|exact i2|exact i3|exact i4|exact i5|exact i6|exact i7|exact i8|exact i9|exact i10|exact i11|exact i12|exact i13|exact i14|exact i15);(first|rfl|exact Nat.le_of_ble_eq_true rfl)) | with_reducible refine der_of ?_ | ((with_reducible refine br_t ?_ ?_);rfl) | ((with_reducible refine br_f ?_ ?_);rfl) | ((with_reducible refine br_t ?_ ?_);assumption) | ((with_reducible refine br_f ?_ ?_);assumption) | ((with_reducible first|apply St.wrL|apply St.wr);assumption;(first|exact i0|exact i1|exact i2|exact i3|exact i4|exact i5|exact i6|exact i7|exact i8|exact i9|exact i10|exact i11|exact i12|exact i13|exact i14|exact i15);(first|exact Nat.le_of_ble_eq_true rfl|rfl);intro g_ S_;simp only [Ptr.add, List.set, splice, List.take, List.drop, List.nil_append, List.append_nil, List.cons_append, List.length_cons, List.length_nil, Nat.zero_add, Nat.add_zero, Nat.reduceAdd, Nat.reduceMul, Nat.mul_one, Int.toNat_zero, Int.toNat_one, Int.reduceToNat] at S_) | ((with_reducible refine ix_of ?_ ?_ ?_);exact of_decide_eq_true rfl;exact of_decide_eq_true rfl) | ((with_reducible first|refine nz_of ?_ ?_|refine nneg_of ?_ ?_);exact of_decide_eq_true rfl) | ((with_reducible refine chk_of ?_ ?_);rfl) | (with_reducible first|apply asI_of|apply asB_of|apply asP_of|apply asSl_of|apply asAggV_of|apply asTupV_of|apply asCons_of|apply asNil_of|apply isNil_n|apply isNil_i|apply nilC_i|apply nilCU_i|apply nilCU_f|apply mthC_i) | ((with_reducible refine And.intro ?_ ?_);rfl) | ((with_reducible apply exAnd);rfl))
    have e4 : 1 = ps.length := by omega
    have e5 : pcells ps = [V.int .u64 p.a, V.int .i64 p.l, V.bool p.w] := by rw [e3, e4, List.take_length]
    have hq1 := hq cb c rest mk' _ (by rw [e5]; exact St.pick S_ [0, 4, 5, 6, 7, 8] (by decide) rfl)
    rw [← e4] at hq1
    exact hq1

end
end Go.Back

/- A chain of any parts: next, told, and what it asks for where it may not be. -/
namespace Go.Back
open Go.Lift Go.Fn Go.Mem Go.Frames

/-- A chain that may be taken. -/
structure PsOk (ps : List Pt) : Prop where
  n : 1 ≤ ps.length ∧ ps.length ≤ 8
  ok : ∀ p, p ∈ ps → PtOk p
  wr : ∀ (i : Nat) p q, ps[i]? = some p → ps[i + 1]? = some q → p.w = true → q.w = true

section
variable {U U' : Ifc} {x : Nat → Int} {h0 h : Heap} {W : Nat → Prop} {L : List (Nat × HO)}

theorem next_gen (hu : GU U U') (w : Wid U' h0 x) (hw : ¬ W (U'.glob 1)) (hk8 : knownB x 8 = true) {rg gb pm bm base : Nat} {bs : List UInt8} {mk : Bool} {m : Nat → Int} {t : Nat} {gv : Int} {ps : List Pt} (M : MemIs bs base m) (hb : base + 16 ≤ 40) (ht : t ≤ 1000) {cnt : Int} (hcnt : m 32 = cnt) (h1 : (t : Int) < cnt ∧ cnt ≤ t + 8) (hhead : m (33 + t % 8) = 0) (P : PsOk ps) (D : Desc m ps ps.length)
    (S : St h0 W [(rg, .cells (ringC ((t : Nat) : Int) gv false) false), (gb, .cells (flatC pm (base : Int)) false), (pm, .cells (memC bm) false), (bm, .cells (strCells bs) mk)] h)
    {Q : Int → Sl → Bool → Int → Heap → Prop} (hq : ∀ cb c rest mk' h', St h0 W [(cb, .cells (pcells ps ++ rest) mk'), (rg, .cells (ringC ((t + 1 : Nat) : Int) gv false) false), (gb, .cells (flatC pm (base : Int)) false), (pm, .cells (memC bm) false), (bm, .cells (strCells bs) mk)] h' → Q 0 ⟨some ⟨cb, 0⟩, ps.length, c⟩ true 0 h') : ring_Ring_Next U (some ⟨rg, 0⟩) (.iface 4 (.ptr (some ⟨gb, 0⟩))) Q h := by
  unfold ring_Ring_Next
  ((with_reducible apply St.al); assumption; intro n1 g_ S_)
  unfold ring_Ring_usable
  repeat (first | ((with_reducible first|apply St.rI|apply St.rB|apply St.rP|apply St.rSl|apply St.rV|apply St.rM|apply St.rS|apply St.rN|apply St.ckA);assumption;(first|exact i0|exact i1|exact i2|exact i3|exact i4|exact i5|exact i6|exact i7|exact i8|exact i9|exact i10|exact i11|exact i12|exact i13|exact i14|exact i15);(first|rfl|exact Nat.le_of_ble_eq_true rfl)) | with_reducible refine der_of ?_ | ((with_reducible refine br_t ?_ ?_);rfl) | ((with_reducible refine br_f ?_ ?_);rfl) | ((with_reducible refine br_t ?_ ?_);assumption) | ((with_reducible refine br_f ?_ ?_);assumption) | ((with_reducible first|apply St.wrL|apply St.wr);assumption;(first|exact i0|exact i1|exact i2|exact i3|exact i4|exact i5|exact i6|exact i7|exact i8|exact i9|exact i10|exact i11|exact i12|exact i13|exact i14|exact i15);(first|exact Nat.le_of_ble_eq_true rfl|rfl);intro g_ S_;simp only [Ptr.add, List.set, splice, List.take, List.drop, List.nil_append, List.append_nil, List.cons_append, List.length_cons, List.length_nil, Nat.zero_add, Nat.add_zero, Nat.reduceAdd, Nat.reduceMul, Nat.mul_one, Int.toNat_zero, Int.toNat_one, Int.reduceToNat] at S_) | ((with_reducible refine ix_of ?_ ?_ ?_);exact of_decide_eq_true rfl;exact of_decide_eq_true rfl) | ((with_reducible first|refine nz_of ?_ ?_|refine nneg_of ?_ ?_);exact of_decide_eq_true rfl) | ((with_reducible refine chk_of ?_ ?_);rfl) | (with_reducible first|apply asI_of|apply asB_of|apply asP_of|apply asSl_of|apply asAggV_of|apply asTupV_of|apply asCons_of|apply asNil_of|apply isNil_n|apply isNil_i|apply nilC_i|apply nilCU_i|apply nilCU_f|apply mthC_i) | ((with_reducible refine And.intro ?_ ?_);rfl) | ((with_reducible apply exAnd);rfl))
  ((with_reducible apply St.al); assumption; intro rd g_ S_)
  repeat (first | ((with_reducible first|apply St.rI|apply St.rB|apply St.rP|apply St.rSl|apply St.rV|apply St.rM|apply St.rS|apply St.rN|apply St.ckA);assumption;(first|exact i0|exact i1|exact i2|exact i3|exact i4|exact i5|exact i6|exact i7|exact i8|exact i9|exact i10|exact i11|exact i12|exact i13|exact i14|exact i15);(first|rfl|exact Nat.le_of_ble_eq_true rfl)) | with_reducible refine der_of ?_ | ((with_reducible refine br_t ?_ ?_);rfl) | ((with_reducible refine br_f ?_ ?_);rfl) | ((with_reducible refine br_t ?_ ?_);assumption) | ((with_reducible refine br_f ?_ ?_);assumption) | ((with_reducible first|apply St.wrL|apply St.wr);assumption;(first|exact i0|exact i1|exact i2|exact i3|exact i4|exact i5|exact i6|exact i7|exact i8|exact i9|exact i10|exact i11|exact i12|exact i13|exact i14|exact i15);(first|exact Nat.le_of_ble_eq_true rfl|rfl);intro g_ S_;simp only [Ptr.add, List.set, splice, List.take, List.drop, List.nil_append, List.append_nil, List.cons_append, List.length_cons, List.length_nil, Nat.zero_add, Nat.add_zero, Nat.reduceAdd, Nat.reduceMul, Nat.mul_one, Int.toNat_zero, Int.toNat_one, Int.reduceToNat] at S_) | ((with_reducible refine ix_of ?_ ?_ ?_);exact of_decide_eq_true rfl;exact of_decide_eq_true rfl) | ((with_reducible first|refine nz_of ?_ ?_|refine nneg_of ?_ ?_);exact of_decide_eq_true rfl) | ((with_reducible refine chk_of ?_ ?_);rfl) | (with_reducible first|apply asI_of|apply asB_of|apply asP_of|apply asSl_of|apply asAggV_of|apply asTupV_of|apply asCons_of|apply asNil_of|apply isNil_n|apply isNil_i|apply nilC_i|apply nilCU_i|apply nilCU_f|apply mthC_i) | ((with_reducible refine And.intro ?_ ?_);rfl) | ((with_reducible apply exAnd);rfl))
  refine number (r := 0) (g := 3) (p := 4) (b := 5) (k := 32) hu w hw hk8 S_ rfl rfl rfl rfl (by decide) M hb (by decide) (by decide) (fun g1 S1 => ?_)
  rw [hcnt]
  clear S_
  unfold ring_Ring_Next.j7
  repeat (first | ((with_reducible first|apply St.rI|apply St.rB|apply St.rP|apply St.rSl|apply St.rV|apply St.rM|apply St.rS|apply St.rN|apply St.ckA);assumption;(first|exact i0|exact i1|exact i2|exact i3|exact i4|exact i5|exact i6|exact i7|exact i8|exact i9|exact i10|exact i11|exact i12|exact i13|exact i14|exact i15);(first|rfl|exact Nat.le_of_ble_eq_true rfl)) | with_reducible refine der_of ?_ | ((with_reducible refine br_t ?_ ?_);rfl) | ((with_reducible refine br_f ?_ ?_);rfl) | ((with_reducible refine br_t ?_ ?_);assumption) | ((with_reducible refine br_f ?_ ?_);assumption) | ((with_reducible first|apply St.wrL|apply St.wr);assumption;(first|exact i0|exact i1|exact i2|exact i3|exact i4|exact i5|exact i6|exact i7|exact i8|exact i9|exact i10|exact i11|exact i12|exact i13|exact i14|exact i15);(first|exact Nat.le_of_ble_eq_true rfl|rfl);intro g_ S_;simp only [Ptr.add, List.set, splice, List.take, List.drop, List.nil_append, List.append_nil, List.cons_append, List.length_cons, List.length_nil, Nat.zero_add, Nat.add_zero, Nat.reduceAdd, Nat.reduceMul, Nat.mul_one, Int.toNat_zero, Int.toNat_one, Int.reduceToNat] at S_) | ((with_reducible refine ix_of ?_ ?_ ?_);exact of_decide_eq_true rfl;exact of_decide_eq_true rfl) | ((with_reducible first|refine nz_of ?_ ?_|refine nneg_of ?_ ?_);exact of_decide_eq_true rfl) | ((with_reducible refine chk_of ?_ ?_);rfl) | (with_reducible first|apply asI_of|apply asB_of|apply asP_of|apply asSl_of|apply asAggV_of|apply asTupV_of|apply asCons_of|apply asNil_of|apply isNil_n|apply isNil_i|apply nilC_i|apply nilCU_i|apply nilCU_f|apply mthC_i) | ((with_reducible refine And.intro ?_ ?_);rfl) | ((with_reducible apply exAnd);rfl))
  refine br_f (by simp; omega) ?_
  unfold ring_Ring_Next.j9
  repeat (first | ((with_reducible first|apply St.rI|apply St.rB|apply St.rP|apply St.rSl|apply St.rV|apply St.rM|apply St.rS|apply St.rN|apply St.ckA);assumption;(first|exact i0|exact i1|exact i2|exact i3|exact i4|exact i5|exact i6|exact i7|exact i8|exact i9|exact i10|exact i11|exact i12|exact i13|exact i14|exact i15);(first|rfl|exact Nat.le_of_ble_eq_true rfl)) | with_reducible refine der_of ?_ | ((with_reducible refine br_t ?_ ?_);rfl) | ((with_reducible refine br_f ?_ ?_);rfl) | ((with_reducible refine br_t ?_ ?_);assumption) | ((with_reducible refine br_f ?_ ?_);assumption) | ((with_reducible first|apply St.wrL|apply St.wr);assumption;(first|exact i0|exact i1|exact i2|exact i3|exact i4|exact i5|exact i6|exact i7|exact i8|exact i9|exact i10|exact i11|exact i12|exact i13|exact i14|exact i15);(first|exact Nat.le_of_ble_eq_true rfl|rfl);intro g_ S_;simp only [Ptr.add, List.set, splice, List.take, List.drop, List.nil_append, List.append_nil, List.cons_append, List.length_cons, List.length_nil, Nat.zero_add, Nat.add_zero, Nat.reduceAdd, Nat.reduceMul, Nat.mul_one, Int.toNat_zero, Int.toNat_one, Int.reduceToNat] at S_) | ((with_reducible refine ix_of ?_ ?_ ?_);exact of_decide_eq_true rfl;exact of_decide_eq_true rfl) | ((with_reducible first|refine nz_of ?_ ?_|refine nneg_of ?_ ?_);exact of_decide_eq_true rfl) | ((with_reducible refine chk_of ?_ ?_);rfl) | (with_reducible first|apply asI_of|apply asB_of|apply asP_of|apply asSl_of|apply asAggV_of|apply asTupV_of|apply asCons_of|apply asNil_of|apply isNil_n|apply isNil_i|apply nilC_i|apply nilCU_i|apply nilCU_f|apply mthC_i) | ((with_reducible refine And.intro ?_ ?_);rfl) | ((with_reducible apply exAnd);rfl))
  refine br_t (decide_eq_true (by rw [wrapu64] <;> omega)) ?_
  repeat (first | ((with_reducible first|apply St.rI|apply St.rB|apply St.rP|apply St.rSl|apply St.rV|apply St.rM|apply St.rS|apply St.rN|apply St.ckA);assumption;(first|exact i0|exact i1|exact i2|exact i3|exact i4|exact i5|exact i6|exact i7|exact i8|exact i9|exact i10|exact i11|exact i12|exact i13|exact i14|exact i15);(first|rfl|exact Nat.le_of_ble_eq_true rfl)) | with_reducible refine der_of ?_ | ((with_reducible refine br_t ?_ ?_);rfl) | ((with_reducible refine br_f ?_ ?_);rfl) | ((with_reducible refine br_t ?_ ?_);assumption) | ((with_reducible refine br_f ?_ ?_);assumption) | ((with_reducible first|apply St.wrL|apply St.wr);assumption;(first|exact i0|exact i1|exact i2|exact i3|exact i4|exact i5|exact i6|exact i7|exact i8|exact i9|exact i10|exact i11|exact i12|exact i13|exact i14|exact i15);(first|exact Nat.le_of_ble_eq_true rfl|rfl);intro g_ S_;simp only [Ptr.add, List.set, splice, List.take, List.drop, List.nil_append, List.append_nil, List.cons_append, List.length_cons, List.length_nil, Nat.zero_add, Nat.add_zero, Nat.reduceAdd, Nat.reduceMul, Nat.mul_one, Int.toNat_zero, Int.toNat_one, Int.reduceToNat] at S_) | ((with_reducible refine ix_of ?_ ?_ ?_);exact of_decide_eq_true rfl;exact of_decide_eq_true rfl) | ((with_reducible first|refine nz_of ?_ ?_|refine nneg_of ?_ ?_);exact of_decide_eq_true rfl) | ((with_reducible refine chk_of ?_ ?_);rfl) | (with_reducible first|apply asI_of|apply asB_of|apply asP_of|apply asSl_of|apply asAggV_of|apply asTupV_of|apply asCons_of|apply asNil_of|apply isNil_n|apply isNil_i|apply nilC_i|apply nilCU_i|apply nilCU_f|apply mthC_i) | ((with_reducible refine And.intro ?_ ?_);rfl) | ((with_reducible apply exAnd);rfl))
  have ead : IntKind.u64.wrap (IntKind.u64.wrap (0 + IntKind.u64.wrap (32 * 8)) + IntKind.u64.wrap (8 * IntKind.u64.wrap (1 + (t : Int).tmod 8))) = ((8 * (33 + t % 8) : Nat) : Int) := by
    rw [Int.tmod_eq_emod_of_nonneg (by omega), wrapu64 (x := 1 + (t : Int) % 8), wrapu64 (x := 8 * (1 + (t : Int) % 8)), show IntKind.u64.wrap (0 + IntKind.u64.wrap (32 * 8)) = 256 by decide, wrapu64] <;> omega
  refine number (r := 0) (g := 3) (p := 4) (b := 5) (k := 33 + t % 8) hu w hw hk8 S1 rfl rfl rfl rfl (by decide) M hb (by omega) ead (fun g2 S2 => ?_)
  rw [hhead]
  clear S1
  unfold ring_Ring_Next.j11
  repeat (first | ((with_reducible first|apply St.rI|apply St.rB|apply St.rP|apply St.rSl|apply St.rV|apply St.rM|apply St.rS|apply St.rN|apply St.ckA);assumption;(first|exact i0|exact i1|exact i2|exact i3|exact i4|exact i5|exact i6|exact i7|exact i8|exact i9|exact i10|exact i11|exact i12|exact i13|exact i14|exact i15);(first|rfl|exact Nat.le_of_ble_eq_true rfl)) | with_reducible refine der_of ?_ | ((with_reducible refine br_t ?_ ?_);rfl) | ((with_reducible refine br_f ?_ ?_);rfl) | ((with_reducible refine br_t ?_ ?_);assumption) | ((with_reducible refine br_f ?_ ?_);assumption) | ((with_reducible first|apply St.wrL|apply St.wr);assumption;(first|exact i0|exact i1|exact i2|exact i3|exact i4|exact i5|exact i6|exact i7|exact i8|exact i9|exact i10|exact i11|exact i12|exact i13|exact i14|exact i15);(first|exact Nat.le_of_ble_eq_true rfl|rfl);intro g_ S_;simp only [Ptr.add, List.set, splice, List.take, List.drop, List.nil_append, List.append_nil, List.cons_append, List.length_cons, List.length_nil, Nat.zero_add, Nat.add_zero, Nat.reduceAdd, Nat.reduceMul, Nat.mul_one, Int.toNat_zero, Int.toNat_one, Int.reduceToNat] at S_) | ((with_reducible refine ix_of ?_ ?_ ?_);exact of_decide_eq_true rfl;exact of_decide_eq_true rfl) | ((with_reducible first|refine nz_of ?_ ?_|refine nneg_of ?_ ?_);exact of_decide_eq_true rfl) | ((with_reducible refine chk_of ?_ ?_);rfl) | (with_reducible first|apply asI_of|apply asB_of|apply asP_of|apply asSl_of|apply asAggV_of|apply asTupV_of|apply asCons_of|apply asNil_of|apply isNil_n|apply isNil_i|apply nilC_i|apply nilCU_i|apply nilCU_f|apply mthC_i) | ((with_reducible refine And.intro ?_ ?_);rfl) | ((with_reducible apply exAnd);rfl))
  have SP : St h0 W ([(rd, .cells (rdC gb) false), (rg, .cells (ringC ((t : Nat) : Int) gv false) false), (gb, .cells (flatC pm (base : Int)) false), (pm, .cells (memC bm) false), (bm, .cells (strCells bs) mk)] ++ [(n1, .cells [.int .i64 0, .sl ⟨none, 0, 0⟩] false)]) g2 := St.pick S2 [0, 2, 3, 4, 5, 1] (by decide) rfl
  clear S2
  refine chain_gen hu (w.keeps SP.keeps hw) (SP.notA w.known hw) hk8 M hb P.n P.ok P.wr D SP.head (fun cb c rest mk' g3 S3 => ?_)
  have S4 := St.frame S3 SP
  simp only [List.cons_append, List.nil_append] at S4
  clear S3 SP
  ((with_reducible apply St.al); assumption; intro n3 g_ S_)
  repeat (first | ((with_reducible first|apply St.rI|apply St.rB|apply St.rP|apply St.rSl|apply St.rV|apply St.rM|apply St.rS|apply St.rN|apply St.ckA);assumption;(first|exact i0|exact i1|exact i2|exact i3|exact i4|exact i5|exact i6|exact i7|exact i8|exact i9|exact i10|exact i11|exact i12|exact i13|exact i14|exact i15);(first|rfl|exact Nat.le_of_ble_eq_true rfl)) | with_reducible refine der_of ?_ | ((with_reducible refine br_t ?_ ?_);rfl) | ((with_reducible refine br_f ?_ ?_);rfl) | ((with_reducible refine br_t ?_ ?_);assumption) | ((with_reducible refine br_f ?_ ?_);assumption) | ((with_reducible first|apply St.wrL|apply St.wr);assumption;(first|exact i0|exact i1|exact i2|exact i3|exact i4|exact i5|exact i6|exact i7|exact i8|exact i9|exact i10|exact i11|exact i12|exact i13|exact i14|exact i15);(first|exact Nat.le_of_ble_eq_true rfl|rfl);intro g_ S_;simp only [Ptr.add, List.set, splice, List.take, List.drop, List.nil_append, List.append_nil, List.cons_append, List.length_cons, List.length_nil, Nat.zero_add, Nat.add_zero, Nat.reduceAdd, Nat.reduceMul, Nat.mul_one, Int.toNat_zero, Int.toNat_one, Int.reduceToNat] at S_) | ((with_reducible refine ix_of ?_ ?_ ?_);exact of_decide_eq_true rfl;exact of_decide_eq_true rfl) | ((with_reducible first|refine nz_of ?_ ?_|refine nneg_of ?_ ?_);exact of_decide_eq_true rfl) | ((with_reducible refine chk_of ?_ ?_);rfl) | (with_reducible first|apply asI_of|apply asB_of|apply asP_of|apply asSl_of|apply asAggV_of|apply asTupV_of|apply asCons_of|apply asNil_of|apply isNil_n|apply isNil_i|apply nilC_i|apply nilCU_i|apply nilCU_f|apply mthC_i) | ((with_reducible refine And.intro ?_ ?_);rfl) | ((with_reducible apply exAnd);rfl))
  have ew : IntKind.u64.wrap ((t : Int) + 1) = ((t + 1 : Nat) : Int) := by rw [wrapu64] <;> omega
  rw [ew] at S_
  exact hq cb c rest mk' _ (St.pick S_ [1, 3, 4, 5, 6] (by decide) rfl)

theorem gput2 {gb pm bm g p b base k : Nat} {bs xs : List UInt8} {mk : Bool} {m : Nat → Int} {s : Sl} (S : St h0 W L h)
    (hg : L[g]? = some (gb, .cells (flatC pm (base : Int)) false)) (hp : L[p]? = some (pm, .cells (memC bm) false)) (hm : L[b]? = some (bm, .cells (strCells bs) mk)) (hpb : p ≠ b) (M : MemIs bs base m) (hb : base + 16 ≤ 40) (H : Held h s 1 (strCells xs)) (hk : k + xs.length ≤ 4096) {a : Int} (ea : a = (k : Int))
    {Q : Int → Heap → Prop} (hq : ∀ mk' h', St h0 W (L.set b (bm, .cells (strCells (Go.Mem.put bs (256 * base + k) xs)) mk')) h' → Q 0 h') : palisadelaw24_Flat_Put (some ⟨gb, 0⟩) a s Q h := by
  subst ea
  have e16 : IntKind.u64.wrap (IntKind.i64.wrap (256 * 16)) = 4096 := by decide
  have hs : s.len = xs.length := by have := H.len; rw [strCells_length] at this; omega
  unfold palisadelaw24_Flat_Put
  rw [der_some]
  refine S.rI hg rfl (br_f (decide_eq_false (by rw [e16]; omega)) ?_)
  rw [der_some]
  refine S.rI hg rfl (br_f (decide_eq_false (by rw [e16, wrapu64 (x := ((s.len : Nat) : Int)), wrapu64] <;> omega)) ?_)
  rw [der_some]
  refine S.rP hg rfl ?_
  rw [der_some]
  refine S.rI hg rfl ?_
  have e : IntKind.u64.wrap ((k : Int) + IntKind.u64.wrap (IntKind.i64.wrap (256 * (base : Int)))) = ((256 * base + k : Nat) : Int) := by
    rw [wrap64 (x := 256 * (base : Int)), wrapu64 (x := 256 * (base : Int)), wrapu64] <;> omega
  rw [e]
  have hl := M.len
  refine Mem.Put_of (mrep S hp hm hpb M.len) (by omega) (by omega) H (by omega) (fun hn => ?_) (fun _ h1 R1 k1 => ?_)
  · exfalso
    rw [hl] at hn
    simp [lies] at hn
    omega
  · rw [Int.toNat_natCast] at R1
    obtain ⟨mk', harr⟩ := R1.arr
    exact hq mk' h1 (S.put hm harr k1)

/-- The byte at an address of the guest's. -/
def byteAt (bs : List UInt8) (base a : Nat) : Int := valN 1 bs ((256 * base + a : Nat) : Int)

theorem byteAt_eq {bs : List UInt8} {base a : Nat} : byteAt bs base a = (((bs.drop (256 * base + a)).headD 0).toNat : Int) := by
  unfold byteAt valN sx
  rw [if_neg (by decide), Int.toNat_natCast]
  cases bs.drop (256 * base + a) with
  | nil => rfl
  | cons b l => simp [byteSum]

theorem byteAt_put {bs : List UInt8} {base a : Nat} {b : UInt8} (ha : 256 * base + a < bs.length) : byteAt (Go.Mem.put bs (256 * base + a) [b]) base a = (b.toNat : Int) := by
  rw [byteAt_eq]
  have e : ((Go.Mem.put bs (256 * base + a) [b]).drop (256 * base + a)).headD 0 = b := by
    rw [List.headD_eq_head?_getD, List.head?_drop, put_get (by simp; omega), if_pos (by simp)]
    simp
  rw [e]

theorem byteSum_inj : ∀ (l1 l2 : List UInt8), l1.length = l2.length → byteSum l1 = byteSum l2 → l1 = l2
  | [], [], _, _ => rfl
  | [], _ :: _, h, _ => by simp at h
  | _ :: _, [], h, _ => by simp at h
  | a :: l1, b :: l2, h, e => by
    simp only [byteSum] at e
    have ha := a.toNat_lt
    have hb := b.toNat_lt
    have h1 : a = b := UInt8.toNat_inj.1 (by omega)
    subst h1
    rw [byteSum_inj l1 l2 (by simpa using h) (by omega)]

/-- Where a word is the same, its bytes are. -/
theorem byteAt_word {bs bs' : List UInt8} {base : Nat} {m m' : Nat → Int} (M : MemIs bs base m) (M' : MemIs bs' base m') (hb : base + 16 ≤ 40) {a : Nat} (ha : a < 4096) (he : m' (a / 8) = m (a / 8)) : byteAt bs' base a = byteAt bs base a := by
  have h1 := M.word (a / 8) (by omega)
  have h2 := M'.word (a / 8) (by omega)
  rw [he, ← h1] at h2
  unfold valN sx at h2
  rw [if_neg (by decide), if_neg (by decide), Int.toNat_natCast] at h2
  have hl := M.len
  have hl' := M'.len
  have e := byteSum_inj _ _ (by simp; omega) (Int.ofNat_inj.1 h2)
  rw [byteAt_eq, byteAt_eq, List.headD_eq_head?_getD, List.headD_eq_head?_getD, List.head?_drop, List.head?_drop]
  have g := congrArg (fun l => l[a % 8]?) e
  rw [List.getElem?_take_of_lt (by omega), List.getElem?_take_of_lt (by omega), List.getElem?_drop, List.getElem?_drop, show 256 * base + 8 * (a / 8) + a % 8 = 256 * base + a by omega] at g
  rw [g]

theorem gbyte (w : Wid U h0 x) (hw : ¬ W (U.glob 1)) (hk1 : knownB x 1 = true) {gb pm bm g p b base k : Nat} {bs : List UInt8} {mk : Bool} {m : Nat → Int} (S : St h0 W L h)
    (hg : L[g]? = some (gb, .cells (flatC pm (base : Int)) false)) (hp : L[p]? = some (pm, .cells (memC bm) false)) (hm : L[b]? = some (bm, .cells (strCells bs) mk)) (hpb : p ≠ b) (M : MemIs bs base m) (hb : base + 16 ≤ 40) (hk : k < 4096) {a : Int} (ea : a = (k : Int))
    {Q : Int → Int → Heap → Prop} (hq : ∀ h', Keeps none_ h h' → Q (byteAt bs base k) 0 h') : palisadelaw24_Flat_Load U (some ⟨gb, 0⟩) a 1 Q h := by
  subst ea
  unfold palisadelaw24_Flat_Load
  rw [der_some]
  refine S.rI hg rfl (br_f (decide_eq_false (by rw [show IntKind.u64.wrap (IntKind.i64.wrap (256 * 16)) = 4096 by decide]; omega)) ?_)
  rw [der_some]
  refine S.rP hg rfl ?_
  rw [der_some]
  refine S.rI hg rfl ?_
  have e : IntKind.u64.wrap ((k : Int) + IntKind.u64.wrap (IntKind.i64.wrap (256 * (base : Int)))) = ((256 * base + k : Nat) : Int) := by
    rw [wrap64 (x := 256 * (base : Int)), wrapu64 (x := 256 * (base : Int)), wrapu64] <;> omega
  rw [e]
  have hok : errN 1 bs.length ((256 * base + k : Nat) : Int) = 0 := by
    rw [M.len]
    unfold errN
    rw [if_neg (by simp), show lies 10240 ((256 * base + k : Nat) : Int) ((1 : Nat) : Int) = true by simp [lies]; omega]
    rfl
  refine LoadN_of (w.keeps S.keeps hw) (mrep S hp hm hpb M.len) (n := 1) (.inl rfl) hk1 (by omega) (by omega) (fun _ g1 k1 => ?_) (fun hne => absurd hok hne) rfl
  exact hq g1 k1

theorem tell_gen (hu : GU U U') {cb gb pm bm base c : Nat} {bs : List UInt8} {mk mk' : Bool} {rest : List V} {m : Nat → Int} {st : Int} {ps : List Pt} {q : Pt} {k : Nat} (M : MemIs bs base m) (hb : base + 16 ≤ 40) (hst : 0 ≤ st ∧ st ≤ 255) (hps : 1 ≤ ps.length ∧ ps.length ≤ 8) (hq' : ps[ps.length - 1]? = some q) (hk : q.a = (k : Int)) (hk2 : k < 4096)
    (S : St h0 W [(cb, .cells (pcells ps ++ rest) mk'), (gb, .cells (flatC pm (base : Int)) false), (pm, .cells (memC bm) false), (bm, .cells (strCells bs) mk)] h) {Q : Int → Heap → Prop}
    (hq0 : q.w = false → ∀ h', St h0 W [(cb, .cells (pcells ps ++ rest) mk'), (gb, .cells (flatC pm (base : Int)) false), (pm, .cells (memC bm) false), (bm, .cells (strCells bs) mk)] h' → Q 0 h')
    (hq1 : q.w = true → ∀ bs' m' mk2 h', MemIs bs' base m' → (∀ j, j < 512 → j ≠ k / 8 → m' j = m j) → byteAt bs' base k = st → St h0 W [(cb, .cells (pcells ps ++ rest) mk'), (gb, .cells (flatC pm (base : Int)) false), (pm, .cells (memC bm) false), (bm, .cells (strCells bs') mk2)] h' → Q 1 h') :
    backend_tell U (.iface 4 (.ptr (some ⟨gb, 0⟩))) 0 ⟨some ⟨cb, 0⟩, ps.length, c⟩ st Q h := by
  have c0 : (pcells ps ++ rest)[0 + (ps.length - 1) * 3 + 0]? = some (.int .u64 q.a) := by rw [Nat.zero_add]; exact (pcells_get hq' (by decide)).trans rfl
  have c1 : (pcells ps ++ rest)[0 + (ps.length - 1) * 3 + 1]? = some (.int .i64 q.l) := by rw [Nat.zero_add]; exact (pcells_get hq' (by decide)).trans rfl
  have c2 : (pcells ps ++ rest)[0 + (ps.length - 1) * 3 + 2]? = some (.bool q.w) := by rw [Nat.zero_add]; exact (pcells_get hq' (by decide)).trans rfl
  unfold backend_tell
  ((with_reducible apply St.al); assumption; intro b1 g_ S_)
  repeat (first | ((with_reducible first|apply St.rI|apply St.rB|apply St.rP|apply St.rSl|apply St.rV|apply St.rM|apply St.rS|apply St.rN|apply St.ckA);assumption;(first|exact i0|exact i1|exact i2|exact i3|exact i4|exact i5|exact i6|exact i7|exact i8|exact i9|exact i10|exact i11|exact i12|exact i13|exact i14|exact i15);(first|rfl|exact Nat.le_of_ble_eq_true rfl)) | with_reducible refine der_of ?_ | ((with_reducible refine br_t ?_ ?_);rfl) | ((with_reducible refine br_f ?_ ?_);rfl) | ((with_reducible refine br_t ?_ ?_);assumption) | ((with_reducible refine br_f ?_ ?_);assumption) | ((with_reducible first|apply St.wrL|apply St.wr);assumption;(first|exact i0|exact i1|exact i2|exact i3|exact i4|exact i5|exact i6|exact i7|exact i8|exact i9|exact i10|exact i11|exact i12|exact i13|exact i14|exact i15);(first|exact Nat.le_of_ble_eq_true rfl|rfl);intro g_ S_;simp only [Ptr.add, List.set, splice, List.take, List.drop, List.nil_append, List.append_nil, List.cons_append, List.length_cons, List.length_nil, Nat.zero_add, Nat.add_zero, Nat.reduceAdd, Nat.reduceMul, Nat.mul_one, Int.toNat_zero, Int.toNat_one, Int.reduceToNat] at S_) | ((with_reducible refine ix_of ?_ ?_ ?_);exact of_decide_eq_true rfl;exact of_decide_eq_true rfl) | ((with_reducible first|refine nz_of ?_ ?_|refine nneg_of ?_ ?_);exact of_decide_eq_true rfl) | ((with_reducible refine chk_of ?_ ?_);rfl) | (with_reducible first|apply asI_of|apply asB_of|apply asP_of|apply asSl_of|apply asAggV_of|apply asTupV_of|apply asCons_of|apply asNil_of|apply isNil_n|apply isNil_i|apply nilC_i|apply nilCU_i|apply nilCU_f|apply mthC_i) | ((with_reducible refine And.intro ?_ ?_);rfl) | ((with_reducible apply exAnd);rfl))
  have ei : IntKind.i64.wrap ((ps.length : Int) - 1) = ((ps.length - 1 : Nat) : Int) := by rw [wrap64] <;> omega
  show ix (IntKind.i64.wrap ((ps.length : Int) - 1)) ps.length _
  rw [ei]
  refine ix_of (by omega) (by omega) ?_
  rw [der_some, Int.toNat_natCast]
  refine S_.rI i1 c0 (S_.rI i1 c1 (S_.rB i1 c2 ?_))
  ((with_reducible apply St.al); assumption; intro b2 g_ S_)
  repeat (first | ((with_reducible first|apply St.rI|apply St.rB|apply St.rP|apply St.rSl|apply St.rV|apply St.rM|apply St.rS|apply St.rN|apply St.ckA);assumption;(first|exact i0|exact i1|exact i2|exact i3|exact i4|exact i5|exact i6|exact i7|exact i8|exact i9|exact i10|exact i11|exact i12|exact i13|exact i14|exact i15);(first|rfl|exact Nat.le_of_ble_eq_true rfl)) | with_reducible refine der_of ?_ | ((with_reducible refine br_t ?_ ?_);rfl) | ((with_reducible refine br_f ?_ ?_);rfl) | ((with_reducible refine br_t ?_ ?_);assumption) | ((with_reducible refine br_f ?_ ?_);assumption) | ((with_reducible first|apply St.wrL|apply St.wr);assumption;(first|exact i0|exact i1|exact i2|exact i3|exact i4|exact i5|exact i6|exact i7|exact i8|exact i9|exact i10|exact i11|exact i12|exact i13|exact i14|exact i15);(first|exact Nat.le_of_ble_eq_true rfl|rfl);intro g_ S_;simp only [Ptr.add, List.set, splice, List.take, List.drop, List.nil_append, List.append_nil, List.cons_append, List.length_cons, List.length_nil, Nat.zero_add, Nat.add_zero, Nat.reduceAdd, Nat.reduceMul, Nat.mul_one, Int.toNat_zero, Int.toNat_one, Int.reduceToNat] at S_) | ((with_reducible refine ix_of ?_ ?_ ?_);exact of_decide_eq_true rfl;exact of_decide_eq_true rfl) | ((with_reducible first|refine nz_of ?_ ?_|refine nneg_of ?_ ?_);exact of_decide_eq_true rfl) | ((with_reducible refine chk_of ?_ ?_);rfl) | (with_reducible first|apply asI_of|apply asB_of|apply asP_of|apply asSl_of|apply asAggV_of|apply asTupV_of|apply asCons_of|apply asNil_of|apply isNil_n|apply isNil_i|apply nilC_i|apply nilCU_i|apply nilCU_f|apply mthC_i) | ((with_reducible refine And.intro ?_ ?_);rfl) | ((with_reducible apply exAnd);rfl))
  cases hw : q.w
  · repeat (first | ((with_reducible first|apply St.rI|apply St.rB|apply St.rP|apply St.rSl|apply St.rV|apply St.rM|apply St.rS|apply St.rN|apply St.ckA);assumption;(first|exact i0|exact i1|exact i2|exact i3|exact i4|exact i5|exact i6|exact i7|exact i8|exact i9|exact i10|exact i11|exact i12|exact i13|exact i14|exact i15);(first|rfl|exact Nat.le_of_ble_eq_true rfl)) | with_reducible refine der_of ?_ | ((with_reducible refine br_t ?_ ?_);rfl) | ((with_reducible refine br_f ?_ ?_);rfl) | ((with_reducible refine br_t ?_ ?_);assumption) | ((with_reducible refine br_f ?_ ?_);assumption) | ((with_reducible first|apply St.wrL|apply St.wr);assumption;(first|exact i0|exact i1|exact i2|exact i3|exact i4|exact i5|exact i6|exact i7|exact i8|exact i9|exact i10|exact i11|exact i12|exact i13|exact i14|exact i15);(first|exact Nat.le_of_ble_eq_true rfl|rfl);intro g_ S_;simp only [Ptr.add, List.set, splice, List.take, List.drop, List.nil_append, List.append_nil, List.cons_append, List.length_cons, List.length_nil, Nat.zero_add, Nat.add_zero, Nat.reduceAdd, Nat.reduceMul, Nat.mul_one, Int.toNat_zero, Int.toNat_one, Int.reduceToNat] at S_) | ((with_reducible refine ix_of ?_ ?_ ?_);exact of_decide_eq_true rfl;exact of_decide_eq_true rfl) | ((with_reducible first|refine nz_of ?_ ?_|refine nneg_of ?_ ?_);exact of_decide_eq_true rfl) | ((with_reducible refine chk_of ?_ ?_);rfl) | (with_reducible first|apply asI_of|apply asB_of|apply asP_of|apply asSl_of|apply asAggV_of|apply asTupV_of|apply asCons_of|apply asNil_of|apply isNil_n|apply isNil_i|apply nilC_i|apply nilCU_i|apply nilCU_f|apply mthC_i) | ((with_reducible refine And.intro ?_ ?_);rfl) | ((with_reducible apply exAnd);rfl))
    exact hq0 hw _ (St.pick S_ [2, 3, 4, 5] (by decide) rfl)
  · repeat (first | ((with_reducible first|apply St.rI|apply St.rB|apply St.rP|apply St.rSl|apply St.rV|apply St.rM|apply St.rS|apply St.rN|apply St.ckA);assumption;(first|exact i0|exact i1|exact i2|exact i3|exact i4|exact i5|exact i6|exact i7|exact i8|exact i9|exact i10|exact i11|exact i12|exact i13|exact i14|exact i15);(first|rfl|exact Nat.le_of_ble_eq_true rfl)) | with_reducible refine der_of ?_ | ((with_reducible refine br_t ?_ ?_);rfl) | ((with_reducible refine br_f ?_ ?_);rfl) | ((with_reducible refine br_t ?_ ?_);assumption) | ((with_reducible refine br_f ?_ ?_);assumption) | ((with_reducible first|apply St.wrL|apply St.wr);assumption;(first|exact i0|exact i1|exact i2|exact i3|exact i4|exact i5|exact i6|exact i7|exact i8|exact i9|exact i10|exact i11|exact i12|exact i13|exact i14|exact i15);(first|exact Nat.le_of_ble_eq_true rfl|rfl);intro g_ S_;simp only [Ptr.add, List.set, splice, List.take, List.drop, List.nil_append, List.append_nil, List.cons_append, List.length_cons, List.length_nil, Nat.zero_add, Nat.add_zero, Nat.reduceAdd, Nat.reduceMul, Nat.mul_one, Int.toNat_zero, Int.toNat_one, Int.reduceToNat] at S_) | ((with_reducible refine ix_of ?_ ?_ ?_);exact of_decide_eq_true rfl;exact of_decide_eq_true rfl) | ((with_reducible first|refine nz_of ?_ ?_|refine nneg_of ?_ ?_);exact of_decide_eq_true rfl) | ((with_reducible refine chk_of ?_ ?_);rfl) | (with_reducible first|apply asI_of|apply asB_of|apply asP_of|apply asSl_of|apply asAggV_of|apply asTupV_of|apply asCons_of|apply asNil_of|apply isNil_n|apply isNil_i|apply nilC_i|apply nilCU_i|apply nilCU_f|apply mthC_i) | ((with_reducible refine And.intro ?_ ?_);rfl) | ((with_reducible apply exAnd);rfl))
    ((with_reducible apply St.al); assumption; intro c3 g_ S_)
    have H : Held g_ ⟨some ⟨c3, 0⟩, 1, 1⟩ 1 (strCells [UInt8.ofNat st.toNat]) := by
      refine ⟨rfl, fun p hp i v hv => ?_, fun hp => by cases hp⟩
      cases hp
      rw [get_cells (S_.obj i0), Nat.zero_add, ← hv]
      have : ((UInt8.ofNat st.toNat).toNat : Int) = st := by
        have h1 : (UInt8.ofNat st.toNat).toNat = st.toNat % 256 := by simp
        rw [h1]; omega
      have e : strCells [UInt8.ofNat st.toNat] = [V.int .u8 st] := by simp only [strCells, List.map_cons, List.map_nil, this]
      rw [e]
    refine hu.put _ _ _ _ _ (gput2 (g := 4) (p := 5) (b := 6) (k := k) S_ rfl rfl rfl (by decide) M hb H (by show k + 1 ≤ 4096; omega) hk (fun mk2 g1 S1 => ?_))
    simp only [List.set] at S1
    clear S_
    repeat (first | ((with_reducible first|apply St.rI|apply St.rB|apply St.rP|apply St.rSl|apply St.rV|apply St.rM|apply St.rS|apply St.rN|apply St.ckA);assumption;(first|exact i0|exact i1|exact i2|exact i3|exact i4|exact i5|exact i6|exact i7|exact i8|exact i9|exact i10|exact i11|exact i12|exact i13|exact i14|exact i15);(first|rfl|exact Nat.le_of_ble_eq_true rfl)) | with_reducible refine der_of ?_ | ((with_reducible refine br_t ?_ ?_);rfl) | ((with_reducible refine br_f ?_ ?_);rfl) | ((with_reducible refine br_t ?_ ?_);assumption) | ((with_reducible refine br_f ?_ ?_);assumption) | ((with_reducible first|apply St.wrL|apply St.wr);assumption;(first|exact i0|exact i1|exact i2|exact i3|exact i4|exact i5|exact i6|exact i7|exact i8|exact i9|exact i10|exact i11|exact i12|exact i13|exact i14|exact i15);(first|exact Nat.le_of_ble_eq_true rfl|rfl);intro g_ S_;simp only [Ptr.add, List.set, splice, List.take, List.drop, List.nil_append, List.append_nil, List.cons_append, List.length_cons, List.length_nil, Nat.zero_add, Nat.add_zero, Nat.reduceAdd, Nat.reduceMul, Nat.mul_one, Int.toNat_zero, Int.toNat_one, Int.reduceToNat] at S_) | ((with_reducible refine ix_of ?_ ?_ ?_);exact of_decide_eq_true rfl;exact of_decide_eq_true rfl) | ((with_reducible first|refine nz_of ?_ ?_|refine nneg_of ?_ ?_);exact of_decide_eq_true rfl) | ((with_reducible refine chk_of ?_ ?_);rfl) | (with_reducible first|apply asI_of|apply asB_of|apply asP_of|apply asSl_of|apply asAggV_of|apply asTupV_of|apply asCons_of|apply asNil_of|apply isNil_n|apply isNil_i|apply nilC_i|apply nilCU_i|apply nilCU_f|apply mthC_i) | ((with_reducible refine And.intro ?_ ?_);rfl) | ((with_reducible apply exAnd);rfl))
    obtain ⟨m', M', hm'⟩ := M.other (xs := [UInt8.ofNat st.toNat]) (a := 256 * base + k) (by simp only [List.length_cons, List.length_nil]; omega)
    have hl := M.len
    refine hq1 hw _ m' mk2 _ M' (fun j hj hne => hm' j hj (by simp only [List.length_cons, List.length_nil]; omega)) ?_ (St.pick S1 [3, 4, 5, 6] (by decide) rfl)
    rw [byteAt_put (by omega)]
    have h1 : (UInt8.ofNat st.toNat).toNat = st.toNat % 256 := by simp
    rw [h1]; omega

end
end Go.Back

/- Bytes that are held, or none; a console. -/
namespace Go.Lift

/-- A slice of bytes: none, or one with a block of its own. -/
def Bs (h : Heap) (s : Sl) (xs : List UInt8) (F : Nat → Prop) : Prop := (xs = [] ∧ s = ⟨none, 0, 0⟩) ∨ ∃ b, Own h s 1 (strCells xs) b ∧ F b

section
variable {h h' : Heap} {s : Sl} {xs : List UInt8} {F : Nat → Prop}

theorem Bs.nil : Bs h ⟨none, 0, 0⟩ [] F := .inl ⟨rfl, rfl⟩

theorem Bs.held (B : Bs h s xs F) : Held h s 1 (strCells xs) := by
  rcases B with ⟨rfl, rfl⟩ | ⟨b, O, _⟩
  · exact Held.empty
  · exact O.held

theorem Bs.cap (B : Bs h s xs F) : s.len ≤ s.cap := by
  rcases B with ⟨rfl, rfl⟩ | ⟨b, O, _⟩
  · exact Nat.le_refl 0
  · exact O.cap

theorem Bs.keeps {S : Nat → Prop} (B : Bs h s xs F) (k : Keeps S h h') (hs : ∀ b, F b → ¬ S b) : Bs h' s xs F := by
  rcases B with ⟨rfl, rfl⟩ | ⟨b, O, f⟩
  · exact .inl ⟨rfl, rfl⟩
  · exact .inr ⟨b, O.keeps k (hs b f), f⟩

theorem Bs.keepN {S : Nat → Prop} (B : Bs h s xs F) (k : Keeps S h h') (hs : ∀ b, F b → h.obj b ≠ none → ¬ S b) : Bs h' s xs F := by
  rcases B with ⟨rfl, rfl⟩ | ⟨b, O, f⟩
  · exact .inl ⟨rfl, rfl⟩
  · exact .inr ⟨b, O.keeps k (hs b f O.known), f⟩

theorem Bs.mono {F' : Nat → Prop} (B : Bs h s xs F) (hf : ∀ b, F b → F' b) : Bs h s xs F' := by
  rcases B with ⟨rfl, rfl⟩ | ⟨b, O, f⟩
  · exact .inl ⟨rfl, rfl⟩
  · exact .inr ⟨b, O, hf b f⟩

theorem app_bytes {ys : List UInt8} {m : Nat} (B : Bs h s xs F) (hm : m = ys.length) (hx : xs.length ≤ 1000000) (hy : ys.length ≤ 1000000) {κ : Sl → Heap → Prop}
    (hk : ∀ s' h', Bs h' s' (xs ++ ys) (fun b => F b ∨ h.obj b = none) → Keeps F h h' → κ s' h') : appS 1 1 [.int .u8 0] s (strCells ys) m κ h := by
  subst hm
  rcases B with ⟨rfl, rfl⟩ | ⟨b, O, f⟩
  · cases ys with
    | nil =>
      unfold appS
      rw [if_pos (by decide)]
      exact ⟨rfl, hk _ h (.inl ⟨rfl, rfl⟩) (Keeps.refl _ _)⟩
    | cons y ys =>
      refine appS_nil (by rw [strCells_length]; simp) (by simp) rfl (by omega) (by omega) (fun s' h1 b' O hl hb k1 => hk s' h1 (.inr ⟨b', O, .inr hb⟩) (k1.mono (fun _ f => f.elim)))
  · have hsl := O.len
    rw [strCells_length] at hsl
    refine appS_own O (by rw [strCells_length]; simp) rfl (by omega) (by omega) (fun s' h1 b' O1 hl hb k1 => hk s' h1 (.inr ⟨b', by rw [strCells_append]; exact O1, ?_⟩) (k1.mono (fun x e => e ▸ f)))
    rcases hb with rfl | hb
    · exact .inl f
    · exact .inr hb

theorem appS_in {b o n c m bytes : Nat} {L new z : List V} {mk : Bool} {κ : Sl → Heap → Prop} (ho : h.obj b = some (.cells L mk)) (hc : n + m ≤ c) (hl : o + n + new.length ≤ L.length)
    (hk : ∀ h', h'.obj b = some (.cells (splice L (o + n) new) mk) → Keeps (· = b) h h' → κ ⟨some ⟨b, o⟩, n + m, c⟩ h') : appS 1 bytes z ⟨some ⟨b, o⟩, n, c⟩ new m κ h := by
  unfold appS
  rw [if_pos hc]
  show wrL new (⟨b, o + n * 1⟩ : Ptr) 0 _ h
  rw [Nat.mul_one]
  exact wrL_of (j := 0) ho (by omega) (fun h' ho' k => hk h' ho' k)

/-- The first part of a slice goes. -/
theorem Delete_of {b k : Nat} (O : Own h s 1 (strCells xs) b) (hk : k ≤ xs.length) (hx : xs.length ≤ 1000000) {Q : Sl → Heap → Prop} (hq : ∀ s' h', Keeps (· = b) h h' → Q s' h') {a3 : Int} (ea : a3 = (k : Int)) : Go.Fn.slices_Delete_byte_byte s 0 a3 Q h := by
  subst ea
  have hsl := O.len
  rw [strCells_length] at hsl
  have hcap := O.cap
  obtain ⟨rest, mk, ho, hr⟩ := O.obj
  have hp := O.p
  obtain ⟨sp, sl, sc⟩ := s
  simp only at hsl hcap hr hp
  subst hp
  obtain rfl : sl = xs.length := by omega
  unfold Go.Fn.slices_Delete_byte_byte
  dsimp only
  refine sb_of (by omega) (by omega) ?_
  rw [Int.toNat_natCast]
  refine sb_of (by omega) (by omega) ?_
  rw [Int.toNat_natCast]
  refine sb_of (by decide) (by omega) ?_
  by_cases e : k = 0
  · subst e
    exact br_t rfl (hq _ _ (Keeps.refl _ _))
  refine br_f (by simp; omega) ?_
  refine sb_of (by decide) (by omega) ?_
  refine sb_of (by omega) (by omega) ?_
  rw [Int.toNat_natCast]
  have H : Held h ⟨slp (some ⟨b, 0⟩) (k * 1) k sc, xs.length - k, sc - k⟩ 1 (strCells (xs.drop k)) := by
    refine ⟨by rw [strCells_length]; simp, fun p hp i v hv => ?_, fun hp => ?_⟩
    · have hil : i < (xs.drop k).length := by
        rcases Nat.lt_or_ge i (xs.drop k).length with h1 | h1
        · exact h1
        · rw [List.getElem?_eq_none (by rw [strCells_length]; exact h1)] at hv; cases hv
      simp only [List.length_drop] at hil
      have e1 : slp (some ⟨b, 0⟩) (k * 1) k sc = some ⟨b, k⟩ := by
        unfold slp
        rw [if_neg (by omega)]
        simp [Ptr.add]
      rw [show p = ⟨b, k⟩ from (Option.some.inj (e1.symm.trans hp)).symm, get_cells ho, List.getElem?_append_left (by rw [strCells_length]; show k + i < xs.length; omega)]
      rw [← hv]
      simp [strCells]
    · exfalso
      simp only [slp] at hp
      split at hp <;> cases hp
  refine cellsS_of H ?_
  have e2 : (⟨slp (some (⟨b, 0⟩ : Ptr)) (0 * 1) 0 sc, 0, sc⟩ : Sl) = ⟨some ⟨b, 0⟩, 0, sc⟩ := by
    simp only [slp]
    split <;> rfl
  show appS 1 1 _ (⟨slp (some (⟨b, 0⟩ : Ptr)) (0 * 1) 0 sc, 0, sc⟩ : Sl) _ _ _ _
  rw [e2]
  refine appS_in ho (by show 0 + (xs.length - k) ≤ sc; omega) (by simp only [List.length_append, strCells_length, List.length_drop]; omega) (fun h1 ho1 k1 => ?_)
  refine sb_of (by omega) (by show (xs.length : Int) ≤ (sc : Int); omega) ?_
  rw [Int.toNat_natCast]
  refine sb_of (by omega) (by show (((0 + (xs.length - k) : Nat)) : Int) ≤ (xs.length : Int); omega) ?_
  rw [Int.toNat_natCast]
  unfold Go.Fn.slices_Delete_byte_byte.j7
  have e3 : slp (some (⟨b, 0⟩ : Ptr)) ((0 + (xs.length - k)) * 1) (0 + (xs.length - k)) sc = some ⟨b, xs.length - k⟩ := by
    simp only [slp]
    rw [if_neg (by omega)]
    simp [Ptr.add]
  show clearS _ (⟨slp (some (⟨b, 0⟩ : Ptr)) ((0 + (xs.length - k)) * 1) (0 + (xs.length - k)) sc, xs.length - (0 + (xs.length - k)), _⟩ : Sl) _ _
  rw [e3]
  refine clearS_of (o := xs.length - k) rfl ho1 ?_ (fun h2 ho2 k2 => hq _ _ (k1.trans k2))
  rw [splice_length (by simp only [List.length_append, strCells_length, List.length_drop]; omega)]
  simp only [List.length_append, strCells_length, flatRep_length, List.length_cons, List.length_nil]
  omega

end
end Go.Lift
namespace Go.Cons
open Go.Lift Go.Fn Go.Mem

def consC (w o : Sl) (a b c d : Int) : List V := [.bool true, .sl w, .sl o, .int .i64 a, .int .i64 b, .int .i64 c, .int .i64 d]

section
variable {h0 h : Heap} {W : Nat → Prop} {R : List (Nat × HO)}

/-- What was free is none of the listed blocks. -/
theorem off_keys {L : List (Nat × HO)} {b : Nat} (S : St h0 W L h) (hb : h.obj b = none) : ¬ keysOf L b := fun ⟨u, hu⟩ => by rw [S.objs b u hu] at hb; cases hb

theorem Input_of {cb : Nat} {s o : Sl} {xs : List UInt8} {c d e f : Int} (S : St h0 W ((cb, .cells (consC ⟨none, 0, 0⟩ o c d e f) false) :: R) h) (H : Held h s 1 (strCells xs)) (hc : s.len ≤ s.cap) (hx : xs.length ≤ 4096) {Q : Int → Int → Heap → Prop}
    (hq : ∀ w c' d' h', St h0 W ((cb, .cells (consC w o c' d' e f) false) :: R) h' → Bs h' w xs (fun b => h.obj b = none) → Keeps (keysOf ((cb, .cells (consC ⟨none, 0, 0⟩ o c d e f) false) :: R)) h h' → Q (xs.length : Int) 0 h') : console_Console_Input (some ⟨cb, 0⟩) s Q h := by
  have hs : s.len = xs.length := by have := H.len; rw [strCells_length] at this; omega
  have S_ := S
  unfold consC at S_
  unfold console_Console_Input console_Console_none
  repeat (first | ((with_reducible first|apply St.rI|apply St.rB|apply St.rP|apply St.rSl|apply St.rV|apply St.rM|apply St.rS|apply St.rN|apply St.ckA);assumption;(first|exact i0|exact i1|exact i2|exact i3|exact i4|exact i5|exact i6|exact i7|exact i8|exact i9|exact i10|exact i11|exact i12|exact i13|exact i14|exact i15);(first|rfl|exact Nat.le_of_ble_eq_true rfl)) | with_reducible refine der_of ?_ | ((with_reducible refine br_t ?_ ?_);rfl) | ((with_reducible refine br_f ?_ ?_);rfl) | ((with_reducible refine br_t ?_ ?_);assumption) | ((with_reducible refine br_f ?_ ?_);assumption) | ((with_reducible first|apply St.wrL|apply St.wr);assumption;(first|exact i0|exact i1|exact i2|exact i3|exact i4|exact i5|exact i6|exact i7|exact i8|exact i9|exact i10|exact i11|exact i12|exact i13|exact i14|exact i15);(first|exact Nat.le_of_ble_eq_true rfl|rfl);intro g_ S_;simp only [Ptr.add, List.set, splice, List.take, List.drop, List.nil_append, List.append_nil, List.cons_append, List.length_cons, List.length_nil, Nat.zero_add, Nat.add_zero, Nat.reduceAdd, Nat.reduceMul, Nat.mul_one, Int.toNat_zero, Int.toNat_one, Int.reduceToNat] at S_) | ((with_reducible refine ix_of ?_ ?_ ?_);exact of_decide_eq_true rfl;exact of_decide_eq_true rfl) | ((with_reducible first|refine nz_of ?_ ?_|refine nneg_of ?_ ?_);exact of_decide_eq_true rfl) | ((with_reducible refine chk_of ?_ ?_);rfl) | (with_reducible first|apply asI_of|apply asB_of|apply asP_of|apply asSl_of|apply asAggV_of|apply asTupV_of|apply asCons_of|apply asNil_of|apply isNil_n|apply isNil_i|apply nilC_i|apply nilCU_i|apply nilCU_f|apply mthC_i) | ((with_reducible refine And.intro ?_ ?_);rfl) | ((with_reducible apply exAnd);rfl))
  have em : minI ((s.len : Nat) : Int) (IntKind.i64.wrap (4096 - (((⟨none, 0, 0⟩ : Sl).len : Nat) : Int))) = (xs.length : Int) := by
    rw [hs, show (((⟨none, 0, 0⟩ : Sl).len : Nat) : Int) = 0 from rfl, show IntKind.i64.wrap (4096 - 0) = 4096 by decide]
    unfold minI
    rw [if_neg (by omega)]
  rw [em]
  refine sb_of (by omega) (by omega) ?_
  rw [Int.toNat_natCast]
  refine cellsS_of (vs := strCells xs) (by have := held_slp (n := s.cap) (c := s.cap - 0) H; rw [hs] at this; exact this) ?_
  refine app_bytes (Bs.nil (F := fun _ => False)) rfl (by decide) (by omega) (fun w h1 B k1 => ?_)
  rw [List.nil_append] at B
  have S1 := S_.keep k1
  clear S_
  have S_ := S1.base
  repeat (first | ((with_reducible first|apply St.rI|apply St.rB|apply St.rP|apply St.rSl|apply St.rV|apply St.rM|apply St.rS|apply St.rN|apply St.ckA);assumption;(first|exact i0|exact i1|exact i2|exact i3|exact i4|exact i5|exact i6|exact i7|exact i8|exact i9|exact i10|exact i11|exact i12|exact i13|exact i14|exact i15);(first|rfl|exact Nat.le_of_ble_eq_true rfl)) | with_reducible refine der_of ?_ | ((with_reducible refine br_t ?_ ?_);rfl) | ((with_reducible refine br_f ?_ ?_);rfl) | ((with_reducible refine br_t ?_ ?_);assumption) | ((with_reducible refine br_f ?_ ?_);assumption) | ((with_reducible first|apply St.wrL|apply St.wr);assumption;(first|exact i0|exact i1|exact i2|exact i3|exact i4|exact i5|exact i6|exact i7|exact i8|exact i9|exact i10|exact i11|exact i12|exact i13|exact i14|exact i15);(first|exact Nat.le_of_ble_eq_true rfl|rfl);intro g_ S_;simp only [Ptr.add, List.set, splice, List.take, List.drop, List.nil_append, List.append_nil, List.cons_append, List.length_cons, List.length_nil, Nat.zero_add, Nat.add_zero, Nat.reduceAdd, Nat.reduceMul, Nat.mul_one, Int.toNat_zero, Int.toNat_one, Int.reduceToNat] at S_) | ((with_reducible refine ix_of ?_ ?_ ?_);exact of_decide_eq_true rfl;exact of_decide_eq_true rfl) | ((with_reducible first|refine nz_of ?_ ?_|refine nneg_of ?_ ?_);exact of_decide_eq_true rfl) | ((with_reducible refine chk_of ?_ ?_);rfl) | (with_reducible first|apply asI_of|apply asB_of|apply asP_of|apply asSl_of|apply asAggV_of|apply asTupV_of|apply asCons_of|apply asNil_of|apply isNil_n|apply isNil_i|apply nilC_i|apply nilCU_i|apply nilCU_f|apply mthC_i) | ((with_reducible refine And.intro ?_ ?_);rfl) | ((with_reducible apply exAnd);rfl))
  unfold console_Console_Input.j5
  repeat (first | ((with_reducible first|apply St.rI|apply St.rB|apply St.rP|apply St.rSl|apply St.rV|apply St.rM|apply St.rS|apply St.rN|apply St.ckA);assumption;(first|exact i0|exact i1|exact i2|exact i3|exact i4|exact i5|exact i6|exact i7|exact i8|exact i9|exact i10|exact i11|exact i12|exact i13|exact i14|exact i15);(first|rfl|exact Nat.le_of_ble_eq_true rfl)) | with_reducible refine der_of ?_ | ((with_reducible refine br_t ?_ ?_);rfl) | ((with_reducible refine br_f ?_ ?_);rfl) | ((with_reducible refine br_t ?_ ?_);assumption) | ((with_reducible refine br_f ?_ ?_);assumption) | ((with_reducible first|apply St.wrL|apply St.wr);assumption;(first|exact i0|exact i1|exact i2|exact i3|exact i4|exact i5|exact i6|exact i7|exact i8|exact i9|exact i10|exact i11|exact i12|exact i13|exact i14|exact i15);(first|exact Nat.le_of_ble_eq_true rfl|rfl);intro g_ S_;simp only [Ptr.add, List.set, splice, List.take, List.drop, List.nil_append, List.append_nil, List.cons_append, List.length_cons, List.length_nil, Nat.zero_add, Nat.add_zero, Nat.reduceAdd, Nat.reduceMul, Nat.mul_one, Int.toNat_zero, Int.toNat_one, Int.reduceToNat] at S_) | ((with_reducible refine ix_of ?_ ?_ ?_);exact of_decide_eq_true rfl;exact of_decide_eq_true rfl) | ((with_reducible first|refine nz_of ?_ ?_|refine nneg_of ?_ ?_);exact of_decide_eq_true rfl) | ((with_reducible refine chk_of ?_ ?_);rfl) | (with_reducible first|apply asI_of|apply asB_of|apply asP_of|apply asSl_of|apply asAggV_of|apply asTupV_of|apply asCons_of|apply asNil_of|apply isNil_n|apply isNil_i|apply nilC_i|apply nilCU_i|apply nilCU_f|apply mthC_i) | ((with_reducible refine And.intro ?_ ?_);rfl) | ((with_reducible apply exAnd);rfl))
  unfold console_Console_Input.j7
  refine hq w _ _ _ (S1.back S_) ?_ ?_
  · refine (B.keeps S_.keeps (fun b hb => ?_)).mono (fun b hb => ?_)
    · rcases hb with hb | hb
      · exact hb.elim
      · exact off_keys S hb
    · rcases hb with hb | hb
      · exact hb.elim
      · exact hb
  · exact (k1.mono (fun _ f => f.elim)).trans S_.keeps

theorem Write_of {cb : Nat} {s w : Sl} {xs : List UInt8} {c d e f : Int} (S : St h0 W ((cb, .cells (consC w ⟨none, 0, 0⟩ c d e f) false) :: R) h) (H : Held h s 1 (strCells xs)) (hc : s.len ≤ s.cap) (hx : xs.length ≤ 4096) {Q : Int → Int → Heap → Prop}
    (hq : ∀ o f' h', St h0 W ((cb, .cells (consC w o c d e f') false) :: R) h' → Bs h' o xs (fun b => h.obj b = none) → Keeps (keysOf ((cb, .cells (consC w ⟨none, 0, 0⟩ c d e f) false) :: R)) h h' → Q (xs.length : Int) 0 h') : console_Console_Write (some ⟨cb, 0⟩) s Q h := by
  have hs : s.len = xs.length := by have := H.len; rw [strCells_length] at this; omega
  have S_ := S
  unfold consC at S_
  unfold console_Console_Write console_Console_none
  repeat (first | ((with_reducible first|apply St.rI|apply St.rB|apply St.rP|apply St.rSl|apply St.rV|apply St.rM|apply St.rS|apply St.rN|apply St.ckA);assumption;(first|exact i0|exact i1|exact i2|exact i3|exact i4|exact i5|exact i6|exact i7|exact i8|exact i9|exact i10|exact i11|exact i12|exact i13|exact i14|exact i15);(first|rfl|exact Nat.le_of_ble_eq_true rfl)) | with_reducible refine der_of ?_ | ((with_reducible refine br_t ?_ ?_);rfl) | ((with_reducible refine br_f ?_ ?_);rfl) | ((with_reducible refine br_t ?_ ?_);assumption) | ((with_reducible refine br_f ?_ ?_);assumption) | ((with_reducible first|apply St.wrL|apply St.wr);assumption;(first|exact i0|exact i1|exact i2|exact i3|exact i4|exact i5|exact i6|exact i7|exact i8|exact i9|exact i10|exact i11|exact i12|exact i13|exact i14|exact i15);(first|exact Nat.le_of_ble_eq_true rfl|rfl);intro g_ S_;simp only [Ptr.add, List.set, splice, List.take, List.drop, List.nil_append, List.append_nil, List.cons_append, List.length_cons, List.length_nil, Nat.zero_add, Nat.add_zero, Nat.reduceAdd, Nat.reduceMul, Nat.mul_one, Int.toNat_zero, Int.toNat_one, Int.reduceToNat] at S_) | ((with_reducible refine ix_of ?_ ?_ ?_);exact of_decide_eq_true rfl;exact of_decide_eq_true rfl) | ((with_reducible first|refine nz_of ?_ ?_|refine nneg_of ?_ ?_);exact of_decide_eq_true rfl) | ((with_reducible refine chk_of ?_ ?_);rfl) | (with_reducible first|apply asI_of|apply asB_of|apply asP_of|apply asSl_of|apply asAggV_of|apply asTupV_of|apply asCons_of|apply asNil_of|apply isNil_n|apply isNil_i|apply nilC_i|apply nilCU_i|apply nilCU_f|apply mthC_i) | ((with_reducible refine And.intro ?_ ?_);rfl) | ((with_reducible apply exAnd);rfl))
  have em : minI ((s.len : Nat) : Int) (IntKind.i64.wrap (1048576 - (((⟨none, 0, 0⟩ : Sl).len : Nat) : Int))) = (xs.length : Int) := by
    rw [hs, show (((⟨none, 0, 0⟩ : Sl).len : Nat) : Int) = 0 from rfl, show IntKind.i64.wrap (1048576 - 0) = 1048576 by decide]
    unfold minI
    rw [if_neg (by omega)]
  rw [em]
  refine sb_of (by omega) (by omega) ?_
  rw [Int.toNat_natCast]
  refine cellsS_of (vs := strCells xs) (by have := held_slp (n := s.cap) (c := s.cap - 0) H; rw [hs] at this; exact this) ?_
  refine app_bytes (Bs.nil (F := fun _ => False)) rfl (by decide) (by omega) (fun o h1 B k1 => ?_)
  rw [List.nil_append] at B
  have S1 := S_.keep k1
  clear S_
  have S_ := S1.base
  repeat (first | ((with_reducible first|apply St.rI|apply St.rB|apply St.rP|apply St.rSl|apply St.rV|apply St.rM|apply St.rS|apply St.rN|apply St.ckA);assumption;(first|exact i0|exact i1|exact i2|exact i3|exact i4|exact i5|exact i6|exact i7|exact i8|exact i9|exact i10|exact i11|exact i12|exact i13|exact i14|exact i15);(first|rfl|exact Nat.le_of_ble_eq_true rfl)) | with_reducible refine der_of ?_ | ((with_reducible refine br_t ?_ ?_);rfl) | ((with_reducible refine br_f ?_ ?_);rfl) | ((with_reducible refine br_t ?_ ?_);assumption) | ((with_reducible refine br_f ?_ ?_);assumption) | ((with_reducible first|apply St.wrL|apply St.wr);assumption;(first|exact i0|exact i1|exact i2|exact i3|exact i4|exact i5|exact i6|exact i7|exact i8|exact i9|exact i10|exact i11|exact i12|exact i13|exact i14|exact i15);(first|exact Nat.le_of_ble_eq_true rfl|rfl);intro g_ S_;simp only [Ptr.add, List.set, splice, List.take, List.drop, List.nil_append, List.append_nil, List.cons_append, List.length_cons, List.length_nil, Nat.zero_add, Nat.add_zero, Nat.reduceAdd, Nat.reduceMul, Nat.mul_one, Int.toNat_zero, Int.toNat_one, Int.reduceToNat] at S_) | ((with_reducible refine ix_of ?_ ?_ ?_);exact of_decide_eq_true rfl;exact of_decide_eq_true rfl) | ((with_reducible first|refine nz_of ?_ ?_|refine nneg_of ?_ ?_);exact of_decide_eq_true rfl) | ((with_reducible refine chk_of ?_ ?_);rfl) | (with_reducible first|apply asI_of|apply asB_of|apply asP_of|apply asSl_of|apply asAggV_of|apply asTupV_of|apply asCons_of|apply asNil_of|apply isNil_n|apply isNil_i|apply nilC_i|apply nilCU_i|apply nilCU_f|apply mthC_i) | ((with_reducible refine And.intro ?_ ?_);rfl) | ((with_reducible apply exAnd);rfl))
  unfold console_Console_Write.j5
  repeat (first | ((with_reducible first|apply St.rI|apply St.rB|apply St.rP|apply St.rSl|apply St.rV|apply St.rM|apply St.rS|apply St.rN|apply St.ckA);assumption;(first|exact i0|exact i1|exact i2|exact i3|exact i4|exact i5|exact i6|exact i7|exact i8|exact i9|exact i10|exact i11|exact i12|exact i13|exact i14|exact i15);(first|rfl|exact Nat.le_of_ble_eq_true rfl)) | with_reducible refine der_of ?_ | ((with_reducible refine br_t ?_ ?_);rfl) | ((with_reducible refine br_f ?_ ?_);rfl) | ((with_reducible refine br_t ?_ ?_);assumption) | ((with_reducible refine br_f ?_ ?_);assumption) | ((with_reducible first|apply St.wrL|apply St.wr);assumption;(first|exact i0|exact i1|exact i2|exact i3|exact i4|exact i5|exact i6|exact i7|exact i8|exact i9|exact i10|exact i11|exact i12|exact i13|exact i14|exact i15);(first|exact Nat.le_of_ble_eq_true rfl|rfl);intro g_ S_;simp only [Ptr.add, List.set, splice, List.take, List.drop, List.nil_append, List.append_nil, List.cons_append, List.length_cons, List.length_nil, Nat.zero_add, Nat.add_zero, Nat.reduceAdd, Nat.reduceMul, Nat.mul_one, Int.toNat_zero, Int.toNat_one, Int.reduceToNat] at S_) | ((with_reducible refine ix_of ?_ ?_ ?_);exact of_decide_eq_true rfl;exact of_decide_eq_true rfl) | ((with_reducible first|refine nz_of ?_ ?_|refine nneg_of ?_ ?_);exact of_decide_eq_true rfl) | ((with_reducible refine chk_of ?_ ?_);rfl) | (with_reducible first|apply asI_of|apply asB_of|apply asP_of|apply asSl_of|apply asAggV_of|apply asTupV_of|apply asCons_of|apply asNil_of|apply isNil_n|apply isNil_i|apply nilC_i|apply nilCU_i|apply nilCU_f|apply mthC_i) | ((with_reducible refine And.intro ?_ ?_);rfl) | ((with_reducible apply exAnd);rfl))
  refine hq o _ _ (S1.back S_) ?_ ?_
  · refine (B.keeps S_.keeps (fun b hb => ?_)).mono (fun b hb => ?_)
    · rcases hb with hb | hb
      · exact hb.elim
      · exact off_keys S hb
    · rcases hb with hb | hb
      · exact hb.elim
      · exact hb
  · exact (k1.mono (fun _ f => f.elim)).trans S_.keeps

/-- What came is read. -/
theorem Read_of {cb : Nat} {w o : Sl} {xs : List UInt8} {c d e f n : Int} {F : Nat → Prop} (S : St h0 W ((cb, .cells (consC w o c d e f) false) :: R) h) (B : Bs h w xs F) (hF : ∀ b, F b → ¬ keysOf ((cb, .cells (consC w o c d e f) false) :: R) b ∧ (h0.obj b = none ∨ W b)) (hx : xs.length ≤ 4096) (hn : 1 ≤ n ∧ n ≤ 1000000) {Q : Sl → Heap → Prop}
    (hq : ∀ w' e' (k b : Nat) h', (k : Int) = min n (xs.length : Int) → St h0 W ((cb, .cells (consC w' o c d e' f) false) :: R) h' → Own h' ⟨some ⟨b, 0⟩, k, k⟩ 1 (strCells (xs.take k)) b → h.obj b = none → Q ⟨some ⟨b, 0⟩, k, k⟩ h') : console_Console_Read (some ⟨cb, 0⟩) n Q h := by
  have hw : w.len = xs.length := by have := B.held.len; rw [strCells_length] at this; omega
  have S_ := S
  unfold consC at S_
  unfold console_Console_Read console_Console_none
  repeat (first | ((with_reducible first|apply St.rI|apply St.rB|apply St.rP|apply St.rSl|apply St.rV|apply St.rM|apply St.rS|apply St.rN|apply St.ckA);assumption;(first|exact i0|exact i1|exact i2|exact i3|exact i4|exact i5|exact i6|exact i7|exact i8|exact i9|exact i10|exact i11|exact i12|exact i13|exact i14|exact i15);(first|rfl|exact Nat.le_of_ble_eq_true rfl)) | with_reducible refine der_of ?_ | ((with_reducible refine br_t ?_ ?_);rfl) | ((with_reducible refine br_f ?_ ?_);rfl) | ((with_reducible refine br_t ?_ ?_);assumption) | ((with_reducible refine br_f ?_ ?_);assumption) | ((with_reducible first|apply St.wrL|apply St.wr);assumption;(first|exact i0|exact i1|exact i2|exact i3|exact i4|exact i5|exact i6|exact i7|exact i8|exact i9|exact i10|exact i11|exact i12|exact i13|exact i14|exact i15);(first|exact Nat.le_of_ble_eq_true rfl|rfl);intro g_ S_;simp only [Ptr.add, List.set, splice, List.take, List.drop, List.nil_append, List.append_nil, List.cons_append, List.length_cons, List.length_nil, Nat.zero_add, Nat.add_zero, Nat.reduceAdd, Nat.reduceMul, Nat.mul_one, Int.toNat_zero, Int.toNat_one, Int.reduceToNat] at S_) | ((with_reducible refine ix_of ?_ ?_ ?_);exact of_decide_eq_true rfl;exact of_decide_eq_true rfl) | ((with_reducible first|refine nz_of ?_ ?_|refine nneg_of ?_ ?_);exact of_decide_eq_true rfl) | ((with_reducible refine chk_of ?_ ?_);rfl) | (with_reducible first|apply asI_of|apply asB_of|apply asP_of|apply asSl_of|apply asAggV_of|apply asTupV_of|apply asCons_of|apply asNil_of|apply isNil_n|apply isNil_i|apply nilC_i|apply nilCU_i|apply nilCU_f|apply mthC_i) | ((with_reducible refine And.intro ?_ ?_);rfl) | ((with_reducible apply exAnd);rfl))
  refine br_f (decide_eq_false (by omega)) ?_
  repeat (first | ((with_reducible first|apply St.rI|apply St.rB|apply St.rP|apply St.rSl|apply St.rV|apply St.rM|apply St.rS|apply St.rN|apply St.ckA);assumption;(first|exact i0|exact i1|exact i2|exact i3|exact i4|exact i5|exact i6|exact i7|exact i8|exact i9|exact i10|exact i11|exact i12|exact i13|exact i14|exact i15);(first|rfl|exact Nat.le_of_ble_eq_true rfl)) | with_reducible refine der_of ?_ | ((with_reducible refine br_t ?_ ?_);rfl) | ((with_reducible refine br_f ?_ ?_);rfl) | ((with_reducible refine br_t ?_ ?_);assumption) | ((with_reducible refine br_f ?_ ?_);assumption) | ((with_reducible first|apply St.wrL|apply St.wr);assumption;(first|exact i0|exact i1|exact i2|exact i3|exact i4|exact i5|exact i6|exact i7|exact i8|exact i9|exact i10|exact i11|exact i12|exact i13|exact i14|exact i15);(first|exact Nat.le_of_ble_eq_true rfl|rfl);intro g_ S_;simp only [Ptr.add, List.set, splice, List.take, List.drop, List.nil_append, List.append_nil, List.cons_append, List.length_cons, List.length_nil, Nat.zero_add, Nat.add_zero, Nat.reduceAdd, Nat.reduceMul, Nat.mul_one, Int.toNat_zero, Int.toNat_one, Int.reduceToNat] at S_) | ((with_reducible refine ix_of ?_ ?_ ?_);exact of_decide_eq_true rfl;exact of_decide_eq_true rfl) | ((with_reducible first|refine nz_of ?_ ?_|refine nneg_of ?_ ?_);exact of_decide_eq_true rfl) | ((with_reducible refine chk_of ?_ ?_);rfl) | (with_reducible first|apply asI_of|apply asB_of|apply asP_of|apply asSl_of|apply asAggV_of|apply asTupV_of|apply asCons_of|apply asNil_of|apply isNil_n|apply isNil_i|apply nilC_i|apply nilCU_i|apply nilCU_f|apply mthC_i) | ((with_reducible refine And.intro ?_ ?_);rfl) | ((with_reducible apply exAnd);rfl))
  obtain ⟨k, hk⟩ : ∃ k : Nat, (k : Int) = min n (xs.length : Int) := ⟨(min n (xs.length : Int)).toNat, by omega⟩
  have em : minI n ((w.len : Nat) : Int) = (k : Int) := by
    rw [hw, hk]
    unfold minI
    split <;> omega
  rw [em]
  have hkx : k ≤ xs.length := by omega
  refine mkSl_of rfl (by omega) (by omega) (fun h1 b O1 hb k1 => ?_)
  have S1 := S_.keep k1
  have B1 := B.keeps k1 (fun _ _ f => f)
  clear S_
  have S_ := S1.base
  repeat (first | ((with_reducible first|apply St.rI|apply St.rB|apply St.rP|apply St.rSl|apply St.rV|apply St.rM|apply St.rS|apply St.rN|apply St.ckA);assumption;(first|exact i0|exact i1|exact i2|exact i3|exact i4|exact i5|exact i6|exact i7|exact i8|exact i9|exact i10|exact i11|exact i12|exact i13|exact i14|exact i15);(first|rfl|exact Nat.le_of_ble_eq_true rfl)) | with_reducible refine der_of ?_ | ((with_reducible refine br_t ?_ ?_);rfl) | ((with_reducible refine br_f ?_ ?_);rfl) | ((with_reducible refine br_t ?_ ?_);assumption) | ((with_reducible refine br_f ?_ ?_);assumption) | ((with_reducible first|apply St.wrL|apply St.wr);assumption;(first|exact i0|exact i1|exact i2|exact i3|exact i4|exact i5|exact i6|exact i7|exact i8|exact i9|exact i10|exact i11|exact i12|exact i13|exact i14|exact i15);(first|exact Nat.le_of_ble_eq_true rfl|rfl);intro g_ S_;simp only [Ptr.add, List.set, splice, List.take, List.drop, List.nil_append, List.append_nil, List.cons_append, List.length_cons, List.length_nil, Nat.zero_add, Nat.add_zero, Nat.reduceAdd, Nat.reduceMul, Nat.mul_one, Int.toNat_zero, Int.toNat_one, Int.reduceToNat] at S_) | ((with_reducible refine ix_of ?_ ?_ ?_);exact of_decide_eq_true rfl;exact of_decide_eq_true rfl) | ((with_reducible first|refine nz_of ?_ ?_|refine nneg_of ?_ ?_);exact of_decide_eq_true rfl) | ((with_reducible refine chk_of ?_ ?_);rfl) | (with_reducible first|apply asI_of|apply asB_of|apply asP_of|apply asSl_of|apply asAggV_of|apply asTupV_of|apply asCons_of|apply asNil_of|apply isNil_n|apply isNil_i|apply nilC_i|apply nilCU_i|apply nilCU_f|apply mthC_i) | ((with_reducible refine And.intro ?_ ?_);rfl) | ((with_reducible apply exAnd);rfl))
  refine cellsS_of (vs := strCells xs) B1.held ?_
  obtain ⟨rest, mk, ho, hr⟩ := O1.obj
  simp only [Nat.sub_self, Nat.zero_mul] at hr
  have hr0 : rest = [] := List.length_eq_zero_iff.1 hr
  subst hr0
  rw [List.append_nil] at ho
  have hmin : min w.len k = k := by rw [hw]; omega
  refine copyS_of (b := b) (o := 0) rfl ho (by rw [flatRep_length, List.length_take]; simp only [List.length_cons, List.length_nil]; show 0 + min (min w.len k * 1) _ ≤ _; rw [hmin]; omega) (fun h2 ho2 k2 => ?_)
  have e2 : splice (flatRep k [V.int .u8 0]) 0 ((strCells xs).take (min w.len k * 1)) = strCells (xs.take k) := by
    unfold splice
    rw [hmin, Nat.mul_one, List.take_zero, List.nil_append, Nat.zero_add, List.drop_eq_nil_of_le (by rw [flatRep_length, List.length_take, strCells_length]; simp only [List.length_cons, List.length_nil]; omega), List.append_nil]
    simp [strCells, List.map_take]
  have ho2' : h2.obj b = some (.cells (strCells (xs.take k)) mk) := by rw [← e2]; exact ho2
  clear ho2 e2
  have hbL : ¬ keysOf ((cb, .cells (consC w o c d e f) false) :: R) b := off_keys S hb
  have hb0 : h0.obj b = none := fresh_of S.keeps hb
  have S2 : St h0 W ((cb, .cells (consC w o c d e f) false) :: R) h2 := S1.keepW k2 (fun z v hz e => hbL ⟨v, e ▸ hz⟩) (fun z e hz => absurd hb0 (e ▸ hz))
  have O2 : Own h2 ⟨some ⟨b, 0⟩, k, k⟩ 1 (strCells (xs.take k)) b := ⟨rfl, Nat.le_refl _, by rw [strCells_length, List.length_take]; show min k xs.length = k * 1; omega, [], mk, by rw [List.append_nil]; exact ho2', by simp⟩
  have B2 : Bs h2 w xs F := B.keepN ((k1.mono (fun _ f => f.elim)).trans k2) (fun z _ hne e => hne (e ▸ hb))
  rw [hmin]
  clear S_ ho2' ho O1
  have S_ := S2.base
  have fin : ∀ (w' : Sl) (h3 : Heap), St h0 W ((cb, .cells (consC w o c d e f) false) :: R) h3 → Own h3 ⟨some ⟨b, 0⟩, k, k⟩ 1 (strCells (xs.take k)) b → h.obj b = none → der (some (⟨cb, 0⟩ : Ptr)) (fun p12 => wr (p12.add 1) (.sl w') (fun h => console_Console_Read.j6 (some ⟨cb, 0⟩) ⟨some ⟨b, 0⟩, k, k⟩ (k : Int) Q h) h3) := by
    intro w' h3 S3 O3 hb
    have S_ := S3.base
    unfold consC at S_
    repeat (first | ((with_reducible first|apply St.rI|apply St.rB|apply St.rP|apply St.rSl|apply St.rV|apply St.rM|apply St.rS|apply St.rN|apply St.ckA);assumption;(first|exact i0|exact i1|exact i2|exact i3|exact i4|exact i5|exact i6|exact i7|exact i8|exact i9|exact i10|exact i11|exact i12|exact i13|exact i14|exact i15);(first|rfl|exact Nat.le_of_ble_eq_true rfl)) | with_reducible refine der_of ?_ | ((with_reducible refine br_t ?_ ?_);rfl) | ((with_reducible refine br_f ?_ ?_);rfl) | ((with_reducible refine br_t ?_ ?_);assumption) | ((with_reducible refine br_f ?_ ?_);assumption) | ((with_reducible first|apply St.wrL|apply St.wr);assumption;(first|exact i0|exact i1|exact i2|exact i3|exact i4|exact i5|exact i6|exact i7|exact i8|exact i9|exact i10|exact i11|exact i12|exact i13|exact i14|exact i15);(first|exact Nat.le_of_ble_eq_true rfl|rfl);intro g_ S_;simp only [Ptr.add, List.set, splice, List.take, List.drop, List.nil_append, List.append_nil, List.cons_append, List.length_cons, List.length_nil, Nat.zero_add, Nat.add_zero, Nat.reduceAdd, Nat.reduceMul, Nat.mul_one, Int.toNat_zero, Int.toNat_one, Int.reduceToNat] at S_) | ((with_reducible refine ix_of ?_ ?_ ?_);exact of_decide_eq_true rfl;exact of_decide_eq_true rfl) | ((with_reducible first|refine nz_of ?_ ?_|refine nneg_of ?_ ?_);exact of_decide_eq_true rfl) | ((with_reducible refine chk_of ?_ ?_);rfl) | (with_reducible first|apply asI_of|apply asB_of|apply asP_of|apply asSl_of|apply asAggV_of|apply asTupV_of|apply asCons_of|apply asNil_of|apply isNil_n|apply isNil_i|apply nilC_i|apply nilCU_i|apply nilCU_f|apply mthC_i) | ((with_reducible refine And.intro ?_ ?_);rfl) | ((with_reducible apply exAnd);rfl))
    unfold console_Console_Read.j6
    repeat (first | ((with_reducible first|apply St.rI|apply St.rB|apply St.rP|apply St.rSl|apply St.rV|apply St.rM|apply St.rS|apply St.rN|apply St.ckA);assumption;(first|exact i0|exact i1|exact i2|exact i3|exact i4|exact i5|exact i6|exact i7|exact i8|exact i9|exact i10|exact i11|exact i12|exact i13|exact i14|exact i15);(first|rfl|exact Nat.le_of_ble_eq_true rfl)) | with_reducible refine der_of ?_ | ((with_reducible refine br_t ?_ ?_);rfl) | ((with_reducible refine br_f ?_ ?_);rfl) | ((with_reducible refine br_t ?_ ?_);assumption) | ((with_reducible refine br_f ?_ ?_);assumption) | ((with_reducible first|apply St.wrL|apply St.wr);assumption;(first|exact i0|exact i1|exact i2|exact i3|exact i4|exact i5|exact i6|exact i7|exact i8|exact i9|exact i10|exact i11|exact i12|exact i13|exact i14|exact i15);(first|exact Nat.le_of_ble_eq_true rfl|rfl);intro g_ S_;simp only [Ptr.add, List.set, splice, List.take, List.drop, List.nil_append, List.append_nil, List.cons_append, List.length_cons, List.length_nil, Nat.zero_add, Nat.add_zero, Nat.reduceAdd, Nat.reduceMul, Nat.mul_one, Int.toNat_zero, Int.toNat_one, Int.reduceToNat] at S_) | ((with_reducible refine ix_of ?_ ?_ ?_);exact of_decide_eq_true rfl;exact of_decide_eq_true rfl) | ((with_reducible first|refine nz_of ?_ ?_|refine nneg_of ?_ ?_);exact of_decide_eq_true rfl) | ((with_reducible refine chk_of ?_ ?_);rfl) | (with_reducible first|apply asI_of|apply asB_of|apply asP_of|apply asSl_of|apply asAggV_of|apply asTupV_of|apply asCons_of|apply asNil_of|apply isNil_n|apply isNil_i|apply nilC_i|apply nilCU_i|apply nilCU_f|apply mthC_i) | ((with_reducible refine And.intro ?_ ?_);rfl) | ((with_reducible apply exAnd);rfl))
    exact hq w' _ k b _ hk (S3.back S_) (O3.keeps S_.keeps hbL) hb
  repeat (first | ((with_reducible first|apply St.rI|apply St.rB|apply St.rP|apply St.rSl|apply St.rV|apply St.rM|apply St.rS|apply St.rN|apply St.ckA);assumption;(first|exact i0|exact i1|exact i2|exact i3|exact i4|exact i5|exact i6|exact i7|exact i8|exact i9|exact i10|exact i11|exact i12|exact i13|exact i14|exact i15);(first|rfl|exact Nat.le_of_ble_eq_true rfl)) | with_reducible refine der_of ?_ | ((with_reducible refine br_t ?_ ?_);rfl) | ((with_reducible refine br_f ?_ ?_);rfl) | ((with_reducible refine br_t ?_ ?_);assumption) | ((with_reducible refine br_f ?_ ?_);assumption) | ((with_reducible first|apply St.wrL|apply St.wr);assumption;(first|exact i0|exact i1|exact i2|exact i3|exact i4|exact i5|exact i6|exact i7|exact i8|exact i9|exact i10|exact i11|exact i12|exact i13|exact i14|exact i15);(first|exact Nat.le_of_ble_eq_true rfl|rfl);intro g_ S_;simp only [Ptr.add, List.set, splice, List.take, List.drop, List.nil_append, List.append_nil, List.cons_append, List.length_cons, List.length_nil, Nat.zero_add, Nat.add_zero, Nat.reduceAdd, Nat.reduceMul, Nat.mul_one, Int.toNat_zero, Int.toNat_one, Int.reduceToNat] at S_) | ((with_reducible refine ix_of ?_ ?_ ?_);exact of_decide_eq_true rfl;exact of_decide_eq_true rfl) | ((with_reducible first|refine nz_of ?_ ?_|refine nneg_of ?_ ?_);exact of_decide_eq_true rfl) | ((with_reducible refine chk_of ?_ ?_);rfl) | (with_reducible first|apply asI_of|apply asB_of|apply asP_of|apply asSl_of|apply asAggV_of|apply asTupV_of|apply asCons_of|apply asNil_of|apply isNil_n|apply isNil_i|apply nilC_i|apply nilCU_i|apply nilCU_f|apply mthC_i) | ((with_reducible refine And.intro ?_ ?_);rfl) | ((with_reducible apply exAnd);rfl))
  rcases B2 with ⟨rfl, rfl⟩ | ⟨b', O', hF'⟩
  · have hk0 : k = 0 := by simp only [List.length_nil] at hkx; omega
    subst hk0
    unfold slices_Delete_byte_byte
    refine sb_of (by decide) (by decide) (sb_of (by decide) (by decide) (sb_of (by decide) (by decide) (br_t rfl ?_)))
    exact fin _ _ S2 O2 hb
  · refine Delete_of O' hkx (by omega) (fun w' h3 k3 => ?_) rfl
    have hne : b ≠ b' := by
      rintro rfl
      rcases B with ⟨_, hwn⟩ | ⟨b2, O, _⟩
      · rw [hwn] at O'; cases O'.p
      · have : some (⟨b2, 0⟩ : Ptr) = some ⟨b, 0⟩ := O.p.symm.trans O'.p
        cases this
        exact O.known hb
    obtain ⟨hF1, hF2⟩ := hF b' hF'
    have S3 : St h0 W ((cb, .cells (consC w o c d e f) false) :: R) h3 := S2.keepW k3 (fun z v hz e => hF1 ⟨v, e ▸ hz⟩) (fun z e hz => by
      rcases hF2 with h1 | h1
      · exact absurd h1 (e ▸ hz)
      · exact e ▸ h1)
    exact fin w' h3 S3 (O2.keeps k3 hne) hb

end
end Go.Cons

/- A guest's bytes are gathered, and spread. -/
namespace Go.Back
open Go.Lift Go.Fn Go.Mem Go.Frames Go.Cons

section
variable {U U' : Ifc} {x : Nat → Int} {h0 h : Heap} {W : Nat → Prop}

theorem St.pickR' {h0 h : Heap} {W : Nat → Prop} {A A' R : List (Nat × HO)} (S : St h0 W (A ++ R) h) (is : List Nat) (hn : is.Nodup) (hl : is.map (fun i => A[i]?) = A'.map some) : St h0 W (A' ++ R) h := by
  have hm : ∀ p, p ∈ A' → p ∈ A := by
    intro p hp
    have : some p ∈ A'.map some := List.mem_map.2 ⟨p, hp, rfl⟩
    rw [← hl] at this
    obtain ⟨i, _, e⟩ := List.mem_map.1 this
    exact List.mem_of_getElem? e
  have SA := (S.sub (List.sublist_append_left A R)).pick is hn hl
  refine ⟨?_, fun b x hb => ?_, fun b x hb => ?_, S.keeps⟩
  · have hnd := S.nodup
    rw [List.map_append, List.nodup_append] at hnd ⊢
    refine ⟨SA.nodup, hnd.2.1, fun a ha b hb => hnd.2.2 a ?_ b hb⟩
    obtain ⟨p, hp, rfl⟩ := List.mem_map.1 ha
    exact List.mem_map.2 ⟨p, hm p hp, rfl⟩
  · rcases List.mem_append.1 hb with h1 | h1
    · exact SA.objs b x h1
    · exact S.objs b x (List.mem_append.2 (.inr h1))
  · rcases List.mem_append.1 hb with h1 | h1
    · exact SA.new b x h1
    · exact S.new b x (List.mem_append.2 (.inr h1))

theorem gather_of (hu : GU U U') {cb gb pm bm base c k n : Nat} {bs : List UInt8} {mk mk' : Bool} {rest : List V} {m : Nat → Int} {a1 l1 : Int} {R : List (Nat × HO)} (M : MemIs bs base m) (hb : base + 16 ≤ 40) (hk : k + n ≤ 4096)
    (S : St h0 W ([(cb, .cells (pcells [⟨(k : Int), (n : Int), false⟩, ⟨a1, l1, true⟩] ++ rest) mk'), (gb, .cells (flatC pm (base : Int)) false), (pm, .cells (memC bm) false), (bm, .cells (strCells bs) mk)] ++ R) h) {Q : Sl → Bool → Heap → Prop}
    (hq : ∀ s h', St h0 W ([(cb, .cells (pcells [⟨(k : Int), (n : Int), false⟩, ⟨a1, l1, true⟩] ++ rest) mk'), (gb, .cells (flatC pm (base : Int)) false), (pm, .cells (memC bm) false), (bm, .cells (strCells bs) mk)] ++ R) h' → Bs h' s ((bs.drop (256 * base + k)).take n) (fun b => h.obj b = none) → Q s true h') :
    backend_gather U (.iface 4 (.ptr (some ⟨gb, 0⟩))) 0 ⟨some ⟨cb, 0⟩, 2, c⟩ 262144 Q h := by
  have hl := M.len
  have S_ := S.base
  simp only [List.cons_append, List.nil_append] at S_
  unfold backend_gather
  ((with_reducible apply St.al); assumption; intro b1 g_ S_)
  repeat (first | ((with_reducible first|apply St.rI|apply St.rB|apply St.rP|apply St.rSl|apply St.rV|apply St.rM|apply St.rS|apply St.rN|apply St.ckA);assumption;(first|exact i0|exact i1|exact i2|exact i3|exact i4|exact i5|exact i6|exact i7|exact i8|exact i9|exact i10|exact i11|exact i12|exact i13|exact i14|exact i15);(first|rfl|exact Nat.le_of_ble_eq_true rfl)) | with_reducible refine der_of ?_ | ((with_reducible refine br_t ?_ ?_);rfl) | ((with_reducible refine br_f ?_ ?_);rfl) | ((with_reducible refine br_t ?_ ?_);assumption) | ((with_reducible refine br_f ?_ ?_);assumption) | ((with_reducible first|apply St.wrL|apply St.wr);assumption;(first|exact i0|exact i1|exact i2|exact i3|exact i4|exact i5|exact i6|exact i7|exact i8|exact i9|exact i10|exact i11|exact i12|exact i13|exact i14|exact i15);(first|exact Nat.le_of_ble_eq_true rfl|rfl);intro g_ S_;simp only [Ptr.add, List.set, splice, List.take, List.drop, List.nil_append, List.append_nil, List.cons_append, List.length_cons, List.length_nil, Nat.zero_add, Nat.add_zero, Nat.reduceAdd, Nat.reduceMul, Nat.mul_one, Int.toNat_zero, Int.toNat_one, Int.reduceToNat] at S_) | ((with_reducible refine ix_of ?_ ?_ ?_);exact of_decide_eq_true rfl;exact of_decide_eq_true rfl) | ((with_reducible first|refine nz_of ?_ ?_|refine nneg_of ?_ ?_);exact of_decide_eq_true rfl) | ((with_reducible refine chk_of ?_ ?_);rfl) | (with_reducible first|apply asI_of|apply asB_of|apply asP_of|apply asSl_of|apply asAggV_of|apply asTupV_of|apply asCons_of|apply asNil_of|apply isNil_n|apply isNil_i|apply nilC_i|apply nilCU_i|apply nilCU_f|apply mthC_i) | ((with_reducible refine And.intro ?_ ?_);rfl) | ((with_reducible apply exAnd);rfl))
  unfold backend_gather.j3
  intro I HI
  refine HI _ _ _ _ _ _ _ ?_
  unfold backend_gather.b3
  repeat (first | ((with_reducible first|apply St.rI|apply St.rB|apply St.rP|apply St.rSl|apply St.rV|apply St.rM|apply St.rS|apply St.rN|apply St.ckA);assumption;(first|exact i0|exact i1|exact i2|exact i3|exact i4|exact i5|exact i6|exact i7|exact i8|exact i9|exact i10|exact i11|exact i12|exact i13|exact i14|exact i15);(first|rfl|exact Nat.le_of_ble_eq_true rfl)) | with_reducible refine der_of ?_ | ((with_reducible refine br_t ?_ ?_);rfl) | ((with_reducible refine br_f ?_ ?_);rfl) | ((with_reducible refine br_t ?_ ?_);assumption) | ((with_reducible refine br_f ?_ ?_);assumption) | ((with_reducible first|apply St.wrL|apply St.wr);assumption;(first|exact i0|exact i1|exact i2|exact i3|exact i4|exact i5|exact i6|exact i7|exact i8|exact i9|exact i10|exact i11|exact i12|exact i13|exact i14|exact i15);(first|exact Nat.le_of_ble_eq_true rfl|rfl);intro g_ S_;simp only [Ptr.add, List.set, splice, List.take, List.drop, List.nil_append, List.append_nil, List.cons_append, List.length_cons, List.length_nil, Nat.zero_add, Nat.add_zero, Nat.reduceAdd, Nat.reduceMul, Nat.mul_one, Int.toNat_zero, Int.toNat_one, Int.reduceToNat] at S_) | ((with_reducible refine ix_of ?_ ?_ ?_);exact of_decide_eq_true rfl;exact of_decide_eq_true rfl) | ((with_reducible first|refine nz_of ?_ ?_|refine nneg_of ?_ ?_);exact of_decide_eq_true rfl) | ((with_reducible refine chk_of ?_ ?_);rfl) | (with_reducible first|apply asI_of|apply asB_of|apply asP_of|apply asSl_of|apply asAggV_of|apply asTupV_of|apply asCons_of|apply asNil_of|apply isNil_n|apply isNil_i|apply nilC_i|apply nilCU_i|apply nilCU_f|apply mthC_i) | ((with_reducible refine And.intro ?_ ?_);rfl) | ((with_reducible apply exAnd);rfl))
  ((with_reducible apply St.al); assumption; intro b2 g_ S_)
  repeat (first | ((with_reducible first|apply St.rI|apply St.rB|apply St.rP|apply St.rSl|apply St.rV|apply St.rM|apply St.rS|apply St.rN|apply St.ckA);assumption;(first|exact i0|exact i1|exact i2|exact i3|exact i4|exact i5|exact i6|exact i7|exact i8|exact i9|exact i10|exact i11|exact i12|exact i13|exact i14|exact i15);(first|rfl|exact Nat.le_of_ble_eq_true rfl)) | with_reducible refine der_of ?_ | ((with_reducible refine br_t ?_ ?_);rfl) | ((with_reducible refine br_f ?_ ?_);rfl) | ((with_reducible refine br_t ?_ ?_);assumption) | ((with_reducible refine br_f ?_ ?_);assumption) | ((with_reducible first|apply St.wrL|apply St.wr);assumption;(first|exact i0|exact i1|exact i2|exact i3|exact i4|exact i5|exact i6|exact i7|exact i8|exact i9|exact i10|exact i11|exact i12|exact i13|exact i14|exact i15);(first|exact Nat.le_of_ble_eq_true rfl|rfl);intro g_ S_;simp only [Ptr.add, List.set, splice, List.take, List.drop, List.nil_append, List.append_nil, List.cons_append, List.length_cons, List.length_nil, Nat.zero_add, Nat.add_zero, Nat.reduceAdd, Nat.reduceMul, Nat.mul_one, Int.toNat_zero, Int.toNat_one, Int.reduceToNat] at S_) | ((with_reducible refine ix_of ?_ ?_ ?_);exact of_decide_eq_true rfl;exact of_decide_eq_true rfl) | ((with_reducible first|refine nz_of ?_ ?_|refine nneg_of ?_ ?_);exact of_decide_eq_true rfl) | ((with_reducible refine chk_of ?_ ?_);rfl) | (with_reducible first|apply asI_of|apply asB_of|apply asP_of|apply asSl_of|apply asAggV_of|apply asTupV_of|apply asCons_of|apply asNil_of|apply isNil_n|apply isNil_i|apply nilC_i|apply nilCU_i|apply nilCU_f|apply mthC_i) | ((with_reducible refine And.intro ?_ ?_);rfl) | ((with_reducible apply exAnd);rfl))
  refine hu.bytes _ _ _ _ _ (gbytes (g := 3) (p := 4) (b := 5) (k := k) (n := n) S_ rfl rfl rfl (by decide) M hb hk rfl rfl (fun s sb rest2 mk2 g2 S2 hsp hsl hsc => ?_))
  have hlen : ((bs.drop (256 * base + k)).take n).length = n := by simp; omega
  have H : Held g2 s 1 (strCells ((bs.drop (256 * base + k)).take n)) := by
    refine ⟨by rw [strCells_length, hlen, hsl, Nat.mul_one], fun p hp i u hu => ?_, fun hp => by rw [hsp] at hp; cases hp⟩
    rw [hsp] at hp; cases hp
    rw [get_cells (S2.obj i0), Nat.zero_add, List.getElem?_append_left, hu]
    rcases Nat.lt_or_ge i (strCells ((bs.drop (256 * base + k)).take n)).length with h1 | h1
    · exact h1
    · rw [List.getElem?_eq_none h1] at hu; cases hu
  have fr : ∀ b, g2.obj b = none → h.obj b = none := by
    intro b hb
    cases e : h.obj b with
    | none => rfl
    | some z => exact absurd hb (S2.keeps.known b (by rw [e]; simp))
  clear S_
  repeat (first | ((with_reducible first|apply St.rI|apply St.rB|apply St.rP|apply St.rSl|apply St.rV|apply St.rM|apply St.rS|apply St.rN|apply St.ckA);assumption;(first|exact i0|exact i1|exact i2|exact i3|exact i4|exact i5|exact i6|exact i7|exact i8|exact i9|exact i10|exact i11|exact i12|exact i13|exact i14|exact i15);(first|rfl|exact Nat.le_of_ble_eq_true rfl)) | with_reducible refine der_of ?_ | ((with_reducible refine br_t ?_ ?_);rfl) | ((with_reducible refine br_f ?_ ?_);rfl) | ((with_reducible refine br_t ?_ ?_);assumption) | ((with_reducible refine br_f ?_ ?_);assumption) | ((with_reducible first|apply St.wrL|apply St.wr);assumption;(first|exact i0|exact i1|exact i2|exact i3|exact i4|exact i5|exact i6|exact i7|exact i8|exact i9|exact i10|exact i11|exact i12|exact i13|exact i14|exact i15);(first|exact Nat.le_of_ble_eq_true rfl|rfl);intro g_ S_;simp only [Ptr.add, List.set, splice, List.take, List.drop, List.nil_append, List.append_nil, List.cons_append, List.length_cons, List.length_nil, Nat.zero_add, Nat.add_zero, Nat.reduceAdd, Nat.reduceMul, Nat.mul_one, Int.toNat_zero, Int.toNat_one, Int.reduceToNat] at S_) | ((with_reducible refine ix_of ?_ ?_ ?_);exact of_decide_eq_true rfl;exact of_decide_eq_true rfl) | ((with_reducible first|refine nz_of ?_ ?_|refine nneg_of ?_ ?_);exact of_decide_eq_true rfl) | ((with_reducible refine chk_of ?_ ?_);rfl) | (with_reducible first|apply asI_of|apply asB_of|apply asP_of|apply asSl_of|apply asAggV_of|apply asTupV_of|apply asCons_of|apply asNil_of|apply isNil_n|apply isNil_i|apply nilC_i|apply nilCU_i|apply nilCU_f|apply mthC_i) | ((with_reducible refine And.intro ?_ ?_);rfl) | ((with_reducible apply exAnd);rfl))
  refine br_f (decide_eq_false (by rw [hsl, show (((⟨none, 0, 0⟩ : Sl).len : Nat) : Int) = 0 from rfl, wrap64] <;> omega)) ?_
  unfold backend_gather.j9
  refine cellsS_of H ?_
  refine app_bytes (Bs.nil (F := fun _ => False)) (by rw [hsl, hlen]) (by decide) (by omega) (fun s' h3 B3 k3 => ?_)
  rw [List.nil_append] at B3
  have S3 := S2.keep k3
  have S_ := S3.base
  simp only [w64_0, w64_1, w64_2, w64_3, w64_4, w64_5, w64_6, w64_7, w64_8, w64_9, w64_10, w64_11, w64_12, w64_13, w64_14, w64_15, w64_16, w64_17, w64_18, w64_19]
  refine HI _ _ _ _ _ _ _ ?_
  unfold backend_gather.b3
  repeat (first | ((with_reducible first|apply St.rI|apply St.rB|apply St.rP|apply St.rSl|apply St.rV|apply St.rM|apply St.rS|apply St.rN|apply St.ckA);assumption;(first|exact i0|exact i1|exact i2|exact i3|exact i4|exact i5|exact i6|exact i7|exact i8|exact i9|exact i10|exact i11|exact i12|exact i13|exact i14|exact i15);(first|rfl|exact Nat.le_of_ble_eq_true rfl)) | with_reducible refine der_of ?_ | ((with_reducible refine br_t ?_ ?_);rfl) | ((with_reducible refine br_f ?_ ?_);rfl) | ((with_reducible refine br_t ?_ ?_);assumption) | ((with_reducible refine br_f ?_ ?_);assumption) | ((with_reducible first|apply St.wrL|apply St.wr);assumption;(first|exact i0|exact i1|exact i2|exact i3|exact i4|exact i5|exact i6|exact i7|exact i8|exact i9|exact i10|exact i11|exact i12|exact i13|exact i14|exact i15);(first|exact Nat.le_of_ble_eq_true rfl|rfl);intro g_ S_;simp only [Ptr.add, List.set, splice, List.take, List.drop, List.nil_append, List.append_nil, List.cons_append, List.length_cons, List.length_nil, Nat.zero_add, Nat.add_zero, Nat.reduceAdd, Nat.reduceMul, Nat.mul_one, Int.toNat_zero, Int.toNat_one, Int.reduceToNat] at S_) | ((with_reducible refine ix_of ?_ ?_ ?_);exact of_decide_eq_true rfl;exact of_decide_eq_true rfl) | ((with_reducible first|refine nz_of ?_ ?_|refine nneg_of ?_ ?_);exact of_decide_eq_true rfl) | ((with_reducible refine chk_of ?_ ?_);rfl) | (with_reducible first|apply asI_of|apply asB_of|apply asP_of|apply asSl_of|apply asAggV_of|apply asTupV_of|apply asCons_of|apply asNil_of|apply isNil_n|apply isNil_i|apply nilC_i|apply nilCU_i|apply nilCU_f|apply mthC_i) | ((with_reducible refine And.intro ?_ ?_);rfl) | ((with_reducible apply exAnd);rfl))
  ((with_reducible apply St.al); assumption; intro b3 g_ S_)
  repeat (first | ((with_reducible first|apply St.rI|apply St.rB|apply St.rP|apply St.rSl|apply St.rV|apply St.rM|apply St.rS|apply St.rN|apply St.ckA);assumption;(first|exact i0|exact i1|exact i2|exact i3|exact i4|exact i5|exact i6|exact i7|exact i8|exact i9|exact i10|exact i11|exact i12|exact i13|exact i14|exact i15);(first|rfl|exact Nat.le_of_ble_eq_true rfl)) | with_reducible refine der_of ?_ | ((with_reducible refine br_t ?_ ?_);rfl) | ((with_reducible refine br_f ?_ ?_);rfl) | ((with_reducible refine br_t ?_ ?_);assumption) | ((with_reducible refine br_f ?_ ?_);assumption) | ((with_reducible first|apply St.wrL|apply St.wr);assumption;(first|exact i0|exact i1|exact i2|exact i3|exact i4|exact i5|exact i6|exact i7|exact i8|exact i9|exact i10|exact i11|exact i12|exact i13|exact i14|exact i15);(first|exact Nat.le_of_ble_eq_true rfl|rfl);intro g_ S_;simp only [Ptr.add, List.set, splice, List.take, List.drop, List.nil_append, List.append_nil, List.cons_append, List.length_cons, List.length_nil, Nat.zero_add, Nat.add_zero, Nat.reduceAdd, Nat.reduceMul, Nat.mul_one, Int.toNat_zero, Int.toNat_one, Int.reduceToNat] at S_) | ((with_reducible refine ix_of ?_ ?_ ?_);exact of_decide_eq_true rfl;exact of_decide_eq_true rfl) | ((with_reducible first|refine nz_of ?_ ?_|refine nneg_of ?_ ?_);exact of_decide_eq_true rfl) | ((with_reducible refine chk_of ?_ ?_);rfl) | (with_reducible first|apply asI_of|apply asB_of|apply asP_of|apply asSl_of|apply asAggV_of|apply asTupV_of|apply asCons_of|apply asNil_of|apply isNil_n|apply isNil_i|apply nilC_i|apply nilCU_i|apply nilCU_f|apply mthC_i) | ((with_reducible refine And.intro ?_ ?_);rfl) | ((with_reducible apply exAnd);rfl))
  simp only [w64_0, w64_1, w64_2, w64_3, w64_4, w64_5, w64_6, w64_7, w64_8, w64_9, w64_10, w64_11, w64_12, w64_13, w64_14, w64_15, w64_16, w64_17, w64_18, w64_19]
  refine HI _ _ _ _ _ _ _ ?_
  unfold backend_gather.b3
  repeat (first | ((with_reducible first|apply St.rI|apply St.rB|apply St.rP|apply St.rSl|apply St.rV|apply St.rM|apply St.rS|apply St.rN|apply St.ckA);assumption;(first|exact i0|exact i1|exact i2|exact i3|exact i4|exact i5|exact i6|exact i7|exact i8|exact i9|exact i10|exact i11|exact i12|exact i13|exact i14|exact i15);(first|rfl|exact Nat.le_of_ble_eq_true rfl)) | with_reducible refine der_of ?_ | ((with_reducible refine br_t ?_ ?_);rfl) | ((with_reducible refine br_f ?_ ?_);rfl) | ((with_reducible refine br_t ?_ ?_);assumption) | ((with_reducible refine br_f ?_ ?_);assumption) | ((with_reducible first|apply St.wrL|apply St.wr);assumption;(first|exact i0|exact i1|exact i2|exact i3|exact i4|exact i5|exact i6|exact i7|exact i8|exact i9|exact i10|exact i11|exact i12|exact i13|exact i14|exact i15);(first|exact Nat.le_of_ble_eq_true rfl|rfl);intro g_ S_;simp only [Ptr.add, List.set, splice, List.take, List.drop, List.nil_append, List.append_nil, List.cons_append, List.length_cons, List.length_nil, Nat.zero_add, Nat.add_zero, Nat.reduceAdd, Nat.reduceMul, Nat.mul_one, Int.toNat_zero, Int.toNat_one, Int.reduceToNat] at S_) | ((with_reducible refine ix_of ?_ ?_ ?_);exact of_decide_eq_true rfl;exact of_decide_eq_true rfl) | ((with_reducible first|refine nz_of ?_ ?_|refine nneg_of ?_ ?_);exact of_decide_eq_true rfl) | ((with_reducible refine chk_of ?_ ?_);rfl) | (with_reducible first|apply asI_of|apply asB_of|apply asP_of|apply asSl_of|apply asAggV_of|apply asTupV_of|apply asCons_of|apply asNil_of|apply isNil_n|apply isNil_i|apply nilC_i|apply nilCU_i|apply nilCU_f|apply mthC_i) | ((with_reducible refine And.intro ?_ ?_);rfl) | ((with_reducible apply exAnd);rfl))
  refine hq s' _ (S.back (St.pickR' (A := [_, _, _, _, (cb, .cells (pcells [⟨(k : Int), (n : Int), false⟩, ⟨a1, l1, true⟩] ++ rest) mk'), (gb, .cells (flatC pm (base : Int)) false), (pm, .cells (memC bm) false), (bm, .cells (strCells bs) mk)]) (A' := [(cb, .cells (pcells [⟨(k : Int), (n : Int), false⟩, ⟨a1, l1, true⟩] ++ rest) mk'), (gb, .cells (flatC pm (base : Int)) false), (pm, .cells (memC bm) false), (bm, .cells (strCells bs) mk)]) (S3.back S_) [4, 5, 6, 7] (by decide) rfl)) ?_
  refine (B3.keeps S_.keeps (fun b hb => ?_)).mono (fun b hb => ?_)
  · rcases hb with hb | hb
    · exact hb.elim
    · exact off_keys S2 hb
  · rcases hb with hb | hb
    · exact hb.elim
    · exact fr b hb

/-- Bytes are put into one part. -/
theorem spread_of (hu : GU U U') {cb gb pm bm base k b c : Nat} {bs : List UInt8} {mk : Bool} {m : Nat → Int} {l1 : Int} {xs : List UInt8} {R : List (Nat × HO)} (M : MemIs bs base m) (hb : base + 16 ≤ 40) (hk : k + xs.length ≤ 4096) (hl1 : (xs.length : Int) ≤ l1)
    (S : St h0 W ([(cb, .cells [.int .u64 (k : Int), .int .i64 l1, .bool true] false), (gb, .cells (flatC pm (base : Int)) false), (pm, .cells (memC bm) false), (bm, .cells (strCells bs) mk)] ++ R) h) (H : Held h ⟨some ⟨b, 0⟩, xs.length, c⟩ 1 (strCells xs)) (hc : xs.length ≤ c) (hbn : ¬ keysOf ([(cb, .cells [.int .u64 (k : Int), .int .i64 l1, .bool true] false), (gb, .cells (flatC pm (base : Int)) false), (pm, .cells (memC bm) false), (bm, .cells (strCells bs) mk)] ++ R) b) {Q : Int → Heap → Prop}
    (hq : ∀ bs' m' mk2 h', St h0 W ([(cb, .cells [.int .u64 (k : Int), .int .i64 l1, .bool true] false), (gb, .cells (flatC pm (base : Int)) false), (pm, .cells (memC bm) false), (bm, .cells (strCells bs') mk2)] ++ R) h' → MemIs bs' base m' → (∀ j, j < 512 → 8 * j + 8 ≤ k ∨ k + xs.length ≤ 8 * j → m' j = m j) → (bs'.drop (256 * base + k)).take xs.length = xs → Keeps (keysOf ([(cb, .cells [.int .u64 (k : Int), .int .i64 l1, .bool true] false), (gb, .cells (flatC pm (base : Int)) false), (pm, .cells (memC bm) false), (bm, .cells (strCells bs) mk)] ++ R)) h h' → Q (xs.length : Int) h') :
    backend_spread U (.iface 4 (.ptr (some ⟨gb, 0⟩))) 0 ⟨some ⟨cb, 0⟩, 1, 1⟩ ⟨some ⟨b, 0⟩, xs.length, c⟩ Q h := by
  have hl := M.len
  have S_ := S.base
  simp only [List.cons_append, List.nil_append] at S_
  unfold backend_spread
  ((with_reducible apply St.al); assumption; intro b1 g_ S_)
  repeat (first | ((with_reducible first|apply St.rI|apply St.rB|apply St.rP|apply St.rSl|apply St.rV|apply St.rM|apply St.rS|apply St.rN|apply St.ckA);assumption;(first|exact i0|exact i1|exact i2|exact i3|exact i4|exact i5|exact i6|exact i7|exact i8|exact i9|exact i10|exact i11|exact i12|exact i13|exact i14|exact i15);(first|rfl|exact Nat.le_of_ble_eq_true rfl)) | with_reducible refine der_of ?_ | ((with_reducible refine br_t ?_ ?_);rfl) | ((with_reducible refine br_f ?_ ?_);rfl) | ((with_reducible refine br_t ?_ ?_);assumption) | ((with_reducible refine br_f ?_ ?_);assumption) | ((with_reducible first|apply St.wrL|apply St.wr);assumption;(first|exact i0|exact i1|exact i2|exact i3|exact i4|exact i5|exact i6|exact i7|exact i8|exact i9|exact i10|exact i11|exact i12|exact i13|exact i14|exact i15);(first|exact Nat.le_of_ble_eq_true rfl|rfl);intro g_ S_;simp only [Ptr.add, List.set, splice, List.take, List.drop, List.nil_append, List.append_nil, List.cons_append, List.length_cons, List.length_nil, Nat.zero_add, Nat.add_zero, Nat.reduceAdd, Nat.reduceMul, Nat.mul_one, Int.toNat_zero, Int.toNat_one, Int.reduceToNat] at S_) | ((with_reducible refine ix_of ?_ ?_ ?_);exact of_decide_eq_true rfl;exact of_decide_eq_true rfl) | ((with_reducible first|refine nz_of ?_ ?_|refine nneg_of ?_ ?_);exact of_decide_eq_true rfl) | ((with_reducible refine chk_of ?_ ?_);rfl) | (with_reducible first|apply asI_of|apply asB_of|apply asP_of|apply asSl_of|apply asAggV_of|apply asTupV_of|apply asCons_of|apply asNil_of|apply isNil_n|apply isNil_i|apply nilC_i|apply nilCU_i|apply nilCU_f|apply mthC_i) | ((with_reducible refine And.intro ?_ ?_);rfl) | ((with_reducible apply exAnd);rfl))
  unfold backend_spread.j3
  intro I HI
  refine HI _ _ _ _ _ _ _ ?_
  unfold backend_spread.b3
  repeat (first | ((with_reducible first|apply St.rI|apply St.rB|apply St.rP|apply St.rSl|apply St.rV|apply St.rM|apply St.rS|apply St.rN|apply St.ckA);assumption;(first|exact i0|exact i1|exact i2|exact i3|exact i4|exact i5|exact i6|exact i7|exact i8|exact i9|exact i10|exact i11|exact i12|exact i13|exact i14|exact i15);(first|rfl|exact Nat.le_of_ble_eq_true rfl)) | with_reducible refine der_of ?_ | ((with_reducible refine br_t ?_ ?_);rfl) | ((with_reducible refine br_f ?_ ?_);rfl) | ((with_reducible refine br_t ?_ ?_);assumption) | ((with_reducible refine br_f ?_ ?_);assumption) | ((with_reducible first|apply St.wrL|apply St.wr);assumption;(first|exact i0|exact i1|exact i2|exact i3|exact i4|exact i5|exact i6|exact i7|exact i8|exact i9|exact i10|exact i11|exact i12|exact i13|exact i14|exact i15);(first|exact Nat.le_of_ble_eq_true rfl|rfl);intro g_ S_;simp only [Ptr.add, List.set, splice, List.take, List.drop, List.nil_append, List.append_nil, List.cons_append, List.length_cons, List.length_nil, Nat.zero_add, Nat.add_zero, Nat.reduceAdd, Nat.reduceMul, Nat.mul_one, Int.toNat_zero, Int.toNat_one, Int.reduceToNat] at S_) | ((with_reducible refine ix_of ?_ ?_ ?_);exact of_decide_eq_true rfl;exact of_decide_eq_true rfl) | ((with_reducible first|refine nz_of ?_ ?_|refine nneg_of ?_ ?_);exact of_decide_eq_true rfl) | ((with_reducible refine chk_of ?_ ?_);rfl) | (with_reducible first|apply asI_of|apply asB_of|apply asP_of|apply asSl_of|apply asAggV_of|apply asTupV_of|apply asCons_of|apply asNil_of|apply isNil_n|apply isNil_i|apply nilC_i|apply nilCU_i|apply nilCU_f|apply mthC_i) | ((with_reducible refine And.intro ?_ ?_);rfl) | ((with_reducible apply exAnd);rfl))
  ((with_reducible apply St.al); assumption; intro b2 g_ S_)
  repeat (first | ((with_reducible first|apply St.rI|apply St.rB|apply St.rP|apply St.rSl|apply St.rV|apply St.rM|apply St.rS|apply St.rN|apply St.ckA);assumption;(first|exact i0|exact i1|exact i2|exact i3|exact i4|exact i5|exact i6|exact i7|exact i8|exact i9|exact i10|exact i11|exact i12|exact i13|exact i14|exact i15);(first|rfl|exact Nat.le_of_ble_eq_true rfl)) | with_reducible refine der_of ?_ | ((with_reducible refine br_t ?_ ?_);rfl) | ((with_reducible refine br_f ?_ ?_);rfl) | ((with_reducible refine br_t ?_ ?_);assumption) | ((with_reducible refine br_f ?_ ?_);assumption) | ((with_reducible first|apply St.wrL|apply St.wr);assumption;(first|exact i0|exact i1|exact i2|exact i3|exact i4|exact i5|exact i6|exact i7|exact i8|exact i9|exact i10|exact i11|exact i12|exact i13|exact i14|exact i15);(first|exact Nat.le_of_ble_eq_true rfl|rfl);intro g_ S_;simp only [Ptr.add, List.set, splice, List.take, List.drop, List.nil_append, List.append_nil, List.cons_append, List.length_cons, List.length_nil, Nat.zero_add, Nat.add_zero, Nat.reduceAdd, Nat.reduceMul, Nat.mul_one, Int.toNat_zero, Int.toNat_one, Int.reduceToNat] at S_) | ((with_reducible refine ix_of ?_ ?_ ?_);exact of_decide_eq_true rfl;exact of_decide_eq_true rfl) | ((with_reducible first|refine nz_of ?_ ?_|refine nneg_of ?_ ?_);exact of_decide_eq_true rfl) | ((with_reducible refine chk_of ?_ ?_);rfl) | (with_reducible first|apply asI_of|apply asB_of|apply asP_of|apply asSl_of|apply asAggV_of|apply asTupV_of|apply asCons_of|apply asNil_of|apply isNil_n|apply isNil_i|apply nilC_i|apply nilCU_i|apply nilCU_f|apply mthC_i) | ((with_reducible refine And.intro ?_ ?_);rfl) | ((with_reducible apply exAnd);rfl))
  have em : minI l1 (((⟨some ⟨b, 0⟩, xs.length, c⟩ : Sl).len : Nat) : Int) = (xs.length : Int) := by
    show minI l1 (xs.length : Int) = _
    unfold minI
    split <;> omega
  rw [em]
  by_cases hx : xs.length = 0
  · refine br_t (by rw [hx]; rfl) ?_
    unfold backend_spread.j10
    simp only [w64_0, w64_1, w64_2, w64_3, w64_4, w64_5, w64_6, w64_7, w64_8, w64_9, w64_10, w64_11, w64_12, w64_13, w64_14, w64_15, w64_16, w64_17, w64_18, w64_19]
    refine HI _ _ _ _ _ _ _ ?_
    unfold backend_spread.b3
    repeat (first | ((with_reducible first|apply St.rI|apply St.rB|apply St.rP|apply St.rSl|apply St.rV|apply St.rM|apply St.rS|apply St.rN|apply St.ckA);assumption;(first|exact i0|exact i1|exact i2|exact i3|exact i4|exact i5|exact i6|exact i7|exact i8|exact i9|exact i10|exact i11|exact i12|exact i13|exact i14|exact i15);(first|rfl|exact Nat.le_of_ble_eq_true rfl)) | with_reducible refine der_of ?_ | ((with_reducible refine br_t ?_ ?_);rfl) | ((with_reducible refine br_f ?_ ?_);rfl) | ((with_reducible refine br_t ?_ ?_);assumption) | ((with_reducible refine br_f ?_ ?_);assumption) | ((with_reducible first|apply St.wrL|apply St.wr);assumption;(first|exact i0|exact i1|exact i2|exact i3|exact i4|exact i5|exact i6|exact i7|exact i8|exact i9|exact i10|exact i11|exact i12|exact i13|exact i14|exact i15);(first|exact Nat.le_of_ble_eq_true rfl|rfl);intro g_ S_;simp only [Ptr.add, List.set, splice, List.take, List.drop, List.nil_append, List.append_nil, List.cons_append, List.length_cons, List.length_nil, Nat.zero_add, Nat.add_zero, Nat.reduceAdd, Nat.reduceMul, Nat.mul_one, Int.toNat_zero, Int.toNat_one, Int.reduceToNat] at S_) | ((with_reducible refine ix_of ?_ ?_ ?_);exact of_decide_eq_true rfl;exact of_decide_eq_true rfl) | ((with_reducible first|refine nz_of ?_ ?_|refine nneg_of ?_ ?_);exact of_decide_eq_true rfl) | ((with_reducible refine chk_of ?_ ?_);rfl) | (with_reducible first|apply asI_of|apply asB_of|apply asP_of|apply asSl_of|apply asAggV_of|apply asTupV_of|apply asCons_of|apply asNil_of|apply isNil_n|apply isNil_i|apply nilC_i|apply nilCU_i|apply nilCU_f|apply mthC_i) | ((with_reducible refine And.intro ?_ ?_);rfl) | ((with_reducible apply exAnd);rfl))
    unfold backend_spread.j11
    have : xs = [] := List.length_eq_zero_iff.1 hx
    subst this
    exact hq bs m mk _ (S.back (St.pickR' (A := [_, _, (cb, .cells [.int .u64 (k : Int), .int .i64 l1, .bool true] false), (gb, .cells (flatC pm (base : Int)) false), (pm, .cells (memC bm) false), (bm, .cells (strCells bs) mk)]) (A' := [(cb, .cells [.int .u64 (k : Int), .int .i64 l1, .bool true] false), (gb, .cells (flatC pm (base : Int)) false), (pm, .cells (memC bm) false), (bm, .cells (strCells bs) mk)]) S_ [2, 3, 4, 5] (by decide) rfl)) M (fun _ _ _ => rfl) (by simp) S_.keeps
  · refine br_f (beq_false_of_ne (by omega)) ?_
    repeat (first | ((with_reducible first|apply St.rI|apply St.rB|apply St.rP|apply St.rSl|apply St.rV|apply St.rM|apply St.rS|apply St.rN|apply St.ckA);assumption;(first|exact i0|exact i1|exact i2|exact i3|exact i4|exact i5|exact i6|exact i7|exact i8|exact i9|exact i10|exact i11|exact i12|exact i13|exact i14|exact i15);(first|rfl|exact Nat.le_of_ble_eq_true rfl)) | with_reducible refine der_of ?_ | ((with_reducible refine br_t ?_ ?_);rfl) | ((with_reducible refine br_f ?_ ?_);rfl) | ((with_reducible refine br_t ?_ ?_);assumption) | ((with_reducible refine br_f ?_ ?_);assumption) | ((with_reducible first|apply St.wrL|apply St.wr);assumption;(first|exact i0|exact i1|exact i2|exact i3|exact i4|exact i5|exact i6|exact i7|exact i8|exact i9|exact i10|exact i11|exact i12|exact i13|exact i14|exact i15);(first|exact Nat.le_of_ble_eq_true rfl|rfl);intro g_ S_;simp only [Ptr.add, List.set, splice, List.take, List.drop, List.nil_append, List.append_nil, List.cons_append, List.length_cons, List.length_nil, Nat.zero_add, Nat.add_zero, Nat.reduceAdd, Nat.reduceMul, Nat.mul_one, Int.toNat_zero, Int.toNat_one, Int.reduceToNat] at S_) | ((with_reducible refine ix_of ?_ ?_ ?_);exact of_decide_eq_true rfl;exact of_decide_eq_true rfl) | ((with_reducible first|refine nz_of ?_ ?_|refine nneg_of ?_ ?_);exact of_decide_eq_true rfl) | ((with_reducible refine chk_of ?_ ?_);rfl) | (with_reducible first|apply asI_of|apply asB_of|apply asP_of|apply asSl_of|apply asAggV_of|apply asTupV_of|apply asCons_of|apply asNil_of|apply isNil_n|apply isNil_i|apply nilC_i|apply nilCU_i|apply nilCU_f|apply mthC_i) | ((with_reducible refine And.intro ?_ ?_);rfl) | ((with_reducible apply exAnd);rfl))
    refine sb_of (by omega) (by show (xs.length : Int) ≤ (c : Int); omega) ?_
    rw [Int.toNat_natCast]
    repeat (first | ((with_reducible first|apply St.rI|apply St.rB|apply St.rP|apply St.rSl|apply St.rV|apply St.rM|apply St.rS|apply St.rN|apply St.ckA);assumption;(first|exact i0|exact i1|exact i2|exact i3|exact i4|exact i5|exact i6|exact i7|exact i8|exact i9|exact i10|exact i11|exact i12|exact i13|exact i14|exact i15);(first|rfl|exact Nat.le_of_ble_eq_true rfl)) | with_reducible refine der_of ?_ | ((with_reducible refine br_t ?_ ?_);rfl) | ((with_reducible refine br_f ?_ ?_);rfl) | ((with_reducible refine br_t ?_ ?_);assumption) | ((with_reducible refine br_f ?_ ?_);assumption) | ((with_reducible first|apply St.wrL|apply St.wr);assumption;(first|exact i0|exact i1|exact i2|exact i3|exact i4|exact i5|exact i6|exact i7|exact i8|exact i9|exact i10|exact i11|exact i12|exact i13|exact i14|exact i15);(first|exact Nat.le_of_ble_eq_true rfl|rfl);intro g_ S_;simp only [Ptr.add, List.set, splice, List.take, List.drop, List.nil_append, List.append_nil, List.cons_append, List.length_cons, List.length_nil, Nat.zero_add, Nat.add_zero, Nat.reduceAdd, Nat.reduceMul, Nat.mul_one, Int.toNat_zero, Int.toNat_one, Int.reduceToNat] at S_) | ((with_reducible refine ix_of ?_ ?_ ?_);exact of_decide_eq_true rfl;exact of_decide_eq_true rfl) | ((with_reducible first|refine nz_of ?_ ?_|refine nneg_of ?_ ?_);exact of_decide_eq_true rfl) | ((with_reducible refine chk_of ?_ ?_);rfl) | (with_reducible first|apply asI_of|apply asB_of|apply asP_of|apply asSl_of|apply asAggV_of|apply asTupV_of|apply asCons_of|apply asNil_of|apply isNil_n|apply isNil_i|apply nilC_i|apply nilCU_i|apply nilCU_f|apply mthC_i) | ((with_reducible refine And.intro ?_ ?_);rfl) | ((with_reducible apply exAnd);rfl))
    refine nilCU_m (hu.ahead _) ?_
    have H2 : Held g_ ⟨slp (some ⟨b, 0⟩) (0 * 1) 0 c, xs.length - 0, c - 0⟩ 1 (strCells xs) := held_slp (s := ⟨some ⟨b, 0⟩, xs.length, c⟩) (H.keeps S_.keeps (fun p hp => by cases hp; exact hbn))
    refine hu.put _ _ _ _ _ (gput2 (g := 3) (p := 4) (b := 5) (k := k) S_ rfl rfl rfl (by decide) M hb H2 hk rfl (fun mk2 g1 S1 => ?_))
    simp only [List.set] at S1
    clear S_
    obtain ⟨m', M', hm'⟩ := M.other (xs := xs) (a := 256 * base + k) (by omega)
    repeat (first | ((with_reducible first|apply St.rI|apply St.rB|apply St.rP|apply St.rSl|apply St.rV|apply St.rM|apply St.rS|apply St.rN|apply St.ckA);assumption;(first|exact i0|exact i1|exact i2|exact i3|exact i4|exact i5|exact i6|exact i7|exact i8|exact i9|exact i10|exact i11|exact i12|exact i13|exact i14|exact i15);(first|rfl|exact Nat.le_of_ble_eq_true rfl)) | with_reducible refine der_of ?_ | ((with_reducible refine br_t ?_ ?_);rfl) | ((with_reducible refine br_f ?_ ?_);rfl) | ((with_reducible refine br_t ?_ ?_);assumption) | ((with_reducible refine br_f ?_ ?_);assumption) | ((with_reducible first|apply St.wrL|apply St.wr);assumption;(first|exact i0|exact i1|exact i2|exact i3|exact i4|exact i5|exact i6|exact i7|exact i8|exact i9|exact i10|exact i11|exact i12|exact i13|exact i14|exact i15);(first|exact Nat.le_of_ble_eq_true rfl|rfl);intro g_ S_;simp only [Ptr.add, List.set, splice, List.take, List.drop, List.nil_append, List.append_nil, List.cons_append, List.length_cons, List.length_nil, Nat.zero_add, Nat.add_zero, Nat.reduceAdd, Nat.reduceMul, Nat.mul_one, Int.toNat_zero, Int.toNat_one, Int.reduceToNat] at S_) | ((with_reducible refine ix_of ?_ ?_ ?_);exact of_decide_eq_true rfl;exact of_decide_eq_true rfl) | ((with_reducible first|refine nz_of ?_ ?_|refine nneg_of ?_ ?_);exact of_decide_eq_true rfl) | ((with_reducible refine chk_of ?_ ?_);rfl) | (with_reducible first|apply asI_of|apply asB_of|apply asP_of|apply asSl_of|apply asAggV_of|apply asTupV_of|apply asCons_of|apply asNil_of|apply isNil_n|apply isNil_i|apply nilC_i|apply nilCU_i|apply nilCU_f|apply mthC_i) | ((with_reducible refine And.intro ?_ ?_);rfl) | ((with_reducible apply exAnd);rfl))
    unfold backend_spread.j8
    refine sb_of (by omega) (by show (xs.length : Int) ≤ (xs.length : Int); omega) ?_
    unfold backend_spread.j10
    simp only [w64_0, w64_1, w64_2, w64_3, w64_4, w64_5, w64_6, w64_7, w64_8, w64_9, w64_10, w64_11, w64_12, w64_13, w64_14, w64_15, w64_16, w64_17, w64_18, w64_19]
    refine HI _ _ _ _ _ _ _ ?_
    unfold backend_spread.b3
    repeat (first | ((with_reducible first|apply St.rI|apply St.rB|apply St.rP|apply St.rSl|apply St.rV|apply St.rM|apply St.rS|apply St.rN|apply St.ckA);assumption;(first|exact i0|exact i1|exact i2|exact i3|exact i4|exact i5|exact i6|exact i7|exact i8|exact i9|exact i10|exact i11|exact i12|exact i13|exact i14|exact i15);(first|rfl|exact Nat.le_of_ble_eq_true rfl)) | with_reducible refine der_of ?_ | ((with_reducible refine br_t ?_ ?_);rfl) | ((with_reducible refine br_f ?_ ?_);rfl) | ((with_reducible refine br_t ?_ ?_);assumption) | ((with_reducible refine br_f ?_ ?_);assumption) | ((with_reducible first|apply St.wrL|apply St.wr);assumption;(first|exact i0|exact i1|exact i2|exact i3|exact i4|exact i5|exact i6|exact i7|exact i8|exact i9|exact i10|exact i11|exact i12|exact i13|exact i14|exact i15);(first|exact Nat.le_of_ble_eq_true rfl|rfl);intro g_ S_;simp only [Ptr.add, List.set, splice, List.take, List.drop, List.nil_append, List.append_nil, List.cons_append, List.length_cons, List.length_nil, Nat.zero_add, Nat.add_zero, Nat.reduceAdd, Nat.reduceMul, Nat.mul_one, Int.toNat_zero, Int.toNat_one, Int.reduceToNat] at S_) | ((with_reducible refine ix_of ?_ ?_ ?_);exact of_decide_eq_true rfl;exact of_decide_eq_true rfl) | ((with_reducible first|refine nz_of ?_ ?_|refine nneg_of ?_ ?_);exact of_decide_eq_true rfl) | ((with_reducible refine chk_of ?_ ?_);rfl) | (with_reducible first|apply asI_of|apply asB_of|apply asP_of|apply asSl_of|apply asAggV_of|apply asTupV_of|apply asCons_of|apply asNil_of|apply isNil_n|apply isNil_i|apply nilC_i|apply nilCU_i|apply nilCU_f|apply mthC_i) | ((with_reducible refine And.intro ?_ ?_);rfl) | ((with_reducible apply exAnd);rfl))
    unfold backend_spread.j11
    rw [show IntKind.i64.wrap (0 + (xs.length : Int)) = (xs.length : Int) by rw [wrap64] <;> omega]
    refine hq _ m' mk2 _ (S.back (St.pickR' (A := [_, _, (cb, .cells [.int .u64 (k : Int), .int .i64 l1, .bool true] false), (gb, .cells (flatC pm (base : Int)) false), (pm, .cells (memC bm) false), (bm, .cells (strCells _) mk2)]) (A' := [(cb, .cells [.int .u64 (k : Int), .int .i64 l1, .bool true] false), (gb, .cells (flatC pm (base : Int)) false), (pm, .cells (memC bm) false), (bm, .cells (strCells _) mk2)]) S1 [2, 3, 4, 5] (by decide) rfl)) M' (fun j hj hd => hm' j hj (by omega)) ?_ S1.keeps
    refine List.ext_getElem? (fun i => ?_)
    by_cases hi : i < xs.length
    · rw [List.getElem?_take_of_lt hi, List.getElem?_drop, put_get (by omega), if_pos (by omega), Nat.add_sub_cancel_left]
    · rw [List.getElem?_eq_none (by rw [List.length_take]; omega), List.getElem?_eq_none (by omega)]

end
end Go.Back

/- What a guest's console does with one request. -/
namespace Go.Back
open Go.Lift Go.Fn Go.Mem Go.Frames Go.Cons

/-- A slice of bytes whose block is listed, or none. -/
def WL (s : Sl) (xs : List UInt8) (wl : List (Nat × HO)) : Prop :=
  (xs = [] ∧ s = ⟨none, 0, 0⟩) ∨ ∃ b c rest mk, s = ⟨some ⟨b, 0⟩, xs.length, c⟩ ∧ xs.length ≤ c ∧ rest.length = (c - xs.length) * 1 ∧ (b, HO.cells (strCells xs ++ rest) mk) ∈ wl

section
variable {h0 h : Heap} {W : Nat → Prop} {L L' A wl : List (Nat × HO)} {s : Sl} {xs : List UInt8}

theorem St.perm' (S : St h0 W L h) (p : L.Perm L') : St h0 W L' h :=
  ⟨(p.map _).nodup_iff.1 S.nodup, fun b x hb => S.objs b x (p.mem_iff.2 hb), fun b x hb => S.new b x (p.mem_iff.2 hb), S.keeps⟩

theorem head_off {b : Nat} {v : HO} (S : St h0 W ((b, v) :: L) h) : ¬ keysOf L b := by
  rintro ⟨u, hu⟩
  have hnd := S.nodup
  simp only [List.map_cons, List.nodup_cons] at hnd
  exact hnd.1 (List.mem_map.2 ⟨(b, u), hu, rfl⟩)

theorem perm_tail (ol A wl : List (Nat × HO)) : (ol ++ (A ++ wl)).Perm (A ++ (ol ++ wl)) := by
  rw [← List.append_assoc, ← List.append_assoc]
  exact List.Perm.append_right _ List.perm_append_comm

theorem perm_tail2 (ol A wl : List (Nat × HO)) (e : Nat × HO) : (ol ++ (e :: (A ++ wl))).Perm (e :: (A ++ (ol ++ wl))) := perm_tail ol (e :: A) wl

theorem add_bs {F : Nat → Prop} (S : St h0 W L h) (B : Bs h s xs F) (hF : ∀ b, F b → ¬ keysOf L b ∧ (h0.obj b = none ∨ W b)) : ∃ ol, WL s xs ol ∧ St h0 W (ol ++ L) h := by
  rcases B with ⟨rfl, rfl⟩ | ⟨b, O, hb⟩
  · exact ⟨[], .inl ⟨rfl, rfl⟩, S⟩
  · obtain ⟨rest, mk, ho, hr⟩ := O.obj
    have hp := O.p
    have hc := O.cap
    have hl := O.len
    rw [strCells_length] at hl
    obtain ⟨sp, sl, sc⟩ := s
    simp only at hp hc hl hr
    subst hp
    obtain rfl : sl = xs.length := by omega
    obtain ⟨h1, h2⟩ := hF b hb
    refine ⟨[(b, .cells (strCells xs ++ rest) mk)], .inr ⟨b, sc, rest, mk, rfl, hc, hr, List.mem_singleton.2 rfl⟩, S.add ho h2 (fun hm => ?_)⟩
    obtain ⟨p, hp, rfl⟩ := List.mem_map.1 hm
    exact h1 ⟨p.2, hp⟩

theorem wl_bs (S : St h0 W (A ++ wl) h) (B : WL s xs wl) : Bs h s xs (keysOf wl) ∧ ∀ b, keysOf wl b → ¬ keysOf A b ∧ (h0.obj b = none ∨ W b) := by
  refine ⟨?_, ?_⟩
  · rcases B with ⟨rfl, rfl⟩ | ⟨b, c, rest, mk, rfl, hc, hr, hm⟩
    · exact .inl ⟨rfl, rfl⟩
    · exact .inr ⟨b, ⟨rfl, hc, by rw [strCells_length, Nat.mul_one], rest, mk, S.objs b _ (List.mem_append.2 (.inr hm)), hr⟩, _, hm⟩
  · rintro b ⟨v, hv⟩
    refine ⟨?_, S.new b v (List.mem_append.2 (.inr hv))⟩
    rintro ⟨u, hu⟩
    have hnd := S.nodup
    rw [List.map_append, List.nodup_append] at hnd
    exact hnd.2.2 b (List.mem_map.2 ⟨_, hu, rfl⟩) b (List.mem_map.2 ⟨_, hv, rfl⟩) rfl

end

section
variable {U U' : Ifc} {x : Nat → Int} {h0 h : Heap} {W : Nat → Prop}

theorem c1_of (hu : GU U U') {cb gb pm bm gx tx tb cc r0 base c k n k1 : Nat} {bs : List UInt8} {mk mk' : Bool} {rest : List V} {m : Nat → Int} {l1 q1 q2 q3 q4 : Int} {w : Sl} {came : List UInt8} {wl : List (Nat × HO)} (M : MemIs bs base m) (hb : base + 16 ≤ 40) (hk : k + n ≤ 4096) (hr : 1 ≤ l1 ∧ l1 ≤ 1000) (hk1 : k1 + 1000 ≤ 4096) (hcm : came.length ≤ 4096) (hwl : WL w came wl)
    (S : St h0 W ([(cb, .cells (pcells [⟨(k : Int), (n : Int), false⟩, ⟨(k1 : Int), l1, true⟩] ++ rest) mk'), (gx, .cells [.iface 4 (.ptr (some ⟨gb, 0⟩))] false), (tx, .cells [.ptr (some ⟨tb, 0⟩)] false), (tb, .cells [.ptr (some ⟨r0, 0⟩), .ptr (some ⟨cc, 0⟩)] false), (cc, .cells (consC w ⟨none, 0, 0⟩ q1 q2 q3 q4) false), (gb, .cells (flatC pm (base : Int)) false), (pm, .cells (memC bm) false), (bm, .cells (strCells bs) mk)] ++ wl) h) {Q : Int → Heap → Prop}
    (hq : ∀ o w' q3 q4 ol bs' m' mk2 (kk : Nat) h', St h0 W ([(cb, .cells (pcells [⟨(k : Int), (n : Int), false⟩, ⟨(k1 : Int), l1, true⟩] ++ rest) mk'), (gx, .cells [.iface 4 (.ptr (some ⟨gb, 0⟩))] false), (tx, .cells [.ptr (some ⟨tb, 0⟩)] false), (tb, .cells [.ptr (some ⟨r0, 0⟩), .ptr (some ⟨cc, 0⟩)] false), (cc, .cells (consC w' o q1 q2 q3 q4) false), (gb, .cells (flatC pm (base : Int)) false), (pm, .cells (memC bm) false), (bm, .cells (strCells bs') mk2)] ++ ol) h' → WL o ((bs.drop (256 * base + k)).take n) ol → MemIs bs' base m' → (kk : Int) = min l1 (came.length : Int) → (∀ j, j < 512 → 8 * j + 8 ≤ k1 ∨ k1 + kk ≤ 8 * j → m' j = m j) → (bs'.drop (256 * base + k1)).take kk = came.take kk → Q (kk : Int) h') :
    backend_Tty_Kick_c1 U 0 ⟨some ⟨cb, 0⟩, 2, c⟩ ⟨gx, 0⟩ ⟨tx, 0⟩ Q h := by
  have hl := M.len
  have S_ := S
  simp only [List.cons_append, List.nil_append] at S_
  unfold backend_Tty_Kick_c1
  ((with_reducible apply St.al); assumption; intro b1 g_ S_)
  repeat (first | ((with_reducible first|apply St.rI|apply St.rB|apply St.rP|apply St.rSl|apply St.rV|apply St.rM|apply St.rS|apply St.rN|apply St.ckA);assumption;(first|exact i0|exact i1|exact i2|exact i3|exact i4|exact i5|exact i6|exact i7|exact i8|exact i9|exact i10|exact i11|exact i12|exact i13|exact i14|exact i15);(first|rfl|exact Nat.le_of_ble_eq_true rfl)) | with_reducible refine der_of ?_ | ((with_reducible refine br_t ?_ ?_);rfl) | ((with_reducible refine br_f ?_ ?_);rfl) | ((with_reducible refine br_t ?_ ?_);assumption) | ((with_reducible refine br_f ?_ ?_);assumption) | ((with_reducible first|apply St.wrL|apply St.wr);assumption;(first|exact i0|exact i1|exact i2|exact i3|exact i4|exact i5|exact i6|exact i7|exact i8|exact i9|exact i10|exact i11|exact i12|exact i13|exact i14|exact i15);(first|exact Nat.le_of_ble_eq_true rfl|rfl);intro g_ S_;simp only [Ptr.add, List.set, splice, List.take, List.drop, List.nil_append, List.append_nil, List.cons_append, List.length_cons, List.length_nil, Nat.zero_add, Nat.add_zero, Nat.reduceAdd, Nat.reduceMul, Nat.mul_one, Int.toNat_zero, Int.toNat_one, Int.reduceToNat] at S_) | ((with_reducible refine ix_of ?_ ?_ ?_);exact of_decide_eq_true rfl;exact of_decide_eq_true rfl) | ((with_reducible first|refine nz_of ?_ ?_|refine nneg_of ?_ ?_);exact of_decide_eq_true rfl) | ((with_reducible refine chk_of ?_ ?_);rfl) | (with_reducible first|apply asI_of|apply asB_of|apply asP_of|apply asSl_of|apply asAggV_of|apply asTupV_of|apply asCons_of|apply asNil_of|apply isNil_n|apply isNil_i|apply nilC_i|apply nilCU_i|apply nilCU_f|apply mthC_i) | ((with_reducible refine And.intro ?_ ?_);rfl) | ((with_reducible apply exAnd);rfl))
  have S1 : St h0 W ([(cb, .cells (pcells [⟨(k : Int), (n : Int), false⟩, ⟨(k1 : Int), l1, true⟩] ++ rest) mk'), (gb, .cells (flatC pm (base : Int)) false), (pm, .cells (memC bm) false), (bm, .cells (strCells bs) mk)] ++ ([(b1, .cells [.int .i64 0, .sl ⟨some ⟨cb, 0⟩, 2, c⟩] false), (gx, .cells [.iface 4 (.ptr (some ⟨gb, 0⟩))] false), (tx, .cells [.ptr (some ⟨tb, 0⟩)] false), (tb, .cells [.ptr (some ⟨r0, 0⟩), .ptr (some ⟨cc, 0⟩)] false), (cc, .cells (consC w ⟨none, 0, 0⟩ q1 q2 q3 q4) false)] ++ wl)) g_ := St.pickR' (A := [(b1, .cells [.int .i64 0, .sl ⟨some ⟨cb, 0⟩, 2, c⟩] false), (cb, .cells (pcells [⟨(k : Int), (n : Int), false⟩, ⟨(k1 : Int), l1, true⟩] ++ rest) mk'), (gx, .cells [.iface 4 (.ptr (some ⟨gb, 0⟩))] false), (tx, .cells [.ptr (some ⟨tb, 0⟩)] false), (tb, .cells [.ptr (some ⟨r0, 0⟩), .ptr (some ⟨cc, 0⟩)] false), (cc, .cells (consC w ⟨none, 0, 0⟩ q1 q2 q3 q4) false), (gb, .cells (flatC pm (base : Int)) false), (pm, .cells (memC bm) false), (bm, .cells (strCells bs) mk)]) (A' := [(cb, .cells (pcells [⟨(k : Int), (n : Int), false⟩, ⟨(k1 : Int), l1, true⟩] ++ rest) mk'), (gb, .cells (flatC pm (base : Int)) false), (pm, .cells (memC bm) false), (bm, .cells (strCells bs) mk), (b1, .cells [.int .i64 0, .sl ⟨some ⟨cb, 0⟩, 2, c⟩] false), (gx, .cells [.iface 4 (.ptr (some ⟨gb, 0⟩))] false), (tx, .cells [.ptr (some ⟨tb, 0⟩)] false), (tb, .cells [.ptr (some ⟨r0, 0⟩), .ptr (some ⟨cc, 0⟩)] false), (cc, .cells (consC w ⟨none, 0, 0⟩ q1 q2 q3 q4) false)]) S_ [1, 6, 7, 8, 0, 2, 3, 4, 5] (by decide) rfl
  clear S_
  refine gather_of hu M hb hk S1 (fun s h1 S2 B2 => ?_)
  have S_ := S2
  simp only [List.cons_append, List.nil_append] at S_
  repeat (first | ((with_reducible first|apply St.rI|apply St.rB|apply St.rP|apply St.rSl|apply St.rV|apply St.rM|apply St.rS|apply St.rN|apply St.ckA);assumption;(first|exact i0|exact i1|exact i2|exact i3|exact i4|exact i5|exact i6|exact i7|exact i8|exact i9|exact i10|exact i11|exact i12|exact i13|exact i14|exact i15);(first|rfl|exact Nat.le_of_ble_eq_true rfl)) | with_reducible refine der_of ?_ | ((with_reducible refine br_t ?_ ?_);rfl) | ((with_reducible refine br_f ?_ ?_);rfl) | ((with_reducible refine br_t ?_ ?_);assumption) | ((with_reducible refine br_f ?_ ?_);assumption) | ((with_reducible first|apply St.wrL|apply St.wr);assumption;(first|exact i0|exact i1|exact i2|exact i3|exact i4|exact i5|exact i6|exact i7|exact i8|exact i9|exact i10|exact i11|exact i12|exact i13|exact i14|exact i15);(first|exact Nat.le_of_ble_eq_true rfl|rfl);intro g_ S_;simp only [Ptr.add, List.set, splice, List.take, List.drop, List.nil_append, List.append_nil, List.cons_append, List.length_cons, List.length_nil, Nat.zero_add, Nat.add_zero, Nat.reduceAdd, Nat.reduceMul, Nat.mul_one, Int.toNat_zero, Int.toNat_one, Int.reduceToNat] at S_) | ((with_reducible refine ix_of ?_ ?_ ?_);exact of_decide_eq_true rfl;exact of_decide_eq_true rfl) | ((with_reducible first|refine nz_of ?_ ?_|refine nneg_of ?_ ?_);exact of_decide_eq_true rfl) | ((with_reducible refine chk_of ?_ ?_);rfl) | (with_reducible first|apply asI_of|apply asB_of|apply asP_of|apply asSl_of|apply asAggV_of|apply asTupV_of|apply asCons_of|apply asNil_of|apply isNil_n|apply isNil_i|apply nilC_i|apply nilCU_i|apply nilCU_f|apply mthC_i) | ((with_reducible refine And.intro ?_ ?_);rfl) | ((with_reducible apply exAnd);rfl))
  have S3 : St h0 W ((cc, .cells (consC w ⟨none, 0, 0⟩ q1 q2 q3 q4) false) :: ([(cb, .cells (pcells [⟨(k : Int), (n : Int), false⟩, ⟨(k1 : Int), l1, true⟩] ++ rest) mk'), (gb, .cells (flatC pm (base : Int)) false), (pm, .cells (memC bm) false), (bm, .cells (strCells bs) mk), (b1, .cells [.int .i64 0, .sl ⟨some ⟨cb, 0⟩, 2, c⟩] false), (gx, .cells [.iface 4 (.ptr (some ⟨gb, 0⟩))] false), (tx, .cells [.ptr (some ⟨tb, 0⟩)] false), (tb, .cells [.ptr (some ⟨r0, 0⟩), .ptr (some ⟨cc, 0⟩)] false)] ++ wl)) h1 := St.pickR' (A := [(cb, .cells (pcells [⟨(k : Int), (n : Int), false⟩, ⟨(k1 : Int), l1, true⟩] ++ rest) mk'), (gb, .cells (flatC pm (base : Int)) false), (pm, .cells (memC bm) false), (bm, .cells (strCells bs) mk), (b1, .cells [.int .i64 0, .sl ⟨some ⟨cb, 0⟩, 2, c⟩] false), (gx, .cells [.iface 4 (.ptr (some ⟨gb, 0⟩))] false), (tx, .cells [.ptr (some ⟨tb, 0⟩)] false), (tb, .cells [.ptr (some ⟨r0, 0⟩), .ptr (some ⟨cc, 0⟩)] false), (cc, .cells (consC w ⟨none, 0, 0⟩ q1 q2 q3 q4) false)]) (A' := [(cc, .cells (consC w ⟨none, 0, 0⟩ q1 q2 q3 q4) false), (cb, .cells (pcells [⟨(k : Int), (n : Int), false⟩, ⟨(k1 : Int), l1, true⟩] ++ rest) mk'), (gb, .cells (flatC pm (base : Int)) false), (pm, .cells (memC bm) false), (bm, .cells (strCells bs) mk), (b1, .cells [.int .i64 0, .sl ⟨some ⟨cb, 0⟩, 2, c⟩] false), (gx, .cells [.iface 4 (.ptr (some ⟨gb, 0⟩))] false), (tx, .cells [.ptr (some ⟨tb, 0⟩)] false), (tb, .cells [.ptr (some ⟨r0, 0⟩), .ptr (some ⟨cc, 0⟩)] false)]) S_ [8, 0, 1, 2, 3, 4, 5, 6, 7] (by decide) rfl
  clear S_ S2
  have htl : ((bs.drop (256 * base + k)).take n).length = n := by simp; omega
  refine Write_of S3 B2.held B2.cap (by omega) (fun o q4 h2 S4 B4 k4 => ?_)
  obtain ⟨ol, hol, S5⟩ := add_bs S4 B4 (fun b hb => ⟨fun hkk => off_keys S3 hb (by
    obtain ⟨v, hv⟩ := hkk
    rcases List.mem_cons.1 hv with e | hv
    · cases e; exact ⟨_, List.mem_cons_self⟩
    · exact ⟨v, List.mem_cons_of_mem _ hv⟩), .inl (fresh_of S3.keeps hb)⟩)
  have S6 : St h0 W ((cc, .cells (consC w o q1 q2 q3 q4) false) :: ([(cb, .cells (pcells [⟨(k : Int), (n : Int), false⟩, ⟨(k1 : Int), l1, true⟩] ++ rest) mk'), (gb, .cells (flatC pm (base : Int)) false), (pm, .cells (memC bm) false), (bm, .cells (strCells bs) mk), (b1, .cells [.int .i64 0, .sl ⟨some ⟨cb, 0⟩, 2, c⟩] false), (gx, .cells [.iface 4 (.ptr (some ⟨gb, 0⟩))] false), (tx, .cells [.ptr (some ⟨tb, 0⟩)] false), (tb, .cells [.ptr (some ⟨r0, 0⟩), .ptr (some ⟨cc, 0⟩)] false)] ++ (ol ++ wl))) h2 := St.perm' S5 (perm_tail2 _ _ _ _)
  clear S3 S4 S5 B4
  have S_ := S6
  simp only [List.cons_append, List.nil_append] at S_
  unfold backend_Tty_Kick_c1.j4
  repeat (first | ((with_reducible first|apply St.rI|apply St.rB|apply St.rP|apply St.rSl|apply St.rV|apply St.rM|apply St.rS|apply St.rN|apply St.ckA);assumption;(first|exact i0|exact i1|exact i2|exact i3|exact i4|exact i5|exact i6|exact i7|exact i8|exact i9|exact i10|exact i11|exact i12|exact i13|exact i14|exact i15);(first|rfl|exact Nat.le_of_ble_eq_true rfl)) | with_reducible refine der_of ?_ | ((with_reducible refine br_t ?_ ?_);rfl) | ((with_reducible refine br_f ?_ ?_);rfl) | ((with_reducible refine br_t ?_ ?_);assumption) | ((with_reducible refine br_f ?_ ?_);assumption) | ((with_reducible first|apply St.wrL|apply St.wr);assumption;(first|exact i0|exact i1|exact i2|exact i3|exact i4|exact i5|exact i6|exact i7|exact i8|exact i9|exact i10|exact i11|exact i12|exact i13|exact i14|exact i15);(first|exact Nat.le_of_ble_eq_true rfl|rfl);intro g_ S_;simp only [Ptr.add, List.set, splice, List.take, List.drop, List.nil_append, List.append_nil, List.cons_append, List.length_cons, List.length_nil, Nat.zero_add, Nat.add_zero, Nat.reduceAdd, Nat.reduceMul, Nat.mul_one, Int.toNat_zero, Int.toNat_one, Int.reduceToNat] at S_) | ((with_reducible refine ix_of ?_ ?_ ?_);exact of_decide_eq_true rfl;exact of_decide_eq_true rfl) | ((with_reducible first|refine nz_of ?_ ?_|refine nneg_of ?_ ?_);exact of_decide_eq_true rfl) | ((with_reducible refine chk_of ?_ ?_);rfl) | (with_reducible first|apply asI_of|apply asB_of|apply asP_of|apply asSl_of|apply asAggV_of|apply asTupV_of|apply asCons_of|apply asNil_of|apply isNil_n|apply isNil_i|apply nilC_i|apply nilCU_i|apply nilCU_f|apply mthC_i) | ((with_reducible refine And.intro ?_ ?_);rfl) | ((with_reducible apply exAnd);rfl))
  unfold backend_Tty_Kick_c1.j6
  intro I HI
  refine HI _ _ _ _ _ _ _ ?_
  unfold backend_Tty_Kick_c1.b6
  repeat (first | ((with_reducible first|apply St.rI|apply St.rB|apply St.rP|apply St.rSl|apply St.rV|apply St.rM|apply St.rS|apply St.rN|apply St.ckA);assumption;(first|exact i0|exact i1|exact i2|exact i3|exact i4|exact i5|exact i6|exact i7|exact i8|exact i9|exact i10|exact i11|exact i12|exact i13|exact i14|exact i15);(first|rfl|exact Nat.le_of_ble_eq_true rfl)) | with_reducible refine der_of ?_ | ((with_reducible refine br_t ?_ ?_);rfl) | ((with_reducible refine br_f ?_ ?_);rfl) | ((with_reducible refine br_t ?_ ?_);assumption) | ((with_reducible refine br_f ?_ ?_);assumption) | ((with_reducible first|apply St.wrL|apply St.wr);assumption;(first|exact i0|exact i1|exact i2|exact i3|exact i4|exact i5|exact i6|exact i7|exact i8|exact i9|exact i10|exact i11|exact i12|exact i13|exact i14|exact i15);(first|exact Nat.le_of_ble_eq_true rfl|rfl);intro g_ S_;simp only [Ptr.add, List.set, splice, List.take, List.drop, List.nil_append, List.append_nil, List.cons_append, List.length_cons, List.length_nil, Nat.zero_add, Nat.add_zero, Nat.reduceAdd, Nat.reduceMul, Nat.mul_one, Int.toNat_zero, Int.toNat_one, Int.reduceToNat] at S_) | ((with_reducible refine ix_of ?_ ?_ ?_);exact of_decide_eq_true rfl;exact of_decide_eq_true rfl) | ((with_reducible first|refine nz_of ?_ ?_|refine nneg_of ?_ ?_);exact of_decide_eq_true rfl) | ((with_reducible refine chk_of ?_ ?_);rfl) | (with_reducible first|apply asI_of|apply asB_of|apply asP_of|apply asSl_of|apply asAggV_of|apply asTupV_of|apply asCons_of|apply asNil_of|apply isNil_n|apply isNil_i|apply nilC_i|apply nilCU_i|apply nilCU_f|apply mthC_i) | ((with_reducible refine And.intro ?_ ?_);rfl) | ((with_reducible apply exAnd);rfl))
  ((with_reducible apply St.al); assumption; intro d1 g_ S_)
  repeat (first | ((with_reducible first|apply St.rI|apply St.rB|apply St.rP|apply St.rSl|apply St.rV|apply St.rM|apply St.rS|apply St.rN|apply St.ckA);assumption;(first|exact i0|exact i1|exact i2|exact i3|exact i4|exact i5|exact i6|exact i7|exact i8|exact i9|exact i10|exact i11|exact i12|exact i13|exact i14|exact i15);(first|rfl|exact Nat.le_of_ble_eq_true rfl)) | with_reducible refine der_of ?_ | ((with_reducible refine br_t ?_ ?_);rfl) | ((with_reducible refine br_f ?_ ?_);rfl) | ((with_reducible refine br_t ?_ ?_);assumption) | ((with_reducible refine br_f ?_ ?_);assumption) | ((with_reducible first|apply St.wrL|apply St.wr);assumption;(first|exact i0|exact i1|exact i2|exact i3|exact i4|exact i5|exact i6|exact i7|exact i8|exact i9|exact i10|exact i11|exact i12|exact i13|exact i14|exact i15);(first|exact Nat.le_of_ble_eq_true rfl|rfl);intro g_ S_;simp only [Ptr.add, List.set, splice, List.take, List.drop, List.nil_append, List.append_nil, List.cons_append, List.length_cons, List.length_nil, Nat.zero_add, Nat.add_zero, Nat.reduceAdd, Nat.reduceMul, Nat.mul_one, Int.toNat_zero, Int.toNat_one, Int.reduceToNat] at S_) | ((with_reducible refine ix_of ?_ ?_ ?_);exact of_decide_eq_true rfl;exact of_decide_eq_true rfl) | ((with_reducible first|refine nz_of ?_ ?_|refine nneg_of ?_ ?_);exact of_decide_eq_true rfl) | ((with_reducible refine chk_of ?_ ?_);rfl) | (with_reducible first|apply asI_of|apply asB_of|apply asP_of|apply asSl_of|apply asAggV_of|apply asTupV_of|apply asCons_of|apply asNil_of|apply isNil_n|apply isNil_i|apply nilC_i|apply nilCU_i|apply nilCU_f|apply mthC_i) | ((with_reducible refine And.intro ?_ ?_);rfl) | ((with_reducible apply exAnd);rfl))
  unfold backend_Tty_Kick_c1.j10
  simp only [w64_0, w64_1, w64_2, w64_3, w64_4, w64_5, w64_6, w64_7, w64_8, w64_9, w64_10, w64_11, w64_12, w64_13, w64_14, w64_15, w64_16, w64_17, w64_18, w64_19]
  refine HI _ _ _ _ _ _ _ ?_
  unfold backend_Tty_Kick_c1.b6
  repeat (first | ((with_reducible first|apply St.rI|apply St.rB|apply St.rP|apply St.rSl|apply St.rV|apply St.rM|apply St.rS|apply St.rN|apply St.ckA);assumption;(first|exact i0|exact i1|exact i2|exact i3|exact i4|exact i5|exact i6|exact i7|exact i8|exact i9|exact i10|exact i11|exact i12|exact i13|exact i14|exact i15);(first|rfl|exact Nat.le_of_ble_eq_true rfl)) | with_reducible refine der_of ?_ | ((with_reducible refine br_t ?_ ?_);rfl) | ((with_reducible refine br_f ?_ ?_);rfl) | ((with_reducible refine br_t ?_ ?_);assumption) | ((with_reducible refine br_f ?_ ?_);assumption) | ((with_reducible first|apply St.wrL|apply St.wr);assumption;(first|exact i0|exact i1|exact i2|exact i3|exact i4|exact i5|exact i6|exact i7|exact i8|exact i9|exact i10|exact i11|exact i12|exact i13|exact i14|exact i15);(first|exact Nat.le_of_ble_eq_true rfl|rfl);intro g_ S_;simp only [Ptr.add, List.set, splice, List.take, List.drop, List.nil_append, List.append_nil, List.cons_append, List.length_cons, List.length_nil, Nat.zero_add, Nat.add_zero, Nat.reduceAdd, Nat.reduceMul, Nat.mul_one, Int.toNat_zero, Int.toNat_one, Int.reduceToNat] at S_) | ((with_reducible refine ix_of ?_ ?_ ?_);exact of_decide_eq_true rfl;exact of_decide_eq_true rfl) | ((with_reducible first|refine nz_of ?_ ?_|refine nneg_of ?_ ?_);exact of_decide_eq_true rfl) | ((with_reducible refine chk_of ?_ ?_);rfl) | (with_reducible first|apply asI_of|apply asB_of|apply asP_of|apply asSl_of|apply asAggV_of|apply asTupV_of|apply asCons_of|apply asNil_of|apply isNil_n|apply isNil_i|apply nilC_i|apply nilCU_i|apply nilCU_f|apply mthC_i) | ((with_reducible refine And.intro ?_ ?_);rfl) | ((with_reducible apply exAnd);rfl))
  ((with_reducible apply St.al); assumption; intro d2 g_ S_)
  repeat (first | ((with_reducible first|apply St.rI|apply St.rB|apply St.rP|apply St.rSl|apply St.rV|apply St.rM|apply St.rS|apply St.rN|apply St.ckA);assumption;(first|exact i0|exact i1|exact i2|exact i3|exact i4|exact i5|exact i6|exact i7|exact i8|exact i9|exact i10|exact i11|exact i12|exact i13|exact i14|exact i15);(first|rfl|exact Nat.le_of_ble_eq_true rfl)) | with_reducible refine der_of ?_ | ((with_reducible refine br_t ?_ ?_);rfl) | ((with_reducible refine br_f ?_ ?_);rfl) | ((with_reducible refine br_t ?_ ?_);assumption) | ((with_reducible refine br_f ?_ ?_);assumption) | ((with_reducible first|apply St.wrL|apply St.wr);assumption;(first|exact i0|exact i1|exact i2|exact i3|exact i4|exact i5|exact i6|exact i7|exact i8|exact i9|exact i10|exact i11|exact i12|exact i13|exact i14|exact i15);(first|exact Nat.le_of_ble_eq_true rfl|rfl);intro g_ S_;simp only [Ptr.add, List.set, splice, List.take, List.drop, List.nil_append, List.append_nil, List.cons_append, List.length_cons, List.length_nil, Nat.zero_add, Nat.add_zero, Nat.reduceAdd, Nat.reduceMul, Nat.mul_one, Int.toNat_zero, Int.toNat_one, Int.reduceToNat] at S_) | ((with_reducible refine ix_of ?_ ?_ ?_);exact of_decide_eq_true rfl;exact of_decide_eq_true rfl) | ((with_reducible first|refine nz_of ?_ ?_|refine nneg_of ?_ ?_);exact of_decide_eq_true rfl) | ((with_reducible refine chk_of ?_ ?_);rfl) | (with_reducible first|apply asI_of|apply asB_of|apply asP_of|apply asSl_of|apply asAggV_of|apply asTupV_of|apply asCons_of|apply asNil_of|apply isNil_n|apply isNil_i|apply nilC_i|apply nilCU_i|apply nilCU_f|apply mthC_i) | ((with_reducible refine And.intro ?_ ?_);rfl) | ((with_reducible apply exAnd);rfl))
  -- what came is read
  have rd : ∀ {g : Heap} {A : List (Nat × HO)} {K : Sl → Heap → Prop}, St h0 W ((cc, .cells (consC w o q1 q2 q3 q4) false) :: (A ++ (ol ++ wl))) g → (∀ w' q3 rb mkb (ys : List UInt8) h', (ys.length : Int) = min l1 (came.length : Int) → ys = came.take ys.length → St h0 W ((rb, .cells (strCells ys) mkb) :: (cc, .cells (consC w' o q1 q2 q3 q4) false) :: (A ++ ol)) h' → K ⟨some ⟨rb, 0⟩, ys.length, ys.length⟩ h') → console_Console_Read (some ⟨cc, 0⟩) l1 K g := by
    intro g A K SA hK
    have e : ((cc, .cells (consC w o q1 q2 q3 q4) false) :: (A ++ (ol ++ wl))) = ((cc, .cells (consC w o q1 q2 q3 q4) false) :: (A ++ ol)) ++ wl := by simp
    rw [e] at SA
    obtain ⟨Bw, hF⟩ := wl_bs SA hwl
    have SB := SA.sub (List.sublist_append_left _ _)
    refine Read_of SB Bw hF hcm (by omega) (fun w' q3 kk rb h' hkk S' O hrb => ?_)
    have hyl : (came.take kk).length = kk := by rw [List.length_take]; omega
    obtain ⟨ys, hys⟩ : ∃ ys, ys = came.take kk := ⟨_, rfl⟩
    rw [← hys] at hyl O
    subst hyl
    obtain ⟨rs, mkb, ho, hr⟩ := O.obj
    simp only [Nat.sub_self, Nat.zero_mul] at hr
    obtain rfl := List.length_eq_zero_iff.1 hr
    rw [List.append_nil] at ho
    refine hK w' q3 rb mkb ys h' hkk hys (S'.add ho (.inl (fresh_of SB.keeps hrb)) (fun hm => ?_))
    refine off_keys SB hrb ?_
    obtain ⟨p, hp, hpe⟩ := List.mem_map.1 hm
    rcases List.mem_cons.1 hp with e | hp
    · rw [e] at hpe; exact ⟨_, by rw [← hpe]; exact List.mem_cons_self⟩
    · exact ⟨p.2, by rw [← hpe]; exact List.mem_cons_of_mem _ hp⟩
  -- and put into the part
  have fin : ∀ (d3 rb : Nat) (w' : Sl) (q3 : Int) (mkb : Bool) (ys : List UInt8) (g : Heap), (ys.length : Int) = min l1 (came.length : Int) → ys = came.take ys.length → St h0 W ([(rb, .cells (strCells ys) mkb), (d3, .cells [.int .u64 (k1 : Int), .int .i64 l1, .bool true] false), (gb, .cells (flatC pm (base : Int)) false), (pm, .cells (memC bm) false), (bm, .cells (strCells bs) mk), (cc, .cells (consC w' o q1 q2 q3 q4) false), (cb, .cells (pcells [⟨(k : Int), (n : Int), false⟩, ⟨(k1 : Int), l1, true⟩] ++ rest) mk'), (gx, .cells [.iface 4 (.ptr (some ⟨gb, 0⟩))] false), (tx, .cells [.ptr (some ⟨tb, 0⟩)] false), (tb, .cells [.ptr (some ⟨r0, 0⟩), .ptr (some ⟨cc, 0⟩)] false)] ++ ol) g →
      backend_spread U (.iface 4 (.ptr (some ⟨gb, 0⟩))) 0 ⟨some ⟨d3, 0⟩, 1, 1⟩ ⟨some ⟨rb, 0⟩, ys.length, ys.length⟩ (fun r h => backend_Tty_Kick_c1.j10 U I ⟨gx, 0⟩ ⟨tx, 0⟩ (IntKind.i64.wrap (0 + r)) ⟨some ⟨cb, 0⟩, 2, c⟩ 2 1 Q h) g := by
    intro d3 rb w' q3 mkb ys g hy hys SF
    have hbn : ¬ keysOf ([(d3, HO.cells [.int .u64 (k1 : Int), .int .i64 l1, .bool true] false), (gb, .cells (flatC pm (base : Int)) false), (pm, .cells (memC bm) false), (bm, .cells (strCells bs) mk)] ++ ([(cc, .cells (consC w' o q1 q2 q3 q4) false), (cb, .cells (pcells [⟨(k : Int), (n : Int), false⟩, ⟨(k1 : Int), l1, true⟩] ++ rest) mk'), (gx, .cells [.iface 4 (.ptr (some ⟨gb, 0⟩))] false), (tx, .cells [.ptr (some ⟨tb, 0⟩)] false), (tb, .cells [.ptr (some ⟨r0, 0⟩), .ptr (some ⟨cc, 0⟩)] false)] ++ ol)) rb := head_off SF
    have H : Held g ⟨some ⟨rb, 0⟩, ys.length, ys.length⟩ 1 (strCells ys) := by
      refine ⟨by rw [strCells_length, Nat.mul_one], fun p hp i v hv => ?_, fun hp => by cases hp⟩
      cases hp
      rw [get_cells (SF.obj i0), Nat.zero_add, hv]
    refine spread_of (R := [(cc, .cells (consC w' o q1 q2 q3 q4) false), (cb, .cells (pcells [⟨(k : Int), (n : Int), false⟩, ⟨(k1 : Int), l1, true⟩] ++ rest) mk'), (gx, .cells [.iface 4 (.ptr (some ⟨gb, 0⟩))] false), (tx, .cells [.ptr (some ⟨tb, 0⟩)] false), (tb, .cells [.ptr (some ⟨r0, 0⟩), .ptr (some ⟨cc, 0⟩)] false)] ++ ol) hu M hb (by omega) (by omega) SF.tail H (Nat.le_refl _) hbn (fun bs' m' mk2 h' S' M' hm' hby _ => ?_)
    have S_ := S'
    simp only [List.cons_append, List.nil_append] at S_
    unfold backend_Tty_Kick_c1.j10
    rw [show IntKind.i64.wrap (0 + (ys.length : Int)) = (ys.length : Int) by rw [wrap64] <;> omega]
    simp only [w64_0, w64_1, w64_2, w64_3, w64_4, w64_5, w64_6, w64_7, w64_8, w64_9, w64_10, w64_11, w64_12, w64_13, w64_14, w64_15, w64_16, w64_17, w64_18, w64_19]
    refine HI _ _ _ _ _ _ _ ?_
    unfold backend_Tty_Kick_c1.b6
    repeat (first | ((with_reducible first|apply St.rI|apply St.rB|apply St.rP|apply St.rSl|apply St.rV|apply St.rM|apply St.rS|apply St.rN|apply St.ckA);assumption;(first|exact i0|exact i1|exact i2|exact i3|exact i4|exact i5|exact i6|exact i7|exact i8|exact i9|exact i10|exact i11|exact i12|exact i13|exact i14|exact i15);(first|rfl|exact Nat.le_of_ble_eq_true rfl)) | with_reducible refine der_of ?_ | ((with_reducible refine br_t ?_ ?_);rfl) | ((with_reducible refine br_f ?_ ?_);rfl) | ((with_reducible refine br_t ?_ ?_);assumption) | ((with_reducible refine br_f ?_ ?_);assumption) | ((with_reducible first|apply St.wrL|apply St.wr);assumption;(first|exact i0|exact i1|exact i2|exact i3|exact i4|exact i5|exact i6|exact i7|exact i8|exact i9|exact i10|exact i11|exact i12|exact i13|exact i14|exact i15);(first|exact Nat.le_of_ble_eq_true rfl|rfl);intro g_ S_;simp only [Ptr.add, List.set, splice, List.take, List.drop, List.nil_append, List.append_nil, List.cons_append, List.length_cons, List.length_nil, Nat.zero_add, Nat.add_zero, Nat.reduceAdd, Nat.reduceMul, Nat.mul_one, Int.toNat_zero, Int.toNat_one, Int.reduceToNat] at S_) | ((with_reducible refine ix_of ?_ ?_ ?_);exact of_decide_eq_true rfl;exact of_decide_eq_true rfl) | ((with_reducible first|refine nz_of ?_ ?_|refine nneg_of ?_ ?_);exact of_decide_eq_true rfl) | ((with_reducible refine chk_of ?_ ?_);rfl) | (with_reducible first|apply asI_of|apply asB_of|apply asP_of|apply asSl_of|apply asAggV_of|apply asTupV_of|apply asCons_of|apply asNil_of|apply isNil_n|apply isNil_i|apply nilC_i|apply nilCU_i|apply nilCU_f|apply mthC_i) | ((with_reducible refine And.intro ?_ ?_);rfl) | ((with_reducible apply exAnd);rfl))
    exact hq o w' q3 q4 ol bs' m' mk2 ys.length h' (St.pickR' (A := [_, (gb, .cells (flatC pm (base : Int)) false), (pm, .cells (memC bm) false), (bm, .cells (strCells bs') mk2), (cc, .cells (consC w' o q1 q2 q3 q4) false), (cb, .cells (pcells [⟨(k : Int), (n : Int), false⟩, ⟨(k1 : Int), l1, true⟩] ++ rest) mk'), (gx, .cells [.iface 4 (.ptr (some ⟨gb, 0⟩))] false), (tx, .cells [.ptr (some ⟨tb, 0⟩)] false), (tb, .cells [.ptr (some ⟨r0, 0⟩), .ptr (some ⟨cc, 0⟩)] false)]) (A' := [(cb, .cells (pcells [⟨(k : Int), (n : Int), false⟩, ⟨(k1 : Int), l1, true⟩] ++ rest) mk'), (gx, .cells [.iface 4 (.ptr (some ⟨gb, 0⟩))] false), (tx, .cells [.ptr (some ⟨tb, 0⟩)] false), (tb, .cells [.ptr (some ⟨r0, 0⟩), .ptr (some ⟨cc, 0⟩)] false), (cc, .cells (consC w' o q1 q2 q3 q4) false), (gb, .cells (flatC pm (base : Int)) false), (pm, .cells (memC bm) false), (bm, .cells (strCells bs') mk2)]) S_ [5, 6, 7, 8, 4, 1, 2, 3] (by decide) rfl) hol M' hy hm' (by rw [hby]; exact hys)
  refine ⟨?_, ?_⟩
  · ((with_reducible apply St.al); assumption; intro d3 g_ S_)
    repeat (first | ((with_reducible first|apply St.rI|apply St.rB|apply St.rP|apply St.rSl|apply St.rV|apply St.rM|apply St.rS|apply St.rN|apply St.ckA);assumption;(first|exact i0|exact i1|exact i2|exact i3|exact i4|exact i5|exact i6|exact i7|exact i8|exact i9|exact i10|exact i11|exact i12|exact i13|exact i14|exact i15);(first|rfl|exact Nat.le_of_ble_eq_true rfl)) | with_reducible refine der_of ?_ | ((with_reducible refine br_t ?_ ?_);rfl) | ((with_reducible refine br_f ?_ ?_);rfl) | ((with_reducible refine br_t ?_ ?_);assumption) | ((with_reducible refine br_f ?_ ?_);assumption) | ((with_reducible first|apply St.wrL|apply St.wr);assumption;(first|exact i0|exact i1|exact i2|exact i3|exact i4|exact i5|exact i6|exact i7|exact i8|exact i9|exact i10|exact i11|exact i12|exact i13|exact i14|exact i15);(first|exact Nat.le_of_ble_eq_true rfl|rfl);intro g_ S_;simp only [Ptr.add, List.set, splice, List.take, List.drop, List.nil_append, List.append_nil, List.cons_append, List.length_cons, List.length_nil, Nat.zero_add, Nat.add_zero, Nat.reduceAdd, Nat.reduceMul, Nat.mul_one, Int.toNat_zero, Int.toNat_one, Int.reduceToNat] at S_) | ((with_reducible refine ix_of ?_ ?_ ?_);exact of_decide_eq_true rfl;exact of_decide_eq_true rfl) | ((with_reducible first|refine nz_of ?_ ?_|refine nneg_of ?_ ?_);exact of_decide_eq_true rfl) | ((with_reducible refine chk_of ?_ ?_);rfl) | (with_reducible first|apply asI_of|apply asB_of|apply asP_of|apply asSl_of|apply asAggV_of|apply asTupV_of|apply asCons_of|apply asNil_of|apply isNil_n|apply isNil_i|apply nilC_i|apply nilCU_i|apply nilCU_f|apply mthC_i) | ((with_reducible refine And.intro ?_ ?_);rfl) | ((with_reducible apply exAnd);rfl))
    have SR : St h0 W ((cc, .cells (consC w o q1 q2 q3 q4) false) :: ([(d3, HO.cells [.int .u64 (k1 : Int), .int .i64 l1, .bool true] false), (d2, HO.cells [.int .u64 (k1 : Int), .int .i64 l1, .bool true] false), (gb, .cells (flatC pm (base : Int)) false), (pm, .cells (memC bm) false), (bm, .cells (strCells bs) mk), (cb, .cells (pcells [⟨(k : Int), (n : Int), false⟩, ⟨(k1 : Int), l1, true⟩] ++ rest) mk'), (gx, .cells [.iface 4 (.ptr (some ⟨gb, 0⟩))] false), (tx, .cells [.ptr (some ⟨tb, 0⟩)] false), (tb, .cells [.ptr (some ⟨r0, 0⟩), .ptr (some ⟨cc, 0⟩)] false)] ++ (ol ++ wl))) g_ := St.pickR' (A := [(d3, HO.cells [.int .u64 (k1 : Int), .int .i64 l1, .bool true] false), (d2, HO.cells [.int .u64 (k1 : Int), .int .i64 l1, .bool true] false), _, (cc, .cells (consC w o q1 q2 q3 q4) false), (cb, .cells (pcells [⟨(k : Int), (n : Int), false⟩, ⟨(k1 : Int), l1, true⟩] ++ rest) mk'), (gb, .cells (flatC pm (base : Int)) false), (pm, .cells (memC bm) false), (bm, .cells (strCells bs) mk), _, (gx, .cells [.iface 4 (.ptr (some ⟨gb, 0⟩))] false), (tx, .cells [.ptr (some ⟨tb, 0⟩)] false), (tb, .cells [.ptr (some ⟨r0, 0⟩), .ptr (some ⟨cc, 0⟩)] false)]) (A' := [(cc, .cells (consC w o q1 q2 q3 q4) false), (d3, HO.cells [.int .u64 (k1 : Int), .int .i64 l1, .bool true] false), (d2, HO.cells [.int .u64 (k1 : Int), .int .i64 l1, .bool true] false), (gb, .cells (flatC pm (base : Int)) false), (pm, .cells (memC bm) false), (bm, .cells (strCells bs) mk), (cb, .cells (pcells [⟨(k : Int), (n : Int), false⟩, ⟨(k1 : Int), l1, true⟩] ++ rest) mk'), (gx, .cells [.iface 4 (.ptr (some ⟨gb, 0⟩))] false), (tx, .cells [.ptr (some ⟨tb, 0⟩)] false), (tb, .cells [.ptr (some ⟨r0, 0⟩), .ptr (some ⟨cc, 0⟩)] false)]) S_ [3, 0, 1, 5, 6, 7, 4, 9, 10, 11] (by decide) rfl
    clear S_
    refine ⟨?_, ?_⟩
    · have S_ := SR
      simp only [List.cons_append, List.nil_append] at S_
      repeat (first | ((with_reducible first|apply St.rI|apply St.rB|apply St.rP|apply St.rSl|apply St.rV|apply St.rM|apply St.rS|apply St.rN|apply St.ckA);assumption;(first|exact i0|exact i1|exact i2|exact i3|exact i4|exact i5|exact i6|exact i7|exact i8|exact i9|exact i10|exact i11|exact i12|exact i13|exact i14|exact i15);(first|rfl|exact Nat.le_of_ble_eq_true rfl)) | with_reducible refine der_of ?_ | ((with_reducible refine br_t ?_ ?_);rfl) | ((with_reducible refine br_f ?_ ?_);rfl) | ((with_reducible refine br_t ?_ ?_);assumption) | ((with_reducible refine br_f ?_ ?_);assumption) | ((with_reducible first|apply St.wrL|apply St.wr);assumption;(first|exact i0|exact i1|exact i2|exact i3|exact i4|exact i5|exact i6|exact i7|exact i8|exact i9|exact i10|exact i11|exact i12|exact i13|exact i14|exact i15);(first|exact Nat.le_of_ble_eq_true rfl|rfl);intro g_ S_;simp only [Ptr.add, List.set, splice, List.take, List.drop, List.nil_append, List.append_nil, List.cons_append, List.length_cons, List.length_nil, Nat.zero_add, Nat.add_zero, Nat.reduceAdd, Nat.reduceMul, Nat.mul_one, Int.toNat_zero, Int.toNat_one, Int.reduceToNat] at S_) | ((with_reducible refine ix_of ?_ ?_ ?_);exact of_decide_eq_true rfl;exact of_decide_eq_true rfl) | ((with_reducible first|refine nz_of ?_ ?_|refine nneg_of ?_ ?_);exact of_decide_eq_true rfl) | ((with_reducible refine chk_of ?_ ?_);rfl) | (with_reducible first|apply asI_of|apply asB_of|apply asP_of|apply asSl_of|apply asAggV_of|apply asTupV_of|apply asCons_of|apply asNil_of|apply isNil_n|apply isNil_i|apply nilC_i|apply nilCU_i|apply nilCU_f|apply mthC_i) | ((with_reducible refine And.intro ?_ ?_);rfl) | ((with_reducible apply exAnd);rfl))
      refine rd SR (fun w' q3 rb mkb ys h' hy hys S' => ?_)
      clear S_
      have S_ := S'
      simp only [List.cons_append, List.nil_append] at S_
      repeat (first | ((with_reducible first|apply St.rI|apply St.rB|apply St.rP|apply St.rSl|apply St.rV|apply St.rM|apply St.rS|apply St.rN|apply St.ckA);assumption;(first|exact i0|exact i1|exact i2|exact i3|exact i4|exact i5|exact i6|exact i7|exact i8|exact i9|exact i10|exact i11|exact i12|exact i13|exact i14|exact i15);(first|rfl|exact Nat.le_of_ble_eq_true rfl)) | with_reducible refine der_of ?_ | ((with_reducible refine br_t ?_ ?_);rfl) | ((with_reducible refine br_f ?_ ?_);rfl) | ((with_reducible refine br_t ?_ ?_);assumption) | ((with_reducible refine br_f ?_ ?_);assumption) | ((with_reducible first|apply St.wrL|apply St.wr);assumption;(first|exact i0|exact i1|exact i2|exact i3|exact i4|exact i5|exact i6|exact i7|exact i8|exact i9|exact i10|exact i11|exact i12|exact i13|exact i14|exact i15);(first|exact Nat.le_of_ble_eq_true rfl|rfl);intro g_ S_;simp only [Ptr.add, List.set, splice, List.take, List.drop, List.nil_append, List.append_nil, List.cons_append, List.length_cons, List.length_nil, Nat.zero_add, Nat.add_zero, Nat.reduceAdd, Nat.reduceMul, Nat.mul_one, Int.toNat_zero, Int.toNat_one, Int.reduceToNat] at S_) | ((with_reducible refine ix_of ?_ ?_ ?_);exact of_decide_eq_true rfl;exact of_decide_eq_true rfl) | ((with_reducible first|refine nz_of ?_ ?_|refine nneg_of ?_ ?_);exact of_decide_eq_true rfl) | ((with_reducible refine chk_of ?_ ?_);rfl) | (with_reducible first|apply asI_of|apply asB_of|apply asP_of|apply asSl_of|apply asAggV_of|apply asTupV_of|apply asCons_of|apply asNil_of|apply isNil_n|apply isNil_i|apply nilC_i|apply nilCU_i|apply nilCU_f|apply mthC_i) | ((with_reducible refine And.intro ?_ ?_);rfl) | ((with_reducible apply exAnd);rfl))
      exact fin d3 rb w' q3 mkb ys _ hy hys (St.pickR' (A := [(rb, .cells (strCells ys) mkb), (cc, .cells (consC w' o q1 q2 q3 q4) false), (d3, HO.cells [.int .u64 (k1 : Int), .int .i64 l1, .bool true] false), (d2, HO.cells [.int .u64 (k1 : Int), .int .i64 l1, .bool true] false), (gb, .cells (flatC pm (base : Int)) false), (pm, .cells (memC bm) false), (bm, .cells (strCells bs) mk), (cb, .cells (pcells [⟨(k : Int), (n : Int), false⟩, ⟨(k1 : Int), l1, true⟩] ++ rest) mk'), (gx, .cells [.iface 4 (.ptr (some ⟨gb, 0⟩))] false), (tx, .cells [.ptr (some ⟨tb, 0⟩)] false), (tb, .cells [.ptr (some ⟨r0, 0⟩), .ptr (some ⟨cc, 0⟩)] false)]) S_ [0, 2, 4, 5, 6, 1, 7, 8, 9, 10] (by decide) rfl)
    · have S_ := SR
      simp only [List.cons_append, List.nil_append] at S_
      repeat (first | ((with_reducible first|apply St.rI|apply St.rB|apply St.rP|apply St.rSl|apply St.rV|apply St.rM|apply St.rS|apply St.rN|apply St.ckA);assumption;(first|exact i0|exact i1|exact i2|exact i3|exact i4|exact i5|exact i6|exact i7|exact i8|exact i9|exact i10|exact i11|exact i12|exact i13|exact i14|exact i15);(first|rfl|exact Nat.le_of_ble_eq_true rfl)) | with_reducible refine der_of ?_ | ((with_reducible refine br_t ?_ ?_);rfl) | ((with_reducible refine br_f ?_ ?_);rfl) | ((with_reducible refine br_t ?_ ?_);assumption) | ((with_reducible refine br_f ?_ ?_);assumption) | ((with_reducible first|apply St.wrL|apply St.wr);assumption;(first|exact i0|exact i1|exact i2|exact i3|exact i4|exact i5|exact i6|exact i7|exact i8|exact i9|exact i10|exact i11|exact i12|exact i13|exact i14|exact i15);(first|exact Nat.le_of_ble_eq_true rfl|rfl);intro g_ S_;simp only [Ptr.add, List.set, splice, List.take, List.drop, List.nil_append, List.append_nil, List.cons_append, List.length_cons, List.length_nil, Nat.zero_add, Nat.add_zero, Nat.reduceAdd, Nat.reduceMul, Nat.mul_one, Int.toNat_zero, Int.toNat_one, Int.reduceToNat] at S_) | ((with_reducible refine ix_of ?_ ?_ ?_);exact of_decide_eq_true rfl;exact of_decide_eq_true rfl) | ((with_reducible first|refine nz_of ?_ ?_|refine nneg_of ?_ ?_);exact of_decide_eq_true rfl) | ((with_reducible refine chk_of ?_ ?_);rfl) | (with_reducible first|apply asI_of|apply asB_of|apply asP_of|apply asSl_of|apply asAggV_of|apply asTupV_of|apply asCons_of|apply asNil_of|apply isNil_n|apply isNil_i|apply nilC_i|apply nilCU_i|apply nilCU_f|apply mthC_i) | ((with_reducible refine And.intro ?_ ?_);rfl) | ((with_reducible apply exAnd);rfl))
      refine rd SR (fun w' q3 rb mkb ys h' hy hys S' => ?_)
      clear S_
      have S_ := S'
      simp only [List.cons_append, List.nil_append] at S_
      repeat (first | ((with_reducible first|apply St.rI|apply St.rB|apply St.rP|apply St.rSl|apply St.rV|apply St.rM|apply St.rS|apply St.rN|apply St.ckA);assumption;(first|exact i0|exact i1|exact i2|exact i3|exact i4|exact i5|exact i6|exact i7|exact i8|exact i9|exact i10|exact i11|exact i12|exact i13|exact i14|exact i15);(first|rfl|exact Nat.le_of_ble_eq_true rfl)) | with_reducible refine der_of ?_ | ((with_reducible refine br_t ?_ ?_);rfl) | ((with_reducible refine br_f ?_ ?_);rfl) | ((with_reducible refine br_t ?_ ?_);assumption) | ((with_reducible refine br_f ?_ ?_);assumption) | ((with_reducible first|apply St.wrL|apply St.wr);assumption;(first|exact i0|exact i1|exact i2|exact i3|exact i4|exact i5|exact i6|exact i7|exact i8|exact i9|exact i10|exact i11|exact i12|exact i13|exact i14|exact i15);(first|exact Nat.le_of_ble_eq_true rfl|rfl);intro g_ S_;simp only [Ptr.add, List.set, splice, List.take, List.drop, List.nil_append, List.append_nil, List.cons_append, List.length_cons, List.length_nil, Nat.zero_add, Nat.add_zero, Nat.reduceAdd, Nat.reduceMul, Nat.mul_one, Int.toNat_zero, Int.toNat_one, Int.reduceToNat] at S_) | ((with_reducible refine ix_of ?_ ?_ ?_);exact of_decide_eq_true rfl;exact of_decide_eq_true rfl) | ((with_reducible first|refine nz_of ?_ ?_|refine nneg_of ?_ ?_);exact of_decide_eq_true rfl) | ((with_reducible refine chk_of ?_ ?_);rfl) | (with_reducible first|apply asI_of|apply asB_of|apply asP_of|apply asSl_of|apply asAggV_of|apply asTupV_of|apply asCons_of|apply asNil_of|apply isNil_n|apply isNil_i|apply nilC_i|apply nilCU_i|apply nilCU_f|apply mthC_i) | ((with_reducible refine And.intro ?_ ?_);rfl) | ((with_reducible apply exAnd);rfl))
      exact fin d3 rb w' q3 mkb ys _ hy hys (St.pickR' (A := [(rb, .cells (strCells ys) mkb), (cc, .cells (consC w' o q1 q2 q3 q4) false), (d3, HO.cells [.int .u64 (k1 : Int), .int .i64 l1, .bool true] false), (d2, HO.cells [.int .u64 (k1 : Int), .int .i64 l1, .bool true] false), (gb, .cells (flatC pm (base : Int)) false), (pm, .cells (memC bm) false), (bm, .cells (strCells bs) mk), (cb, .cells (pcells [⟨(k : Int), (n : Int), false⟩, ⟨(k1 : Int), l1, true⟩] ++ rest) mk'), (gx, .cells [.iface 4 (.ptr (some ⟨gb, 0⟩))] false), (tx, .cells [.ptr (some ⟨tb, 0⟩)] false), (tb, .cells [.ptr (some ⟨r0, 0⟩), .ptr (some ⟨cc, 0⟩)] false)]) S_ [0, 2, 4, 5, 6, 1, 7, 8, 9, 10] (by decide) rfl)
  · have SR : St h0 W ((cc, .cells (consC w o q1 q2 q3 q4) false) :: ([(d2, HO.cells [.int .u64 (k1 : Int), .int .i64 l1, .bool true] false), (gb, .cells (flatC pm (base : Int)) false), (pm, .cells (memC bm) false), (bm, .cells (strCells bs) mk), (cb, .cells (pcells [⟨(k : Int), (n : Int), false⟩, ⟨(k1 : Int), l1, true⟩] ++ rest) mk'), (gx, .cells [.iface 4 (.ptr (some ⟨gb, 0⟩))] false), (tx, .cells [.ptr (some ⟨tb, 0⟩)] false), (tb, .cells [.ptr (some ⟨r0, 0⟩), .ptr (some ⟨cc, 0⟩)] false)] ++ (ol ++ wl))) _ := St.pickR' (A := [(d2, HO.cells [.int .u64 (k1 : Int), .int .i64 l1, .bool true] false), _, (cc, .cells (consC w o q1 q2 q3 q4) false), (cb, .cells (pcells [⟨(k : Int), (n : Int), false⟩, ⟨(k1 : Int), l1, true⟩] ++ rest) mk'), (gb, .cells (flatC pm (base : Int)) false), (pm, .cells (memC bm) false), (bm, .cells (strCells bs) mk), _, (gx, .cells [.iface 4 (.ptr (some ⟨gb, 0⟩))] false), (tx, .cells [.ptr (some ⟨tb, 0⟩)] false), (tb, .cells [.ptr (some ⟨r0, 0⟩), .ptr (some ⟨cc, 0⟩)] false)]) (A' := [(cc, .cells (consC w o q1 q2 q3 q4) false), (d2, HO.cells [.int .u64 (k1 : Int), .int .i64 l1, .bool true] false), (gb, .cells (flatC pm (base : Int)) false), (pm, .cells (memC bm) false), (bm, .cells (strCells bs) mk), (cb, .cells (pcells [⟨(k : Int), (n : Int), false⟩, ⟨(k1 : Int), l1, true⟩] ++ rest) mk'), (gx, .cells [.iface 4 (.ptr (some ⟨gb, 0⟩))] false), (tx, .cells [.ptr (some ⟨tb, 0⟩)] false), (tb, .cells [.ptr (some ⟨r0, 0⟩), .ptr (some ⟨cc, 0⟩)] false)]) S_ [2, 0, 4, 5, 6, 3, 8, 9, 10] (by decide) rfl
    clear S_
    refine rd SR (fun w' q3 rb mkb ys h' hy hys S' => ?_)
    have S_ := S'
    simp only [List.cons_append, List.nil_append] at S_
    repeat (first | ((with_reducible first|apply St.rI|apply St.rB|apply St.rP|apply St.rSl|apply St.rV|apply St.rM|apply St.rS|apply St.rN|apply St.ckA);assumption;(first|exact i0|exact i1|exact i2|exact i3|exact i4|exact i5|exact i6|exact i7|exact i8|exact i9|exact i10|exact i11|exact i12|exact i13|exact i14|exact i15);(first|rfl|exact Nat.le_of_ble_eq_true rfl)) | with_reducible refine der_of ?_ | ((with_reducible refine br_t ?_ ?_);rfl) | ((with_reducible refine br_f ?_ ?_);rfl) | ((with_reducible refine br_t ?_ ?_);assumption) | ((with_reducible refine br_f ?_ ?_);assumption) | ((with_reducible first|apply St.wrL|apply St.wr);assumption;(first|exact i0|exact i1|exact i2|exact i3|exact i4|exact i5|exact i6|exact i7|exact i8|exact i9|exact i10|exact i11|exact i12|exact i13|exact i14|exact i15);(first|exact Nat.le_of_ble_eq_true rfl|rfl);intro g_ S_;simp only [Ptr.add, List.set, splice, List.take, List.drop, List.nil_append, List.append_nil, List.cons_append, List.length_cons, List.length_nil, Nat.zero_add, Nat.add_zero, Nat.reduceAdd, Nat.reduceMul, Nat.mul_one, Int.toNat_zero, Int.toNat_one, Int.reduceToNat] at S_) | ((with_reducible refine ix_of ?_ ?_ ?_);exact of_decide_eq_true rfl;exact of_decide_eq_true rfl) | ((with_reducible first|refine nz_of ?_ ?_|refine nneg_of ?_ ?_);exact of_decide_eq_true rfl) | ((with_reducible refine chk_of ?_ ?_);rfl) | (with_reducible first|apply asI_of|apply asB_of|apply asP_of|apply asSl_of|apply asAggV_of|apply asTupV_of|apply asCons_of|apply asNil_of|apply isNil_n|apply isNil_i|apply nilC_i|apply nilCU_i|apply nilCU_f|apply mthC_i) | ((with_reducible refine And.intro ?_ ?_);rfl) | ((with_reducible apply exAnd);rfl))
    ((with_reducible apply St.al); assumption; intro d3 g_ S_)
    repeat (first | ((with_reducible first|apply St.rI|apply St.rB|apply St.rP|apply St.rSl|apply St.rV|apply St.rM|apply St.rS|apply St.rN|apply St.ckA);assumption;(first|exact i0|exact i1|exact i2|exact i3|exact i4|exact i5|exact i6|exact i7|exact i8|exact i9|exact i10|exact i11|exact i12|exact i13|exact i14|exact i15);(first|rfl|exact Nat.le_of_ble_eq_true rfl)) | with_reducible refine der_of ?_ | ((with_reducible refine br_t ?_ ?_);rfl) | ((with_reducible refine br_f ?_ ?_);rfl) | ((with_reducible refine br_t ?_ ?_);assumption) | ((with_reducible refine br_f ?_ ?_);assumption) | ((with_reducible first|apply St.wrL|apply St.wr);assumption;(first|exact i0|exact i1|exact i2|exact i3|exact i4|exact i5|exact i6|exact i7|exact i8|exact i9|exact i10|exact i11|exact i12|exact i13|exact i14|exact i15);(first|exact Nat.le_of_ble_eq_true rfl|rfl);intro g_ S_;simp only [Ptr.add, List.set, splice, List.take, List.drop, List.nil_append, List.append_nil, List.cons_append, List.length_cons, List.length_nil, Nat.zero_add, Nat.add_zero, Nat.reduceAdd, Nat.reduceMul, Nat.mul_one, Int.toNat_zero, Int.toNat_one, Int.reduceToNat] at S_) | ((with_reducible refine ix_of ?_ ?_ ?_);exact of_decide_eq_true rfl;exact of_decide_eq_true rfl) | ((with_reducible first|refine nz_of ?_ ?_|refine nneg_of ?_ ?_);exact of_decide_eq_true rfl) | ((with_reducible refine chk_of ?_ ?_);rfl) | (with_reducible first|apply asI_of|apply asB_of|apply asP_of|apply asSl_of|apply asAggV_of|apply asTupV_of|apply asCons_of|apply asNil_of|apply isNil_n|apply isNil_i|apply nilC_i|apply nilCU_i|apply nilCU_f|apply mthC_i) | ((with_reducible refine And.intro ?_ ?_);rfl) | ((with_reducible apply exAnd);rfl))
    exact fin d3 rb w' q3 mkb ys _ hy hys (St.pickR' (A := [(d3, HO.cells [.int .u64 (k1 : Int), .int .i64 l1, .bool true] false), (rb, .cells (strCells ys) mkb), (cc, .cells (consC w' o q1 q2 q3 q4) false), (d2, HO.cells [.int .u64 (k1 : Int), .int .i64 l1, .bool true] false), (gb, .cells (flatC pm (base : Int)) false), (pm, .cells (memC bm) false), (bm, .cells (strCells bs) mk), (cb, .cells (pcells [⟨(k : Int), (n : Int), false⟩, ⟨(k1 : Int), l1, true⟩] ++ rest) mk'), (gx, .cells [.iface 4 (.ptr (some ⟨gb, 0⟩))] false), (tx, .cells [.ptr (some ⟨tb, 0⟩)] false), (tb, .cells [.ptr (some ⟨r0, 0⟩), .ptr (some ⟨cc, 0⟩)] false)]) S_ [1, 0, 4, 5, 6, 2, 7, 8, 9, 10] (by decide) rfl)

end
end Go.Back

/- A guest's console takes what it is offered. -/
namespace Go.Back
open Go.Lift Go.Fn Go.Mem Go.Frames Go.Cons

theorem perm_mid (A B wl : List (Nat × HO)) : (A ++ (B ++ wl)).Perm ((A ++ wl) ++ B) := by
  rw [List.append_assoc]
  exact List.Perm.append_left A List.perm_append_comm

structure TU (U U' : Ifc) : Prop where
  call : ∀ a s p q κ h, backend_Tty_Kick_c1 U' a s p q (fun r h => κ (.int .i64 r) h) h → U.callV (.fn 258 [.ptr (some p), .ptr (some q)]) [.agg [.int .i64 a, .sl s]] κ h

/-- Where words are the same, bytes are. -/
theorem take_eq {bs bs' : List UInt8} {base : Nat} {m m' : Nat → Int} (M : MemIs bs base m) (M' : MemIs bs' base m') (hb : base + 16 ≤ 40) {a n : Nat} (ha : a + n ≤ 4096) (he : ∀ j, a / 8 ≤ j → 8 * j < a + n → m' j = m j) : (bs'.drop (256 * base + a)).take n = (bs.drop (256 * base + a)).take n := by
  have hl := M.len
  have hl' := M'.len
  refine List.ext_getElem? (fun i => ?_)
  by_cases hi : i < n
  · have h1 := byteAt_word M M' hb (a := a + i) (by omega) (he ((a + i) / 8) (by omega) (by omega))
    rw [byteAt_eq, byteAt_eq, List.headD_eq_head?_getD, List.headD_eq_head?_getD, List.head?_drop, List.head?_drop] at h1
    rw [List.getElem?_take_of_lt hi, List.getElem?_take_of_lt hi, List.getElem?_drop, List.getElem?_drop, Nat.add_assoc, List.getElem?_eq_getElem (by omega), List.getElem?_eq_getElem (by omega)]
    rw [List.getElem?_eq_getElem (by omega), List.getElem?_eq_getElem (by omega)] at h1
    congr 1
    exact UInt8.toNat_inj.1 (Int.ofNat_inj.1 (by simpa using h1))
  · rw [List.getElem?_eq_none (by rw [List.length_take]; omega), List.getElem?_eq_none (by rw [List.length_take]; omega)]

section
variable {U U' U'' : Ifc} {x : Nat → Int} {h0 h : Heap} {W : Nat → Prop}

theorem kick_tty (hu : GU U U') (hu' : GU U' U'') (tu : TU U U') (w : Wid U' h0 x) (hW : ¬ W (U'.glob 1)) (hk8 : knownB x 8 = true) {gb pm bm tb cc r0 base k n k1 : Nat} {bs : List UInt8} {mk : Bool} {m : Nat → Int} {l1 q1 q2 q3 q4 : Int} {wt : Sl} {came : List UInt8} {wl : List (Nat × HO)} (M : MemIs bs base m) (hb : base + 16 ≤ 40) (hn : 1 ≤ n) (hk : 512 ≤ k ∧ k + n ≤ 4096) (hr : 1 ≤ l1 ∧ l1 ≤ 1000) (hk1 : 512 ≤ k1 ∧ k1 + 1000 ≤ 4096) (hcm : came.length ≤ 4096) (hwl : WL wt came wl)
    (D : Desc m [⟨(k : Int), (n : Int), false⟩, ⟨(k1 : Int), l1, true⟩] 2) (h32 : m 32 = 1) (h33 : m 33 = 0)
    (S : St h0 W ([(tb, .cells [.ptr (some ⟨r0, 0⟩), .ptr (some ⟨cc, 0⟩)] false), (r0, .cells (ringC ((0 : Nat) : Int) ((0 : Nat) : Int) false) false), (cc, .cells (consC wt ⟨none, 0, 0⟩ q1 q2 q3 q4) false), (gb, .cells (flatC pm (base : Int)) false), (pm, .cells (memC bm) false), (bm, .cells (strCells bs) mk)] ++ wl) h) {Q : Int → Int → Heap → Prop}
    (hq : ∀ o w' q3 q4 ol bs' m' mk2 (kk : Nat) h', St h0 W ([(tb, .cells [.ptr (some ⟨r0, 0⟩), .ptr (some ⟨cc, 0⟩)] false), (r0, .cells (ringC ((1 : Nat) : Int) ((1 : Nat) : Int) false) false), (cc, .cells (consC w' o q1 q2 q3 q4) false), (gb, .cells (flatC pm (base : Int)) false), (pm, .cells (memC bm) false), (bm, .cells (strCells bs') mk2)] ++ ol) h' → WL o ((bs.drop (256 * base + k)).take n) ol → MemIs bs' base m' → (kk : Int) = min l1 (came.length : Int) → m' 41 = 1 → m' 43 = (kk : Int) → (bs'.drop (256 * base + k1)).take kk = came.take kk → Q 1 0 h') :
    backend_Tty_Kick U (some ⟨tb, 0⟩) (.iface 4 (.ptr (some ⟨gb, 0⟩))) Q h := by
  have hl := M.len
  have S_ := S
  simp only [List.cons_append, List.nil_append] at S_
  unfold backend_Tty_Kick
  ((with_reducible apply St.al); assumption; intro tx g_ S_)
  repeat (first | ((with_reducible first|apply St.rI|apply St.rB|apply St.rP|apply St.rSl|apply St.rV|apply St.rM|apply St.rS|apply St.rN|apply St.ckA);assumption;(first|exact i0|exact i1|exact i2|exact i3|exact i4|exact i5|exact i6|exact i7|exact i8|exact i9|exact i10|exact i11|exact i12|exact i13|exact i14|exact i15);(first|rfl|exact Nat.le_of_ble_eq_true rfl)) | with_reducible refine der_of ?_ | ((with_reducible refine br_t ?_ ?_);rfl) | ((with_reducible refine br_f ?_ ?_);rfl) | ((with_reducible refine br_t ?_ ?_);assumption) | ((with_reducible refine br_f ?_ ?_);assumption) | ((with_reducible first|apply St.wrL|apply St.wr);assumption;(first|exact i0|exact i1|exact i2|exact i3|exact i4|exact i5|exact i6|exact i7|exact i8|exact i9|exact i10|exact i11|exact i12|exact i13|exact i14|exact i15);(first|exact Nat.le_of_ble_eq_true rfl|rfl);intro g_ S_;simp only [Ptr.add, List.set, splice, List.take, List.drop, List.nil_append, List.append_nil, List.cons_append, List.length_cons, List.length_nil, Nat.zero_add, Nat.add_zero, Nat.reduceAdd, Nat.reduceMul, Nat.mul_one, Int.toNat_zero, Int.toNat_one, Int.reduceToNat] at S_) | ((with_reducible refine ix_of ?_ ?_ ?_);exact of_decide_eq_true rfl;exact of_decide_eq_true rfl) | ((with_reducible first|refine nz_of ?_ ?_|refine nneg_of ?_ ?_);exact of_decide_eq_true rfl) | ((with_reducible refine chk_of ?_ ?_);rfl) | (with_reducible first|apply asI_of|apply asB_of|apply asP_of|apply asSl_of|apply asAggV_of|apply asTupV_of|apply asCons_of|apply asNil_of|apply isNil_n|apply isNil_i|apply nilC_i|apply nilCU_i|apply nilCU_f|apply mthC_i) | ((with_reducible refine And.intro ?_ ?_);rfl) | ((with_reducible apply exAnd);rfl))
  ((with_reducible apply St.al); assumption; intro gx g_ S_)
  repeat (first | ((with_reducible first|apply St.rI|apply St.rB|apply St.rP|apply St.rSl|apply St.rV|apply St.rM|apply St.rS|apply St.rN|apply St.ckA);assumption;(first|exact i0|exact i1|exact i2|exact i3|exact i4|exact i5|exact i6|exact i7|exact i8|exact i9|exact i10|exact i11|exact i12|exact i13|exact i14|exact i15);(first|rfl|exact Nat.le_of_ble_eq_true rfl)) | with_reducible refine der_of ?_ | ((with_reducible refine br_t ?_ ?_);rfl) | ((with_reducible refine br_f ?_ ?_);rfl) | ((with_reducible refine br_t ?_ ?_);assumption) | ((with_reducible refine br_f ?_ ?_);assumption) | ((with_reducible first|apply St.wrL|apply St.wr);assumption;(first|exact i0|exact i1|exact i2|exact i3|exact i4|exact i5|exact i6|exact i7|exact i8|exact i9|exact i10|exact i11|exact i12|exact i13|exact i14|exact i15);(first|exact Nat.le_of_ble_eq_true rfl|rfl);intro g_ S_;simp only [Ptr.add, List.set, splice, List.take, List.drop, List.nil_append, List.append_nil, List.cons_append, List.length_cons, List.length_nil, Nat.zero_add, Nat.add_zero, Nat.reduceAdd, Nat.reduceMul, Nat.mul_one, Int.toNat_zero, Int.toNat_one, Int.reduceToNat] at S_) | ((with_reducible refine ix_of ?_ ?_ ?_);exact of_decide_eq_true rfl;exact of_decide_eq_true rfl) | ((with_reducible first|refine nz_of ?_ ?_|refine nneg_of ?_ ?_);exact of_decide_eq_true rfl) | ((with_reducible refine chk_of ?_ ?_);rfl) | (with_reducible first|apply asI_of|apply asB_of|apply asP_of|apply asSl_of|apply asAggV_of|apply asTupV_of|apply asCons_of|apply asNil_of|apply isNil_n|apply isNil_i|apply nilC_i|apply nilCU_i|apply nilCU_f|apply mthC_i) | ((with_reducible refine And.intro ?_ ?_);rfl) | ((with_reducible apply exAnd);rfl))
  unfold backend_each backend_each.j3
  intro I HI
  refine HI _ _ _ _ _ ?_
  unfold backend_each.b3
  have SP : St h0 W ([(r0, .cells (ringC ((0 : Nat) : Int) ((0 : Nat) : Int) false) false), (gb, .cells (flatC pm (base : Int)) false), (pm, .cells (memC bm) false), (bm, .cells (strCells bs) mk)] ++ ([(gx, .cells [.iface 4 (.ptr (some ⟨gb, 0⟩))] false), (tx, .cells [.ptr (some ⟨tb, 0⟩)] false), (tb, .cells [.ptr (some ⟨r0, 0⟩), .ptr (some ⟨cc, 0⟩)] false), (cc, .cells (consC wt ⟨none, 0, 0⟩ q1 q2 q3 q4) false)] ++ wl)) _ := St.pickR' (A := [(gx, .cells [.iface 4 (.ptr (some ⟨gb, 0⟩))] false), (tx, .cells [.ptr (some ⟨tb, 0⟩)] false), (tb, .cells [.ptr (some ⟨r0, 0⟩), .ptr (some ⟨cc, 0⟩)] false), (r0, .cells (ringC ((0 : Nat) : Int) ((0 : Nat) : Int) false) false), (cc, .cells (consC wt ⟨none, 0, 0⟩ q1 q2 q3 q4) false), (gb, .cells (flatC pm (base : Int)) false), (pm, .cells (memC bm) false), (bm, .cells (strCells bs) mk)]) (A' := [(r0, .cells (ringC ((0 : Nat) : Int) ((0 : Nat) : Int) false) false), (gb, .cells (flatC pm (base : Int)) false), (pm, .cells (memC bm) false), (bm, .cells (strCells bs) mk), (gx, .cells [.iface 4 (.ptr (some ⟨gb, 0⟩))] false), (tx, .cells [.ptr (some ⟨tb, 0⟩)] false), (tb, .cells [.ptr (some ⟨r0, 0⟩), .ptr (some ⟨cc, 0⟩)] false), (cc, .cells (consC wt ⟨none, 0, 0⟩ q1 q2 q3 q4) false)]) S_ [3, 5, 6, 7, 0, 1, 2, 4] (by decide) rfl
  clear S_
  have P : PsOk [⟨(k : Int), (n : Int), false⟩, ⟨(k1 : Int), l1, true⟩] := ⟨by show 1 ≤ 2 ∧ 2 ≤ 8; decide, fun p hp => by
    simp only [List.mem_cons, List.not_mem_nil, or_false] at hp
    rcases hp with rfl | rfl
    · exact ⟨by show (0 : Int) ≤ (k : Int) ∧ (k : Int) ≤ 1000000; omega, by show (1 : Int) ≤ (n : Int) ∧ (n : Int) ≤ 4096; omega⟩
    · exact ⟨by show (0 : Int) ≤ (k1 : Int) ∧ (k1 : Int) ≤ 1000000; omega, by show (1 : Int) ≤ l1 ∧ l1 ≤ 4096; omega⟩, fun i p q hp hq hw => by
    match i with
    | 0 => simp at hq; subst hq; rfl
    | i + 1 => simp at hq⟩
  refine next_gen (t := 0) hu (w.keeps SP.keeps hW) (SP.notA w.known hW) hk8 M hb (by decide) h32 (by decide) h33 P D SP.head (fun cb c rest mk' g1 S1 => ?_)
  have S2 := St.frame S1 SP
  have S_ := S2
  simp only [List.cons_append, List.nil_append] at S_
  clear S1 S2 SP
  ((with_reducible apply St.al); assumption; intro b5 g_ S_)
  repeat (first | ((with_reducible first|apply St.rI|apply St.rB|apply St.rP|apply St.rSl|apply St.rV|apply St.rM|apply St.rS|apply St.rN|apply St.ckA);assumption;(first|exact i0|exact i1|exact i2|exact i3|exact i4|exact i5|exact i6|exact i7|exact i8|exact i9|exact i10|exact i11|exact i12|exact i13|exact i14|exact i15);(first|rfl|exact Nat.le_of_ble_eq_true rfl)) | with_reducible refine der_of ?_ | ((with_reducible refine br_t ?_ ?_);rfl) | ((with_reducible refine br_f ?_ ?_);rfl) | ((with_reducible refine br_t ?_ ?_);assumption) | ((with_reducible refine br_f ?_ ?_);assumption) | ((with_reducible first|apply St.wrL|apply St.wr);assumption;(first|exact i0|exact i1|exact i2|exact i3|exact i4|exact i5|exact i6|exact i7|exact i8|exact i9|exact i10|exact i11|exact i12|exact i13|exact i14|exact i15);(first|exact Nat.le_of_ble_eq_true rfl|rfl);intro g_ S_;simp only [Ptr.add, List.set, splice, List.take, List.drop, List.nil_append, List.append_nil, List.cons_append, List.length_cons, List.length_nil, Nat.zero_add, Nat.add_zero, Nat.reduceAdd, Nat.reduceMul, Nat.mul_one, Int.toNat_zero, Int.toNat_one, Int.reduceToNat] at S_) | ((with_reducible refine ix_of ?_ ?_ ?_);exact of_decide_eq_true rfl;exact of_decide_eq_true rfl) | ((with_reducible first|refine nz_of ?_ ?_|refine nneg_of ?_ ?_);exact of_decide_eq_true rfl) | ((with_reducible refine chk_of ?_ ?_);rfl) | (with_reducible first|apply asI_of|apply asB_of|apply asP_of|apply asSl_of|apply asAggV_of|apply asTupV_of|apply asCons_of|apply asNil_of|apply isNil_n|apply isNil_i|apply nilC_i|apply nilCU_i|apply nilCU_f|apply mthC_i) | ((with_reducible refine And.intro ?_ ?_);rfl) | ((with_reducible apply exAnd);rfl))
  ((with_reducible apply St.al); assumption; intro b8 g_ S_)
  repeat (first | ((with_reducible first|apply St.rI|apply St.rB|apply St.rP|apply St.rSl|apply St.rV|apply St.rM|apply St.rS|apply St.rN|apply St.ckA);assumption;(first|exact i0|exact i1|exact i2|exact i3|exact i4|exact i5|exact i6|exact i7|exact i8|exact i9|exact i10|exact i11|exact i12|exact i13|exact i14|exact i15);(first|rfl|exact Nat.le_of_ble_eq_true rfl)) | with_reducible refine der_of ?_ | ((with_reducible refine br_t ?_ ?_);rfl) | ((with_reducible refine br_f ?_ ?_);rfl) | ((with_reducible refine br_t ?_ ?_);assumption) | ((with_reducible refine br_f ?_ ?_);assumption) | ((with_reducible first|apply St.wrL|apply St.wr);assumption;(first|exact i0|exact i1|exact i2|exact i3|exact i4|exact i5|exact i6|exact i7|exact i8|exact i9|exact i10|exact i11|exact i12|exact i13|exact i14|exact i15);(first|exact Nat.le_of_ble_eq_true rfl|rfl);intro g_ S_;simp only [Ptr.add, List.set, splice, List.take, List.drop, List.nil_append, List.append_nil, List.cons_append, List.length_cons, List.length_nil, Nat.zero_add, Nat.add_zero, Nat.reduceAdd, Nat.reduceMul, Nat.mul_one, Int.toNat_zero, Int.toNat_one, Int.reduceToNat] at S_) | ((with_reducible refine ix_of ?_ ?_ ?_);exact of_decide_eq_true rfl;exact of_decide_eq_true rfl) | ((with_reducible first|refine nz_of ?_ ?_|refine nneg_of ?_ ?_);exact of_decide_eq_true rfl) | ((with_reducible refine chk_of ?_ ?_);rfl) | (with_reducible first|apply asI_of|apply asB_of|apply asP_of|apply asSl_of|apply asAggV_of|apply asTupV_of|apply asCons_of|apply asNil_of|apply isNil_n|apply isNil_i|apply nilC_i|apply nilCU_i|apply nilCU_f|apply mthC_i) | ((with_reducible refine And.intro ?_ ?_);rfl) | ((with_reducible apply exAnd);rfl))
  refine tu.call _ _ _ _ _ _ ?_
  have S3 : St h0 W ([(cb, .cells (pcells [⟨(k : Int), (n : Int), false⟩, ⟨(k1 : Int), l1, true⟩] ++ rest) mk'), (gx, .cells [.iface 4 (.ptr (some ⟨gb, 0⟩))] false), (tx, .cells [.ptr (some ⟨tb, 0⟩)] false), (tb, .cells [.ptr (some ⟨r0, 0⟩), .ptr (some ⟨cc, 0⟩)] false), (cc, .cells (consC wt ⟨none, 0, 0⟩ q1 q2 q3 q4) false), (gb, .cells (flatC pm (base : Int)) false), (pm, .cells (memC bm) false), (bm, .cells (strCells bs) mk)] ++ ([(b8, .cells [.int .i64 0, .sl ⟨some ⟨cb, 0⟩, 2, c⟩, .int .i64 0] false), (b5, .cells [.int .i64 0, .sl ⟨some ⟨cb, 0⟩, 2, c⟩] false), (r0, .cells (ringC ((1 : Nat) : Int) ((0 : Nat) : Int) false) false)] ++ wl)) _ := St.pickR' (A := [(b8, .cells [.int .i64 0, .sl ⟨some ⟨cb, 0⟩, 2, c⟩, .int .i64 0] false), (b5, .cells [.int .i64 0, .sl ⟨some ⟨cb, 0⟩, 2, c⟩] false), (cb, .cells (pcells [⟨(k : Int), (n : Int), false⟩, ⟨(k1 : Int), l1, true⟩] ++ rest) mk'), (r0, .cells (ringC ((1 : Nat) : Int) ((0 : Nat) : Int) false) false), (gb, .cells (flatC pm (base : Int)) false), (pm, .cells (memC bm) false), (bm, .cells (strCells bs) mk), (gx, .cells [.iface 4 (.ptr (some ⟨gb, 0⟩))] false), (tx, .cells [.ptr (some ⟨tb, 0⟩)] false), (tb, .cells [.ptr (some ⟨r0, 0⟩), .ptr (some ⟨cc, 0⟩)] false), (cc, .cells (consC wt ⟨none, 0, 0⟩ q1 q2 q3 q4) false)]) (A' := [(cb, .cells (pcells [⟨(k : Int), (n : Int), false⟩, ⟨(k1 : Int), l1, true⟩] ++ rest) mk'), (gx, .cells [.iface 4 (.ptr (some ⟨gb, 0⟩))] false), (tx, .cells [.ptr (some ⟨tb, 0⟩)] false), (tb, .cells [.ptr (some ⟨r0, 0⟩), .ptr (some ⟨cc, 0⟩)] false), (cc, .cells (consC wt ⟨none, 0, 0⟩ q1 q2 q3 q4) false), (gb, .cells (flatC pm (base : Int)) false), (pm, .cells (memC bm) false), (bm, .cells (strCells bs) mk), (b8, .cells [.int .i64 0, .sl ⟨some ⟨cb, 0⟩, 2, c⟩, .int .i64 0] false), (b5, .cells [.int .i64 0, .sl ⟨some ⟨cb, 0⟩, 2, c⟩] false), (r0, .cells (ringC ((1 : Nat) : Int) ((0 : Nat) : Int) false) false)]) S_ [2, 7, 8, 9, 10, 4, 5, 6, 0, 1, 3] (by decide) rfl
  have SA := St.perm' S3 (perm_mid _ _ _)
  clear S_ S3
  refine c1_of hu' M hb (by omega) hr (by omega) hcm hwl SA.head (fun o w' q3 q4 ol bs' m' mk2 kk h' S' hol M' hkk hm' hby => ?_)
  have S4 := St.perm' (St.frame S' SA) (perm_mid _ _ _).symm
  clear S' SA
  have S_ := S4
  simp only [List.cons_append, List.nil_append] at S_
  repeat (first | ((with_reducible first|apply St.rI|apply St.rB|apply St.rP|apply St.rSl|apply St.rV|apply St.rM|apply St.rS|apply St.rN|apply St.ckA);assumption;(first|exact i0|exact i1|exact i2|exact i3|exact i4|exact i5|exact i6|exact i7|exact i8|exact i9|exact i10|exact i11|exact i12|exact i13|exact i14|exact i15);(first|rfl|exact Nat.le_of_ble_eq_true rfl)) | with_reducible refine der_of ?_ | ((with_reducible refine br_t ?_ ?_);rfl) | ((with_reducible refine br_f ?_ ?_);rfl) | ((with_reducible refine br_t ?_ ?_);assumption) | ((with_reducible refine br_f ?_ ?_);assumption) | ((with_reducible first|apply St.wrL|apply St.wr);assumption;(first|exact i0|exact i1|exact i2|exact i3|exact i4|exact i5|exact i6|exact i7|exact i8|exact i9|exact i10|exact i11|exact i12|exact i13|exact i14|exact i15);(first|exact Nat.le_of_ble_eq_true rfl|rfl);intro g_ S_;simp only [Ptr.add, List.set, splice, List.take, List.drop, List.nil_append, List.append_nil, List.cons_append, List.length_cons, List.length_nil, Nat.zero_add, Nat.add_zero, Nat.reduceAdd, Nat.reduceMul, Nat.mul_one, Int.toNat_zero, Int.toNat_one, Int.reduceToNat] at S_) | ((with_reducible refine ix_of ?_ ?_ ?_);exact of_decide_eq_true rfl;exact of_decide_eq_true rfl) | ((with_reducible first|refine nz_of ?_ ?_|refine nneg_of ?_ ?_);exact of_decide_eq_true rfl) | ((with_reducible refine chk_of ?_ ?_);rfl) | (with_reducible first|apply asI_of|apply asB_of|apply asP_of|apply asSl_of|apply asAggV_of|apply asTupV_of|apply asCons_of|apply asNil_of|apply isNil_n|apply isNil_i|apply nilC_i|apply nilCU_i|apply nilCU_f|apply mthC_i) | ((with_reducible refine And.intro ?_ ?_);rfl) | ((with_reducible apply exAnd);rfl))
  unfold backend_each.j8
  repeat (first | ((with_reducible first|apply St.rI|apply St.rB|apply St.rP|apply St.rSl|apply St.rV|apply St.rM|apply St.rS|apply St.rN|apply St.ckA);assumption;(first|exact i0|exact i1|exact i2|exact i3|exact i4|exact i5|exact i6|exact i7|exact i8|exact i9|exact i10|exact i11|exact i12|exact i13|exact i14|exact i15);(first|rfl|exact Nat.le_of_ble_eq_true rfl)) | with_reducible refine der_of ?_ | ((with_reducible refine br_t ?_ ?_);rfl) | ((with_reducible refine br_f ?_ ?_);rfl) | ((with_reducible refine br_t ?_ ?_);assumption) | ((with_reducible refine br_f ?_ ?_);assumption) | ((with_reducible first|apply St.wrL|apply St.wr);assumption;(first|exact i0|exact i1|exact i2|exact i3|exact i4|exact i5|exact i6|exact i7|exact i8|exact i9|exact i10|exact i11|exact i12|exact i13|exact i14|exact i15);(first|exact Nat.le_of_ble_eq_true rfl|rfl);intro g_ S_;simp only [Ptr.add, List.set, splice, List.take, List.drop, List.nil_append, List.append_nil, List.cons_append, List.length_cons, List.length_nil, Nat.zero_add, Nat.add_zero, Nat.reduceAdd, Nat.reduceMul, Nat.mul_one, Int.toNat_zero, Int.toNat_one, Int.reduceToNat] at S_) | ((with_reducible refine ix_of ?_ ?_ ?_);exact of_decide_eq_true rfl;exact of_decide_eq_true rfl) | ((with_reducible first|refine nz_of ?_ ?_|refine nneg_of ?_ ?_);exact of_decide_eq_true rfl) | ((with_reducible refine chk_of ?_ ?_);rfl) | (with_reducible first|apply asI_of|apply asB_of|apply asP_of|apply asSl_of|apply asAggV_of|apply asTupV_of|apply asCons_of|apply asNil_of|apply isNil_n|apply isNil_i|apply nilC_i|apply nilCU_i|apply nilCU_f|apply mthC_i) | ((with_reducible refine And.intro ?_ ?_);rfl) | ((with_reducible apply exAnd);rfl))
  have SU : St h0 W ([(r0, .cells (ringC ((1 : Nat) : Int) ((0 : Nat) : Int) false) false), (gb, .cells (flatC pm (base : Int)) false), (pm, .cells (memC bm) false), (bm, .cells (strCells bs') mk2)] ++ ([(tb, .cells [.ptr (some ⟨r0, 0⟩), .ptr (some ⟨cc, 0⟩)] false), (cc, .cells (consC w' o q1 q2 q3 q4) false)] ++ ol)) _ := St.pickR' (A := [(cb, .cells (pcells [⟨(k : Int), (n : Int), false⟩, ⟨(k1 : Int), l1, true⟩] ++ rest) mk'), (gx, .cells [.iface 4 (.ptr (some ⟨gb, 0⟩))] false), (tx, .cells [.ptr (some ⟨tb, 0⟩)] false), (tb, .cells [.ptr (some ⟨r0, 0⟩), .ptr (some ⟨cc, 0⟩)] false), (cc, .cells (consC w' o q1 q2 q3 q4) false), (gb, .cells (flatC pm (base : Int)) false), (pm, .cells (memC bm) false), (bm, .cells (strCells bs') mk2), (b8, .cells [.int .i64 0, .sl ⟨some ⟨cb, 0⟩, 2, c⟩, .int .i64 (kk : Int)] false), (b5, .cells [.int .i64 0, .sl ⟨some ⟨cb, 0⟩, 2, c⟩] false), (r0, .cells (ringC ((1 : Nat) : Int) ((0 : Nat) : Int) false) false)]) (A' := [(r0, .cells (ringC ((1 : Nat) : Int) ((0 : Nat) : Int) false) false), (gb, .cells (flatC pm (base : Int)) false), (pm, .cells (memC bm) false), (bm, .cells (strCells bs') mk2), (tb, .cells [.ptr (some ⟨r0, 0⟩), .ptr (some ⟨cc, 0⟩)] false), (cc, .cells (consC w' o q1 q2 q3 q4) false)]) S_ [10, 5, 6, 7, 3, 4] (by decide) rfl
  clear S_ S4
  refine push (t := 1) (gv := 0) hu (w.keeps SU.keeps hW) (SU.notA w.known hW) hk8 M' hb (by decide) (by decide) (by omega) SU.head (fun bs3 mk3 g4 M3 S5 => ?_)
  have S6 := St.frame S5 SU
  have S_ := S6
  simp only [List.cons_append, List.nil_append] at S_
  repeat (first | ((with_reducible first|apply St.rI|apply St.rB|apply St.rP|apply St.rSl|apply St.rV|apply St.rM|apply St.rS|apply St.rN|apply St.ckA);assumption;(first|exact i0|exact i1|exact i2|exact i3|exact i4|exact i5|exact i6|exact i7|exact i8|exact i9|exact i10|exact i11|exact i12|exact i13|exact i14|exact i15);(first|rfl|exact Nat.le_of_ble_eq_true rfl)) | with_reducible refine der_of ?_ | ((with_reducible refine br_t ?_ ?_);rfl) | ((with_reducible refine br_f ?_ ?_);rfl) | ((with_reducible refine br_t ?_ ?_);assumption) | ((with_reducible refine br_f ?_ ?_);assumption) | ((with_reducible first|apply St.wrL|apply St.wr);assumption;(first|exact i0|exact i1|exact i2|exact i3|exact i4|exact i5|exact i6|exact i7|exact i8|exact i9|exact i10|exact i11|exact i12|exact i13|exact i14|exact i15);(first|exact Nat.le_of_ble_eq_true rfl|rfl);intro g_ S_;simp only [Ptr.add, List.set, splice, List.take, List.drop, List.nil_append, List.append_nil, List.cons_append, List.length_cons, List.length_nil, Nat.zero_add, Nat.add_zero, Nat.reduceAdd, Nat.reduceMul, Nat.mul_one, Int.toNat_zero, Int.toNat_one, Int.reduceToNat] at S_) | ((with_reducible refine ix_of ?_ ?_ ?_);exact of_decide_eq_true rfl;exact of_decide_eq_true rfl) | ((with_reducible first|refine nz_of ?_ ?_|refine nneg_of ?_ ?_);exact of_decide_eq_true rfl) | ((with_reducible refine chk_of ?_ ?_);rfl) | (with_reducible first|apply asI_of|apply asB_of|apply asP_of|apply asSl_of|apply asAggV_of|apply asTupV_of|apply asCons_of|apply asNil_of|apply isNil_n|apply isNil_i|apply nilC_i|apply nilCU_i|apply nilCU_f|apply mthC_i) | ((with_reducible refine And.intro ?_ ?_);rfl) | ((with_reducible apply exAnd);rfl))
  unfold backend_each.j2
  simp only [w64_0, w64_1, w64_2, w64_3, w64_4, w64_5, w64_6, w64_7, w64_8, w64_9, w64_10, w64_11, w64_12, w64_13, w64_14, w64_15, w64_16, w64_17, w64_18, w64_19]
  refine HI _ _ _ _ _ ?_
  unfold backend_each.b3
  refine next0 (t := 1) hu (w.keeps S6.keeps hW) (S6.notA w.known hW) hk8 M3 hb (by decide) (by unfold upd; rw [if_neg (by decide), if_neg (by decide), if_neg (by decide)]; exact (hm' 32 (by decide) (by omega)).trans h32) S6.head (fun g9 S9 => ?_)
  have S10 := St.frame S9 S6
  clear S_
  have S_ := S10
  simp only [List.cons_append, List.nil_append] at S_
  ((with_reducible apply St.al); assumption; intro b9 g_ S_)
  repeat (first | ((with_reducible first|apply St.rI|apply St.rB|apply St.rP|apply St.rSl|apply St.rV|apply St.rM|apply St.rS|apply St.rN|apply St.ckA);assumption;(first|exact i0|exact i1|exact i2|exact i3|exact i4|exact i5|exact i6|exact i7|exact i8|exact i9|exact i10|exact i11|exact i12|exact i13|exact i14|exact i15);(first|rfl|exact Nat.le_of_ble_eq_true rfl)) | with_reducible refine der_of ?_ | ((with_reducible refine br_t ?_ ?_);rfl) | ((with_reducible refine br_f ?_ ?_);rfl) | ((with_reducible refine br_t ?_ ?_);assumption) | ((with_reducible refine br_f ?_ ?_);assumption) | ((with_reducible first|apply St.wrL|apply St.wr);assumption;(first|exact i0|exact i1|exact i2|exact i3|exact i4|exact i5|exact i6|exact i7|exact i8|exact i9|exact i10|exact i11|exact i12|exact i13|exact i14|exact i15);(first|exact Nat.le_of_ble_eq_true rfl|rfl);intro g_ S_;simp only [Ptr.add, List.set, splice, List.take, List.drop, List.nil_append, List.append_nil, List.cons_append, List.length_cons, List.length_nil, Nat.zero_add, Nat.add_zero, Nat.reduceAdd, Nat.reduceMul, Nat.mul_one, Int.toNat_zero, Int.toNat_one, Int.reduceToNat] at S_) | ((with_reducible refine ix_of ?_ ?_ ?_);exact of_decide_eq_true rfl;exact of_decide_eq_true rfl) | ((with_reducible first|refine nz_of ?_ ?_|refine nneg_of ?_ ?_);exact of_decide_eq_true rfl) | ((with_reducible refine chk_of ?_ ?_);rfl) | (with_reducible first|apply asI_of|apply asB_of|apply asP_of|apply asSl_of|apply asAggV_of|apply asTupV_of|apply asCons_of|apply asNil_of|apply isNil_n|apply isNil_i|apply nilC_i|apply nilCU_i|apply nilCU_f|apply mthC_i) | ((with_reducible refine And.intro ?_ ?_);rfl) | ((with_reducible apply exAnd);rfl))
  unfold backend_each.j5
  refine hq o w' q3 q4 ol bs3 _ mk3 kk _ (St.pickR' (A := [_, (r0, .cells (ringC ((1 : Nat) : Int) ((1 : Nat) : Int) false) false), (gb, .cells (flatC pm (base : Int)) false), (pm, .cells (memC bm) false), (bm, .cells (strCells bs3) mk3), (tb, .cells [.ptr (some ⟨r0, 0⟩), .ptr (some ⟨cc, 0⟩)] false), (cc, .cells (consC w' o q1 q2 q3 q4) false)]) (A' := [(tb, .cells [.ptr (some ⟨r0, 0⟩), .ptr (some ⟨cc, 0⟩)] false), (r0, .cells (ringC ((1 : Nat) : Int) ((1 : Nat) : Int) false) false), (cc, .cells (consC w' o q1 q2 q3 q4) false), (gb, .cells (flatC pm (base : Int)) false), (pm, .cells (memC bm) false), (bm, .cells (strCells bs3) mk3)]) S_ [5, 1, 6, 2, 3, 4] (by decide) rfl) hol M3 hkk (by unfold upd; rw [if_pos rfl]; rfl) (by unfold upd; rw [if_neg (by decide), if_pos rfl]) ?_
  rw [take_eq M' M3 hb (a := k1) (n := kk) (by omega) (fun j hj1 hj2 => by unfold upd; rw [if_neg (by omega), if_neg (by omega), if_neg (by omega)])]
  exact hby

end
end Go.Back

/- BackendTtys: the plain law. -/
namespace Go.Back
open Go.Lift Go.Fn Go.Mem Go.Frames Go.Cons

theorem and255 (m : Int) : 0 ≤ ibits .and .i64 m 255 ∧ ibits .and .i64 m 255 ≤ 255 := by
  have hle : (BitVec.ofInt 64 m &&& BitVec.ofInt 64 255).toNat ≤ 255 := by
    rw [BitVec.toNat_and]; exact Nat.and_le_right
  have : ibits .and .i64 m 255 = IntKind.i64.wrap ((BitVec.ofInt 64 m &&& BitVec.ofInt 64 255).toNat : Int) := rfl
  rw [this, wrap64]; omega

theorem held_take {h : Heap} {s : Sl} {n c c' : Nat} {xs : List UInt8} (H : Held h s 1 (strCells xs)) (hn : n ≤ xs.length) : Held h ⟨slp s.p (0 * 1) 0 c', n, c⟩ 1 (strCells (xs.take n)) := by
  have H1 := held_slp (n := c') (c := c) H
  refine ⟨by rw [strCells_length, List.length_take]; show min n xs.length = n * 1; omega, fun p hp i v hv => ?_, fun hp => ?_⟩
  · refine H1.row p hp i v ?_
    have : strCells (xs.take n) = (strCells xs).take n := by simp [strCells, List.map_take]
    rw [this, List.getElem?_take] at hv
    split at hv
    · exact hv
    · cases hv
  · have h0 := H1.nil hp
    have h1 := H1.len
    rw [strCells_length, Nat.mul_one] at h1
    have h2 : s.len = xs.length := h1.symm
    have h3 : s.len = 0 := h0
    show n = 0
    omega

section
variable {U U' U'' : Ifc} {x : Nat → Int} {h0 h : Heap} {W : Nat → Prop} {L : List (Nat × HO)}

theorem back_two (w : Wid U h0 x) (hk8 : knownB x 8 = true) {g0 pm bm : Nat} {bs : List UInt8} {mk : Bool} {m : Nat → Int} (hw : ¬ W (U.glob 1)) {g p b : Nat} (M : MemIs bs 4 m) (S : St h0 W L h) (hg : L[g]? = some (g0, .cells (flatC pm ((4 : Nat) : Int)) false)) (hp : L[p]? = some (pm, .cells (memC bm) false)) (hm : L[b]? = some (bm, .cells (strCells bs) mk)) (hpb : p ≠ b) (h41 : m 41 = 1) (h43 : 0 ≤ m 43 ∧ m 43 ≤ 1000000) {Q : Int → Int → Heap → Prop} (hq : ∀ h', Keeps none_ h h' → Q 1 (m 43) h') : palisadelaw24_back U (some ⟨g0, 0⟩) Q h := by
  unfold palisadelaw24_back
  refine gload (k := 41) w hw hk8 S hg hp hm hpb M (by decide) (by decide) (by decide) (fun h1 k1 => ?_)
  have S1 := S.keep k1
  refine nz_of (by decide) ?_
  refine gload (k := 43) w hw hk8 S1 hg hp hm hpb M (by decide) (by decide) (by rw [h41]; decide) (fun h2 k2 => ?_)
  rw [h41, show IntKind.i64.wrap (m 43) = m 43 by rw [wrap64] <;> omega]
  exact hq h2 (k1.trans k2)

theorem written_of {cc : Nat} {w o : Sl} {q1 q2 q3 q4 : Int} {xs : List UInt8} {wl R : List (Nat × HO)} (S : St h0 W ((cc, .cells (consC w o q1 q2 q3 q4) false) :: (R ++ wl)) h) (hwl : WL o xs wl) (hne : xs ≠ []) (hx : xs.length ≤ 100000) {Q : Sl → Heap → Prop} (hq : ∀ s h', Held h' s 1 (strCells xs) → Keeps none_ h h' → Q s h') : console_Console_Written (some ⟨cc, 0⟩) Q h := by
  have e : ((cc, HO.cells (consC w o q1 q2 q3 q4) false) :: (R ++ wl)) = ((cc, HO.cells (consC w o q1 q2 q3 q4) false) :: R) ++ wl := rfl
  have B := (wl_bs (e ▸ S) hwl).1
  have S_ := S
  unfold consC at S_
  unfold console_Console_Written console_Console_none
  repeat (first | ((with_reducible first|apply St.rI|apply St.rB|apply St.rP|apply St.rSl|apply St.rV|apply St.rM|apply St.rS|apply St.rN|apply St.ckA);assumption;(first|exact i0|exact i1|exact i2|exact i3|exact i4|exact i5|exact i6|exact i7|exact i8|exact i9|exact i10|exact i11|exact i12|exact i13|exact i14|exact i15);(first|rfl|exact Nat.le_of_ble_eq_true rfl)) | with_reducible refine der_of ?_ | ((with_reducible refine br_t ?_ ?_);rfl) | ((with_reducible refine br_f ?_ ?_);rfl) | ((with_reducible refine br_t ?_ ?_);assumption) | ((with_reducible refine br_f ?_ ?_);assumption) | ((with_reducible first|apply St.wrL|apply St.wr);assumption;(first|exact i0|exact i1|exact i2|exact i3|exact i4|exact i5|exact i6|exact i7|exact i8|exact i9|exact i10|exact i11|exact i12|exact i13|exact i14|exact i15);(first|exact Nat.le_of_ble_eq_true rfl|rfl);intro g_ S_;simp only [Ptr.add, List.set, splice, List.take, List.drop, List.nil_append, List.append_nil, List.cons_append, List.length_cons, List.length_nil, Nat.zero_add, Nat.add_zero, Nat.reduceAdd, Nat.reduceMul, Nat.mul_one, Int.toNat_zero, Int.toNat_one, Int.reduceToNat] at S_) | ((with_reducible refine ix_of ?_ ?_ ?_);exact of_decide_eq_true rfl;exact of_decide_eq_true rfl) | ((with_reducible first|refine nz_of ?_ ?_|refine nneg_of ?_ ?_);exact of_decide_eq_true rfl) | ((with_reducible refine chk_of ?_ ?_);rfl) | (with_reducible first|apply asI_of|apply asB_of|apply asP_of|apply asSl_of|apply asAggV_of|apply asTupV_of|apply asCons_of|apply asNil_of|apply isNil_n|apply isNil_i|apply nilC_i|apply nilCU_i|apply nilCU_f|apply mthC_i) | ((with_reducible refine And.intro ?_ ?_);rfl) | ((with_reducible apply exAnd);rfl))
  have hp : o.p ≠ none := by
    rcases hwl with ⟨h1, _⟩ | ⟨b, c, rest, mk, rfl, _⟩
    · exact absurd h1 hne
    · simp
  exact Mem.sclone_of B.held hp (by omega) (fun s' h1 b O _ _ k1 => hq s' h1 O.held k1)

theorem ttys (hu : GU U U') (hu' : GU U' U'') (tu : TU U U') (w : Wid U h0 x) (hk8 : knownB x 8 = true) (a1 a2 : Sl) (a3 : Int) {xt xc : List UInt8} (Ht : Held h0 a1 1 (strCells xt)) (ht : a1.len ≤ a1.cap) (Hc : Held h0 a2 1 (strCells xc)) (hc : a2.len ≤ a2.cap) {Q : Bool → Heap → Prop} (hQ : ∀ h, Q true h) : palisadelaw24_BackendTtys U a1 a2 a3 Q h0 := by
  have hw0 : ∀ z : Nat, ¬ none_ z := fun _ f => f
  have w' : Wid U' h0 x := by intro i hi; rw [← hu.glob]; exact w i hi
  unfold palisadelaw24_BackendTtys
  refine begin_of (fun wb g0 g1 r0 r1 b0 b1 w0 w1 db dm pm bm fb tm wm mk bt ct bw cw g S ok => ?_)
  have S_ : St h0 none_ [(wb, .cells [.ptr (some ⟨pm, 0⟩), .ptr (some ⟨fb, 0⟩), .ptr (some ⟨db, 0⟩), .ptr (some ⟨g0, 0⟩), .ptr (some ⟨g1, 0⟩), .ptr (some ⟨r0, 0⟩), .ptr (some ⟨r1, 0⟩), .ptr (some ⟨b0, 0⟩), .ptr (some ⟨b1, 0⟩)] false), (r0, .cells (ringC ((0 : Nat) : Int) ((0 : Nat) : Int) false) false), (g0, .cells (flatC pm ((4 : Nat) : Int)) false), (pm, .cells (memC bm) false), (bm, .cells (strCells (List.replicate 10240 0)) mk)] g := St.pick S [3, 6, 4, 14, 15] (by decide) rfl
  clear S
  unfold console_New
  ((with_reducible apply St.al); assumption; intro cc g_ S_)
  refine br_f rfl (br_f rfl ?_)
  repeat (first | ((with_reducible first|apply St.rI|apply St.rB|apply St.rP|apply St.rSl|apply St.rV|apply St.rM|apply St.rS|apply St.rN|apply St.ckA);assumption;(first|exact i0|exact i1|exact i2|exact i3|exact i4|exact i5|exact i6|exact i7|exact i8|exact i9|exact i10|exact i11|exact i12|exact i13|exact i14|exact i15);(first|rfl|exact Nat.le_of_ble_eq_true rfl)) | with_reducible refine der_of ?_ | ((with_reducible refine br_t ?_ ?_);rfl) | ((with_reducible refine br_f ?_ ?_);rfl) | ((with_reducible refine br_t ?_ ?_);assumption) | ((with_reducible refine br_f ?_ ?_);assumption) | ((with_reducible first|apply St.wrL|apply St.wr);assumption;(first|exact i0|exact i1|exact i2|exact i3|exact i4|exact i5|exact i6|exact i7|exact i8|exact i9|exact i10|exact i11|exact i12|exact i13|exact i14|exact i15);(first|exact Nat.le_of_ble_eq_true rfl|rfl);intro g_ S_;simp only [Ptr.add, List.set, splice, List.take, List.drop, List.nil_append, List.append_nil, List.cons_append, List.length_cons, List.length_nil, Nat.zero_add, Nat.add_zero, Nat.reduceAdd, Nat.reduceMul, Nat.mul_one, Int.toNat_zero, Int.toNat_one, Int.reduceToNat] at S_) | ((with_reducible refine ix_of ?_ ?_ ?_);exact of_decide_eq_true rfl;exact of_decide_eq_true rfl) | ((with_reducible first|refine nz_of ?_ ?_|refine nneg_of ?_ ?_);exact of_decide_eq_true rfl) | ((with_reducible refine chk_of ?_ ?_);rfl) | (with_reducible first|apply asI_of|apply asB_of|apply asP_of|apply asSl_of|apply asAggV_of|apply asTupV_of|apply asCons_of|apply asNil_of|apply isNil_n|apply isNil_i|apply nilC_i|apply nilCU_i|apply nilCU_f|apply mthC_i) | ((with_reducible refine And.intro ?_ ?_);rfl) | ((with_reducible apply exAnd);rfl))
  unfold backend_NewTty
  repeat (first | ((with_reducible first|apply St.rI|apply St.rB|apply St.rP|apply St.rSl|apply St.rV|apply St.rM|apply St.rS|apply St.rN|apply St.ckA);assumption;(first|exact i0|exact i1|exact i2|exact i3|exact i4|exact i5|exact i6|exact i7|exact i8|exact i9|exact i10|exact i11|exact i12|exact i13|exact i14|exact i15);(first|rfl|exact Nat.le_of_ble_eq_true rfl)) | with_reducible refine der_of ?_ | ((with_reducible refine br_t ?_ ?_);rfl) | ((with_reducible refine br_f ?_ ?_);rfl) | ((with_reducible refine br_t ?_ ?_);assumption) | ((with_reducible refine br_f ?_ ?_);assumption) | ((with_reducible first|apply St.wrL|apply St.wr);assumption;(first|exact i0|exact i1|exact i2|exact i3|exact i4|exact i5|exact i6|exact i7|exact i8|exact i9|exact i10|exact i11|exact i12|exact i13|exact i14|exact i15);(first|exact Nat.le_of_ble_eq_true rfl|rfl);intro g_ S_;simp only [Ptr.add, List.set, splice, List.take, List.drop, List.nil_append, List.append_nil, List.cons_append, List.length_cons, List.length_nil, Nat.zero_add, Nat.add_zero, Nat.reduceAdd, Nat.reduceMul, Nat.mul_one, Int.toNat_zero, Int.toNat_one, Int.reduceToNat] at S_) | ((with_reducible refine ix_of ?_ ?_ ?_);exact of_decide_eq_true rfl;exact of_decide_eq_true rfl) | ((with_reducible first|refine nz_of ?_ ?_|refine nneg_of ?_ ?_);exact of_decide_eq_true rfl) | ((with_reducible refine chk_of ?_ ?_);rfl) | (with_reducible first|apply asI_of|apply asB_of|apply asP_of|apply asSl_of|apply asAggV_of|apply asTupV_of|apply asCons_of|apply asNil_of|apply isNil_n|apply isNil_i|apply nilC_i|apply nilCU_i|apply nilCU_f|apply mthC_i) | ((with_reducible refine And.intro ?_ ?_);rfl) | ((with_reducible apply exAnd);rfl))
  ((with_reducible apply St.al); assumption; intro tb g_ S_)
  repeat (first | ((with_reducible first|apply St.rI|apply St.rB|apply St.rP|apply St.rSl|apply St.rV|apply St.rM|apply St.rS|apply St.rN|apply St.ckA);assumption;(first|exact i0|exact i1|exact i2|exact i3|exact i4|exact i5|exact i6|exact i7|exact i8|exact i9|exact i10|exact i11|exact i12|exact i13|exact i14|exact i15);(first|rfl|exact Nat.le_of_ble_eq_true rfl)) | with_reducible refine der_of ?_ | ((with_reducible refine br_t ?_ ?_);rfl) | ((with_reducible refine br_f ?_ ?_);rfl) | ((with_reducible refine br_t ?_ ?_);assumption) | ((with_reducible refine br_f ?_ ?_);assumption) | ((with_reducible first|apply St.wrL|apply St.wr);assumption;(first|exact i0|exact i1|exact i2|exact i3|exact i4|exact i5|exact i6|exact i7|exact i8|exact i9|exact i10|exact i11|exact i12|exact i13|exact i14|exact i15);(first|exact Nat.le_of_ble_eq_true rfl|rfl);intro g_ S_;simp only [Ptr.add, List.set, splice, List.take, List.drop, List.nil_append, List.append_nil, List.cons_append, List.length_cons, List.length_nil, Nat.zero_add, Nat.add_zero, Nat.reduceAdd, Nat.reduceMul, Nat.mul_one, Int.toNat_zero, Int.toNat_one, Int.reduceToNat] at S_) | ((with_reducible refine ix_of ?_ ?_ ?_);exact of_decide_eq_true rfl;exact of_decide_eq_true rfl) | ((with_reducible first|refine nz_of ?_ ?_|refine nneg_of ?_ ?_);exact of_decide_eq_true rfl) | ((with_reducible refine chk_of ?_ ?_);rfl) | (with_reducible first|apply asI_of|apply asB_of|apply asP_of|apply asSl_of|apply asAggV_of|apply asTupV_of|apply asCons_of|apply asNil_of|apply isNil_n|apply isNil_i|apply nilC_i|apply nilCU_i|apply nilCU_f|apply mthC_i) | ((with_reducible refine And.intro ?_ ?_);rfl) | ((with_reducible apply exAnd);rfl))
  obtain ⟨p0, p255⟩ := and255 a3
  obtain ⟨room, hroom, q1, q256⟩ : ∃ room : Int, IntKind.i64.wrap (1 + ibits .and .i64 a3 255) = room ∧ 1 ≤ room ∧ room ≤ 256 := ⟨_, by rw [wrap64] <;> omega, by omega, by omega⟩
  have last : ∀ (s1 s2 : Sl) (txt came : List UInt8), Held h0 s1 1 (strCells txt) → s1.len ≤ s1.cap → txt.length ≤ 500 → Held h0 s2 1 (strCells came) → s2.len ≤ s2.cap → came.length ≤ 500 → palisadelaw24_BackendTtys.j12 U s1 s2 a3 (some ⟨wb, 0⟩) (some ⟨cc, 0⟩) (some ⟨tb, 0⟩) Q g_ := by
    intro s1 s2 txt came H1 hc1 hl1 H2 hc2 hl2
    have hs1 := H1.len
    rw [strCells_length, Nat.mul_one] at hs1
    have hs2 := H2.len
    rw [strCells_length, Nat.mul_one] at hs2
    unfold palisadelaw24_BackendTtys.j12
    rw [hroom]
    have S1 : St h0 none_ ((cc, .cells (consC ⟨none, 0, 0⟩ ⟨none, 0, 0⟩ 0 0 0 0) false) :: [(tb, .cells [.ptr (some ⟨r0, 0⟩), .ptr (some ⟨cc, 0⟩)] false), (wb, .cells [.ptr (some ⟨pm, 0⟩), .ptr (some ⟨fb, 0⟩), .ptr (some ⟨db, 0⟩), .ptr (some ⟨g0, 0⟩), .ptr (some ⟨g1, 0⟩), .ptr (some ⟨r0, 0⟩), .ptr (some ⟨r1, 0⟩), .ptr (some ⟨b0, 0⟩), .ptr (some ⟨b1, 0⟩)] false), (r0, .cells (ringC ((0 : Nat) : Int) ((0 : Nat) : Int) false) false), (g0, .cells (flatC pm ((4 : Nat) : Int)) false), (pm, .cells (memC bm) false), (bm, .cells (strCells (List.replicate 10240 0)) mk)]) g_ := St.pick S_ [1, 0, 2, 3, 4, 5, 6] (by decide) rfl
    clear S_
    refine Input_of S1 (H2.keeps S1.keeps (fun _ _ f => f)) hc2 (by omega) (fun wt c1 d1 h2 S2 B2 k2 => ?_)
    obtain ⟨wl, hwl, S3⟩ := add_bs S2 B2 (fun b hb => ⟨fun hkk => off_keys S1 hb (by
      obtain ⟨v, hv⟩ := hkk
      rcases List.mem_cons.1 hv with e | hv
      · cases e; exact ⟨_, List.mem_cons_self⟩
      · exact ⟨v, List.mem_cons_of_mem _ hv⟩), .inl (fresh_of S1.keeps hb)⟩)
    have S4 : St h0 none_ ([(cc, .cells (consC wt ⟨none, 0, 0⟩ c1 d1 0 0) false), (tb, .cells [.ptr (some ⟨r0, 0⟩), .ptr (some ⟨cc, 0⟩)] false), (wb, .cells [.ptr (some ⟨pm, 0⟩), .ptr (some ⟨fb, 0⟩), .ptr (some ⟨db, 0⟩), .ptr (some ⟨g0, 0⟩), .ptr (some ⟨g1, 0⟩), .ptr (some ⟨r0, 0⟩), .ptr (some ⟨r1, 0⟩), .ptr (some ⟨b0, 0⟩), .ptr (some ⟨b1, 0⟩)] false), (r0, .cells (ringC ((0 : Nat) : Int) ((0 : Nat) : Int) false) false), (g0, .cells (flatC pm ((4 : Nat) : Int)) false), (pm, .cells (memC bm) false), (bm, .cells (strCells (List.replicate 10240 0)) mk)] ++ wl) h2 := St.perm' S3 List.perm_append_comm
    clear S1 S2 S3 B2
    have S_ := S4
    simp only [List.cons_append, List.nil_append] at S_
    repeat (first | ((with_reducible first|apply St.rI|apply St.rB|apply St.rP|apply St.rSl|apply St.rV|apply St.rM|apply St.rS|apply St.rN|apply St.ckA);assumption;(first|exact i0|exact i1|exact i2|exact i3|exact i4|exact i5|exact i6|exact i7|exact i8|exact i9|exact i10|exact i11|exact i12|exact i13|exact i14|exact i15);(first|rfl|exact Nat.le_of_ble_eq_true rfl)) | with_reducible refine der_of ?_ | ((with_reducible refine br_t ?_ ?_);rfl) | ((with_reducible refine br_f ?_ ?_);rfl) | ((with_reducible refine br_t ?_ ?_);assumption) | ((with_reducible refine br_f ?_ ?_);assumption) | ((with_reducible first|apply St.wrL|apply St.wr);assumption;(first|exact i0|exact i1|exact i2|exact i3|exact i4|exact i5|exact i6|exact i7|exact i8|exact i9|exact i10|exact i11|exact i12|exact i13|exact i14|exact i15);(first|exact Nat.le_of_ble_eq_true rfl|rfl);intro g_ S_;simp only [Ptr.add, List.set, splice, List.take, List.drop, List.nil_append, List.append_nil, List.cons_append, List.length_cons, List.length_nil, Nat.zero_add, Nat.add_zero, Nat.reduceAdd, Nat.reduceMul, Nat.mul_one, Int.toNat_zero, Int.toNat_one, Int.reduceToNat] at S_) | ((with_reducible refine ix_of ?_ ?_ ?_);exact of_decide_eq_true rfl;exact of_decide_eq_true rfl) | ((with_reducible first|refine nz_of ?_ ?_|refine nneg_of ?_ ?_);exact of_decide_eq_true rfl) | ((with_reducible refine chk_of ?_ ?_);rfl) | (with_reducible first|apply asI_of|apply asB_of|apply asP_of|apply asSl_of|apply asAggV_of|apply asTupV_of|apply asCons_of|apply asNil_of|apply isNil_n|apply isNil_i|apply nilC_i|apply nilCU_i|apply nilCU_f|apply mthC_i) | ((with_reducible refine And.intro ?_ ?_);rfl) | ((with_reducible apply exAnd);rfl))
    have H1' : Held h2 s1 1 (strCells txt) := H1.keeps S4.keeps (fun _ _ f => f)
    refine gput2 (g := 4) (p := 5) (b := 6) (k := 1024) S_ rfl rfl rfl (by decide) (MemIs.zero (by decide)) (by decide) H1' (by omega) rfl (fun mk2 h3 S5 => ?_)
    simp only [List.set] at S5
    clear S_ S4
    obtain ⟨m1, M1, hm1⟩ := (MemIs.zero (base := 4) (by decide)).other (xs := txt) (a := 256 * 4 + 1024) (by omega)
    have t1 : ((Go.Mem.put (List.replicate 10240 0) (256 * 4 + 1024) txt).drop (256 * 4 + 1024)).take (1 + txt.length) = txt ++ [0] := by
      refine List.ext_getElem? (fun i => ?_)
      by_cases hi : i < txt.length
      · rw [List.getElem?_take_of_lt (by omega), List.getElem?_drop, put_get (by simp; omega), if_pos (by omega), Nat.add_sub_cancel_left, List.getElem?_append_left hi]
      · by_cases hi2 : i = txt.length
        · subst hi2
          rw [List.getElem?_take_of_lt (by omega), List.getElem?_drop, put_get (by simp; omega), if_neg (by omega), List.getElem?_append_right (Nat.le_refl _), Nat.sub_self, List.getElem?_replicate, if_pos (by omega)]
          rfl
        · rw [List.getElem?_eq_none (by rw [List.length_take]; omega), List.getElem?_eq_none (by simp only [List.length_append, List.length_cons, List.length_nil]; omega)]
    generalize Go.Mem.put (List.replicate 10240 0) (256 * 4 + 1024) txt = bs1 at S5 M1 t1
    have el : IntKind.i64.wrap (1 + ((s1.len : Nat) : Int)) = ((1 + txt.length : Nat) : Int) := by rw [← hs1, wrap64] <;> omega
    rw [el]
    ((with_reducible apply St.al); assumption; intro pb g_ S_)
    have ec : ([.int .u64 1024, .int .i64 ((1 + txt.length : Nat) : Int), .bool false, .int .u64 2048, .int .i64 room, .bool true] : List V) = pcells [⟨((1024 : Nat) : Int), ((1 + txt.length : Nat) : Int), false⟩, ⟨((2048 : Nat) : Int), room, true⟩] ++ [] := rfl
    rw [ec] at S_
    have SP : St h0 none_ ([(pb, .cells (pcells [⟨((1024 : Nat) : Int), ((1 + txt.length : Nat) : Int), false⟩, ⟨((2048 : Nat) : Int), room, true⟩] ++ []) false), (g0, .cells (flatC pm ((4 : Nat) : Int)) false), (pm, .cells (memC bm) false), (bm, .cells (strCells bs1) mk2)] ++ ([(cc, .cells (consC wt ⟨none, 0, 0⟩ c1 d1 0 0) false), (tb, .cells [.ptr (some ⟨r0, 0⟩), .ptr (some ⟨cc, 0⟩)] false), (wb, .cells [.ptr (some ⟨pm, 0⟩), .ptr (some ⟨fb, 0⟩), .ptr (some ⟨db, 0⟩), .ptr (some ⟨g0, 0⟩), .ptr (some ⟨g1, 0⟩), .ptr (some ⟨r0, 0⟩), .ptr (some ⟨r1, 0⟩), .ptr (some ⟨b0, 0⟩), .ptr (some ⟨b1, 0⟩)] false), (r0, .cells (ringC ((0 : Nat) : Int) ((0 : Nat) : Int) false) false)] ++ wl)) g_ := St.pickR' (A := [(pb, .cells (pcells [⟨((1024 : Nat) : Int), ((1 + txt.length : Nat) : Int), false⟩, ⟨((2048 : Nat) : Int), room, true⟩] ++ []) false), (cc, .cells (consC wt ⟨none, 0, 0⟩ c1 d1 0 0) false), (tb, .cells [.ptr (some ⟨r0, 0⟩), .ptr (some ⟨cc, 0⟩)] false), (wb, .cells [.ptr (some ⟨pm, 0⟩), .ptr (some ⟨fb, 0⟩), .ptr (some ⟨db, 0⟩), .ptr (some ⟨g0, 0⟩), .ptr (some ⟨g1, 0⟩), .ptr (some ⟨r0, 0⟩), .ptr (some ⟨r1, 0⟩), .ptr (some ⟨b0, 0⟩), .ptr (some ⟨b1, 0⟩)] false), (r0, .cells (ringC ((0 : Nat) : Int) ((0 : Nat) : Int) false) false), (g0, .cells (flatC pm ((4 : Nat) : Int)) false), (pm, .cells (memC bm) false), (bm, .cells (strCells bs1) mk2)]) (A' := [(pb, .cells (pcells [⟨((1024 : Nat) : Int), ((1 + txt.length : Nat) : Int), false⟩, ⟨((2048 : Nat) : Int), room, true⟩] ++ []) false), (g0, .cells (flatC pm ((4 : Nat) : Int)) false), (pm, .cells (memC bm) false), (bm, .cells (strCells bs1) mk2), (cc, .cells (consC wt ⟨none, 0, 0⟩ c1 d1 0 0) false), (tb, .cells [.ptr (some ⟨r0, 0⟩), .ptr (some ⟨cc, 0⟩)] false), (wb, .cells [.ptr (some ⟨pm, 0⟩), .ptr (some ⟨fb, 0⟩), .ptr (some ⟨db, 0⟩), .ptr (some ⟨g0, 0⟩), .ptr (some ⟨g1, 0⟩), .ptr (some ⟨r0, 0⟩), .ptr (some ⟨r1, 0⟩), .ptr (some ⟨b0, 0⟩), .ptr (some ⟨b1, 0⟩)] false), (r0, .cells (ringC ((0 : Nat) : Int) ((0 : Nat) : Int) false) false)]) S_ [0, 5, 6, 7, 1, 2, 3, 4] (by decide) rfl
    clear S_ S5
    refine offer_gen (ps := [⟨((1024 : Nat) : Int), ((1 + txt.length : Nat) : Int), false⟩, ⟨((2048 : Nat) : Int), room, true⟩]) (w.keeps SP.keeps (hw0 _)) (SP.notA w.known (hw0 _)) hk8 M1 (by decide) (by show 1 ≤ 2 ∧ 2 ≤ 8; decide) (fun p hp => ?_) SP.head (fun bs2 m2 mk3 h4 M2 D2 h32 h33 hm2 S6 => ?_)
    · simp only [List.mem_cons, List.not_mem_nil, or_false] at hp
      rcases hp with rfl | rfl
      · exact ⟨by show (0 : Int) ≤ ((1024 : Nat) : Int) ∧ ((1024 : Nat) : Int) ≤ 1000000; decide, by show (1 : Int) ≤ ((1 + txt.length : Nat) : Int) ∧ ((1 + txt.length : Nat) : Int) ≤ 4096; omega⟩
      · exact ⟨by show (0 : Int) ≤ ((2048 : Nat) : Int) ∧ ((2048 : Nat) : Int) ≤ 1000000; decide, by show (1 : Int) ≤ room ∧ room ≤ 4096; omega⟩
    have S7 := St.frame S6 SP
    have SK : St h0 none_ ([(tb, .cells [.ptr (some ⟨r0, 0⟩), .ptr (some ⟨cc, 0⟩)] false), (r0, .cells (ringC ((0 : Nat) : Int) ((0 : Nat) : Int) false) false), (cc, .cells (consC wt ⟨none, 0, 0⟩ c1 d1 0 0) false), (g0, .cells (flatC pm ((4 : Nat) : Int)) false), (pm, .cells (memC bm) false), (bm, .cells (strCells bs2) mk3)] ++ wl) h4 := St.pickR' (A := [(pb, .cells (pcells [⟨((1024 : Nat) : Int), ((1 + txt.length : Nat) : Int), false⟩, ⟨((2048 : Nat) : Int), room, true⟩] ++ []) false), (g0, .cells (flatC pm ((4 : Nat) : Int)) false), (pm, .cells (memC bm) false), (bm, .cells (strCells bs2) mk3), (cc, .cells (consC wt ⟨none, 0, 0⟩ c1 d1 0 0) false), (tb, .cells [.ptr (some ⟨r0, 0⟩), .ptr (some ⟨cc, 0⟩)] false), (wb, .cells [.ptr (some ⟨pm, 0⟩), .ptr (some ⟨fb, 0⟩), .ptr (some ⟨db, 0⟩), .ptr (some ⟨g0, 0⟩), .ptr (some ⟨g1, 0⟩), .ptr (some ⟨r0, 0⟩), .ptr (some ⟨r1, 0⟩), .ptr (some ⟨b0, 0⟩), .ptr (some ⟨b1, 0⟩)] false), (r0, .cells (ringC ((0 : Nat) : Int) ((0 : Nat) : Int) false) false)]) (A' := [(tb, .cells [.ptr (some ⟨r0, 0⟩), .ptr (some ⟨cc, 0⟩)] false), (r0, .cells (ringC ((0 : Nat) : Int) ((0 : Nat) : Int) false) false), (cc, .cells (consC wt ⟨none, 0, 0⟩ c1 d1 0 0) false), (g0, .cells (flatC pm ((4 : Nat) : Int)) false), (pm, .cells (memC bm) false), (bm, .cells (strCells bs2) mk3)]) (by rw [← List.append_assoc] at S7; exact S7) [5, 7, 4, 1, 2, 3] (by decide) rfl
    clear S6 S7 SP
    unfold palisadelaw24_BackendTtys.j17
    refine kick_tty (k := 1024) (n := 1 + txt.length) (k1 := 2048) (came := came) hu hu' tu w' (hw0 _) hk8 M2 (by decide) (by omega) (by omega) (by omega) (by decide) (by omega) hwl D2 h32 h33 SK (fun o wt2 e3 e4 ol bs' m' mk4 kk h5 S8 hol M' hkk h41 h43 hby => ?_)
    rw [take_eq M1 M2 (by decide) (a := 1024) (n := 1 + txt.length) (by omega) (fun j hj1 hj2 => hm2 j (by omega)), t1] at hol
    clear SK
    have S_ := S8
    simp only [List.cons_append, List.nil_append] at S_
    refine back_two (g := 3) (p := 4) (b := 5) w hk8 (hw0 _) M' S_ rfl rfl rfl (by decide) h41 (by rw [h43]; omega) (fun h6 k6 => ?_)
    rw [h43]
    have S9 := S_.keep k6
    clear S_
    have em : minI room (((s2.len : Nat) : Int)) = (kk : Int) := by
      rw [← hs2, hkk]
      unfold minI
      split <;> omega
    rw [em]
    refine gbytes (g := 3) (p := 4) (b := 5) (k := 2048) (n := kk) S9 rfl rfl rfl (by decide) M' (by decide) (by omega) rfl rfl (fun s sb rest2 mk5 h7 S10 hsp hsl hsc => ?_)
    rw [hby] at S10
    have hkc : kk ≤ came.length := by omega
    have hlen : (came.take kk).length = kk := by rw [List.length_take]; omega
    have HB : Held h7 s 1 (strCells (came.take kk)) := by
      refine ⟨by rw [strCells_length, hlen, hsl, Nat.mul_one], fun p hp i u hu => ?_, fun hp => by rw [hsp] at hp; cases hp⟩
      rw [hsp] at hp; cases hp
      rw [get_cells (S10.obj i0), Nat.zero_add, List.getElem?_append_left, hu]
      rcases Nat.lt_or_ge i (strCells (came.take kk)).length with h1 | h1
      · exact h1
      · rw [List.getElem?_eq_none h1] at hu; cases hu
    have HC : Held h7 ⟨slp s2.p (0 * 1) 0 s2.cap, kk - 0, s2.cap - 0⟩ 1 (strCells (came.take kk)) := held_take (H2.keeps S10.keeps (fun _ _ f => f)) hkc
    have HT : ∀ h8, Keeps none_ h7 h8 → Held h8 s1 1 (strCells txt) := fun h8 k8 => (H1.keeps S10.keeps (fun _ _ f => f)).keeps k8 (fun _ _ f => f)
    have SW : St h0 none_ ((cc, .cells (consC wt2 o c1 d1 e3 e4) false) :: ([(tb, .cells [.ptr (some ⟨r0, 0⟩), .ptr (some ⟨cc, 0⟩)] false)] ++ ol)) h7 := St.pickR' (A := [_, (tb, .cells [.ptr (some ⟨r0, 0⟩), .ptr (some ⟨cc, 0⟩)] false), _, (cc, .cells (consC wt2 o c1 d1 e3 e4) false), _, _, _]) (A' := [(cc, .cells (consC wt2 o c1 d1 e3 e4) false), (tb, .cells [.ptr (some ⟨r0, 0⟩), .ptr (some ⟨cc, 0⟩)] false)]) S10 [3, 1] (by decide) rfl
    have wr := @written_of h0 h7 none_ cc wt2 o c1 d1 e3 e4 (txt ++ [0]) ol [(tb, .cells [.ptr (some ⟨r0, 0⟩), .ptr (some ⟨cc, 0⟩)] false)] SW hol (by simp) (by simp only [List.length_append, List.length_cons, List.length_nil]; omega)
    have cat : ∀ K : List UInt8 → Prop, K (txt ++ [0]) → catS txt [0] K := fun K hK => ⟨by simp only [List.length_cons, List.length_nil]; omega, hK⟩
    unfold palisadelaw24_BackendTtys.j21
    refine br_t rfl (br_t rfl (br_t (beq_self_eq_true _) (sb_of (by omega) (by omega) ?_)))
    rw [Int.toNat_natCast]
    have eq1 : ∀ h8, Q ((txt ++ [0]) == (txt ++ [0])) h8 := fun h8 => by rw [beq_self_eq_true]; exact hQ h8
    refine ⟨cellsS_of HB ?_, cellsS_of HC ?_⟩
    · rw [bytesOf_str]
      refine cellsS_of HC ?_
      rw [bytesOf_str]
      refine br_t (beq_self_eq_true _) ⟨wr (fun r h8 Hr k8 => ⟨cellsS_of Hr ?_, cellsS_of (HT h8 k8) ?_⟩), cellsS_of (HT h7 (Keeps.refl _ _)) ?_⟩
      · rw [bytesOf_str]
        refine cellsS_of (HT h8 k8) ?_
        rw [bytesOf_str]
        exact cat _ (eq1 h8)
      · rw [bytesOf_str]
        refine cat _ (cellsS_of Hr ?_)
        rw [bytesOf_str]
        exact eq1 h8
      · rw [bytesOf_str]
        refine cat _ (wr (fun r h8 Hr k8 => cellsS_of Hr ?_))
        rw [bytesOf_str]
        exact eq1 h8
    · rw [bytesOf_str]
      refine cellsS_of HB ?_
      rw [bytesOf_str]
      refine br_t (beq_self_eq_true _) ⟨wr (fun r h8 Hr k8 => ⟨cellsS_of Hr ?_, cellsS_of (HT h8 k8) ?_⟩), cellsS_of (HT h7 (Keeps.refl _ _)) ?_⟩
      · rw [bytesOf_str]
        refine cellsS_of (HT h8 k8) ?_
        rw [bytesOf_str]
        exact cat _ (eq1 h8)
      · rw [bytesOf_str]
        refine cat _ (cellsS_of Hr ?_)
        rw [bytesOf_str]
        exact eq1 h8
      · rw [bytesOf_str]
        refine cat _ (wr (fun r h8 Hr k8 => cellsS_of Hr ?_))
        rw [bytesOf_str]
        exact eq1 h8
  unfold palisadelaw24_BackendTtys.j8
  have second : ∀ (s1 : Sl) (txt : List UInt8), Held h0 s1 1 (strCells txt) → s1.len ≤ s1.cap → txt.length ≤ 500 → palisadelaw24_BackendTtys.j10 U s1 a2 a3 (some ⟨wb, 0⟩) (some ⟨cc, 0⟩) (some ⟨tb, 0⟩) Q g_ := by
    intro s1 txt H1 hc1 hl1
    have hlen := Hc.len
    rw [strCells_length, Nat.mul_one] at hlen
    unfold palisadelaw24_BackendTtys.j10
    by_cases e : ((a2.len : Nat) : Int) > 500
    · refine br_t (decide_eq_true e) (sb_of (by decide) (by omega) ?_)
      exact last s1 _ txt (xc.take 500) H1 hc1 hl1 (held_take Hc (by omega)) (by show 500 - 0 ≤ a2.cap - 0; omega) (by rw [List.length_take]; omega)
    · exact br_f (decide_eq_false e) (last s1 a2 txt xc H1 hc1 hl1 Hc hc (by omega))
  have hlen := Ht.len
  rw [strCells_length, Nat.mul_one] at hlen
  by_cases e : ((a1.len : Nat) : Int) > 500
  · refine br_t (decide_eq_true e) (sb_of (by decide) (by omega) ?_)
    exact second _ (xt.take 500) (held_take Ht (by omega)) (by show 500 - 0 ≤ a1.cap - 0; omega) (by rw [List.length_take]; omega)
  · exact br_f (decide_eq_false e) (second a1 xt Ht ht (by omega))

end
end Go.Back

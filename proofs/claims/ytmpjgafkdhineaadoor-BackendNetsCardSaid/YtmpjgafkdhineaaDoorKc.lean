import Derived.Test.YtmpjgafkdhineaaDoorKb

set_option linter.unusedSimpArgs false
set_option linter.unusedVariables false
set_option maxRecDepth 100000

/- Chains of any parts: offered, taken, told. -/
namespace Go.Back
open Go.Lift Go.Fn Go.Mem Go.Frames

structure Pt where
  a : Int
  l : Int
  w : Bool

def Pt.cells (p : Pt) : List V := [.int .u64 p.a, .int .i64 p.l, .bool p.w]
def pcells : List Pt → List V
  | [] => []
  | p :: ps => p.cells ++ pcells ps

theorem pcells_length : ∀ ps : List Pt, (pcells ps).length = ps.length * 3
  | [] => rfl
  | p :: ps => by simp only [pcells, List.length_append, pcells_length ps, List.length_cons, Pt.cells, List.length_nil]; omega

theorem pcells_append (a b : List Pt) : pcells (a ++ b) = pcells a ++ pcells b := by
  induction a with
  | nil => rfl
  | cons p a ih => simp only [List.cons_append, pcells, ih, List.append_assoc]

theorem pcells_get : ∀ {ps : List Pt} {i : Nat} {p : Pt} {j : Nat} {r : List V}, ps[i]? = some p → j < 3 → (pcells ps ++ r)[i * 3 + j]? = p.cells[j]?
  | [], _, _, _, _, h, _ => by simp at h
  | q :: ps, 0, p, j, r, h, hj => by
    simp at h; subst h
    rw [show pcells (q :: ps) = q.cells ++ pcells ps from rfl, List.append_assoc, List.getElem?_append_left (by simp [Pt.cells]; omega), Nat.zero_mul, Nat.zero_add]
  | q :: ps, i + 1, p, j, r, h, hj => by
    simp only [List.getElem?_cons_succ] at h
    rw [show pcells (q :: ps) = q.cells ++ pcells ps from rfl, List.append_assoc, List.getElem?_append_right (by simp [Pt.cells]; omega)]
    rw [show (i + 1) * 3 + j - q.cells.length = i * 3 + j by simp [Pt.cells]; omega]
    exact pcells_get h hj

/-- Parts that may be offered: only the last one is to be written. -/
structure PtOk (p : Pt) : Prop where
  a : 0 ≤ p.a ∧ p.a ≤ 1000000
  l : 1 ≤ p.l ∧ p.l ≤ 4096

def flg (p : Pt) (more : Bool) : Int := (if p.w then 2 else 0) + (if more then 1 else 0)

theorem flg_ok (p : Pt) (more : Bool) : (0 ≤ flg p more ∧ flg p more ≤ 3) ∧ (ibits .and .u64 (flg p more) 2 != 0) = p.w ∧ (ibits .and .u64 (flg p more) 1 != 0) = more := by
  unfold flg
  cases p.w <;> cases more
  · exact ⟨by decide, rfl, rfl⟩
  · exact ⟨by decide, rfl, rfl⟩
  · exact ⟨by decide, rfl, rfl⟩
  · exact ⟨by decide, rfl, rfl⟩

/-- The descriptors of the parts up to k stand there. -/
def Desc (m : Nat → Int) (ps : List Pt) (k : Nat) : Prop :=
  ∀ i p, i < k → ps[i]? = some p → m (4 * i) = p.a ∧ m (4 * i + 1) = p.l ∧ m (4 * i + 2) = flg p (decide (i + 1 < ps.length)) ∧ m (4 * i + 3) = ((i + 1 : Nat) : Int)

theorem Desc.same {m m' : Nat → Int} {ps : List Pt} {k : Nat} (D : Desc m ps k) (h : ∀ j, j < 4 * k → m' j = m j) : Desc m' ps k := by
  intro i p hi hp
  obtain ⟨h1, h2, h3, h4⟩ := D i p hi hp
  exact ⟨(h _ (by omega)).trans h1, (h _ (by omega)).trans h2, (h _ (by omega)).trans h3, (h _ (by omega)).trans h4⟩

section
variable {U U' : Ifc} {x : Nat → Int} {h0 h : Heap} {W : Nat → Prop}

theorem offer_gen (w : Wid U h0 x) (hw : ¬ W (U.glob 1)) (hk8 : knownB x 8 = true) {pb gb pm bm base cp : Nat} {bs : List UInt8} {mk mkp : Bool} {m : Nat → Int} {ps : List Pt} {rp : List V} (M : MemIs bs base m) (hb : base + 16 ≤ 40) (hps : 1 ≤ ps.length ∧ ps.length ≤ 8) (hok : ∀ p, p ∈ ps → PtOk p)
    (S : St h0 W [(pb, .cells (pcells ps ++ rp) mkp), (gb, .cells (flatC pm (base : Int)) false), (pm, .cells (memC bm) false), (bm, .cells (strCells bs) mk)] h) {Q : Heap → Prop}
    (hq : ∀ bs' m' mk' h', MemIs bs' base m' → Desc m' ps ps.length → m' 32 = 1 → m' 33 = 0 → (∀ j, 41 ≤ j → m' j = m j) → St h0 W [(pb, .cells (pcells ps ++ rp) mkp), (gb, .cells (flatC pm (base : Int)) false), (pm, .cells (memC bm) false), (bm, .cells (strCells bs') mk')] h' → Q h') : zf39 U (some ⟨gb, 0⟩) 0 ⟨some ⟨pb, 0⟩, ps.length, cp⟩ Q h := by
  unfold zf39 zf39.j1
  intro I HI
  have key : ∀ (j i : Nat) (m1 : Nat → Int) (bs : List UInt8) (mk : Bool) (h : Heap), i + j = ps.length → MemIs bs base m1 → Desc m1 ps i → (∀ j, 32 ≤ j → m1 j = m j) → St h0 W [(pb, .cells (pcells ps ++ rp) mkp), (gb, .cells (flatC pm (base : Int)) false), (pm, .cells (memC bm) false), (bm, .cells (strCells bs) mk)] h → I (some ⟨gb, 0⟩) 0 ⟨some ⟨pb, 0⟩, ps.length, cp⟩ (i : Int) h := by
    intro j
    induction j with
    | zero =>
      intro i m1 bs mk h hij M D hm S
      obtain rfl : i = ps.length := by omega
      refine HI _ _ _ _ _ ?_
      unfold zf39.b1
      refine br_f (decide_eq_false (by simp)) ?_
      refine nz_of (by decide) ?_
      refine gstore (g := 1) (p := 2) (b := 3) w hw hk8 S rfl rfl rfl (by decide) M hb (k := 33) (by decide) (by decide) (by decide) (by decide) (fun bs2 mk2 g2 M S => ?_)
      simp only [List.set] at S
      refine gstore (g := 1) (p := 2) (b := 3) w hw hk8 S rfl rfl rfl (by decide) M hb (k := 32) (by decide) (by decide) (by decide) (by decide) (fun bs3 mk3 g3 M S => ?_)
      simp only [List.set] at S
      refine hq bs3 _ mk3 _ M (D.same (fun j hj => ?_)) (by unfold upd; rw [if_pos rfl]; decide) (by unfold upd; rw [if_neg (by decide), if_pos rfl]) (fun j hj => ?_) S
      · unfold upd; rw [if_neg (by omega), if_neg (by omega)]
      · unfold upd; rw [if_neg (by omega), if_neg (by omega)]; exact hm j (by omega)
    | succ j ih =>
      intro i m1 bs mk h hij M D hm S
      have hi : i < ps.length := by omega
      have hp : ps[i]? = some ps[i] := List.getElem?_eq_getElem hi
      generalize ps[i] = p at hp
      have pok := hok p (List.mem_of_getElem? hp)
      obtain ⟨pa, pl⟩ := pok
      have c0 : (pcells ps ++ rp)[0 + i * 3 + 0]? = some (.int .u64 p.a) := by rw [Nat.zero_add]; exact (pcells_get hp (by decide)).trans rfl
      have c1 : (pcells ps ++ rp)[0 + i * 3 + 1]? = some (.int .i64 p.l) := by rw [Nat.zero_add]; exact (pcells_get hp (by decide)).trans rfl
      have c2 : (pcells ps ++ rp)[0 + i * 3 + 2]? = some (.bool p.w) := by rw [Nat.zero_add]; exact (pcells_get hp (by decide)).trans rfl
      refine HI _ _ _ _ _ ?_
      unfold zf39.b1
      refine br_t (decide_eq_true (by show (i : Int) < (ps.length : Int); omega)) (br_t (decide_eq_true (by omega)) (ix_of (by omega) (by show (i : Int) < (ps.length : Int); omega) ?_))
      rw [der_some, Int.toNat_natCast]
      refine S.rB i0 c2 ?_
      have e32 : IntKind.u64.wrap (32 * IntKind.u64.wrap (i : Int)) = ((8 * (4 * i) : Nat) : Int) := by rw [wrapu64 (x := (i : Int)), wrapu64] <;> omega
      have a8 : IntKind.u64.wrap (((8 * (4 * i) : Nat) : Int) + 8) = ((8 * (4 * i + 1) : Nat) : Int) := by rw [wrapu64] <;> omega
      have a16 : IntKind.u64.wrap (((8 * (4 * i) : Nat) : Int) + 16) = ((8 * (4 * i + 2) : Nat) : Int) := by rw [wrapu64] <;> omega
      have a24 : IntKind.u64.wrap (((8 * (4 * i) : Nat) : Int) + 24) = ((8 * (4 * i + 3) : Nat) : Int) := by rw [wrapu64] <;> omega
      have en : IntKind.u64.wrap (IntKind.i64.wrap ((i : Int) + 1)) = ((i + 1 : Nat) : Int) := by rw [wrap64 (x := (i : Int) + 1), wrapu64] <;> omega
      have en2 : IntKind.i64.wrap ((i : Int) + 1) = ((i + 1 : Nat) : Int) := by rw [wrap64] <;> omega
      have el : IntKind.u64.wrap p.l = p.l := wrapu64
      have j8 : zf39.j8 U I (some ⟨gb, 0⟩) 0 ⟨some ⟨pb, 0⟩, ps.length, cp⟩ (i : Int) (flg p (decide (i + 1 < ps.length))) Q h := by
        have fo := (flg_ok p (decide (i + 1 < ps.length))).1
        unfold zf39.j8
        refine ix_of (by omega) (by show (i : Int) < (ps.length : Int); omega) ?_
        rw [der_some, Int.toNat_natCast]
        refine S.rI i0 c0 ?_
        rw [e32]
        refine gstore (g := 1) (p := 2) (b := 3) w hw hk8 S rfl rfl rfl (by decide) M hb (k := 4 * i) (by omega) rfl pa.1 (by omega) (fun bs2 mk2 g2 M S => ?_)
        simp only [List.set] at S
        refine ix_of (by omega) (by show (i : Int) < (ps.length : Int); omega) ?_
        rw [der_some, Int.toNat_natCast]
        refine S.rI i0 c1 ?_
        rw [el, a8]
        refine gstore (g := 1) (p := 2) (b := 3) w hw hk8 S rfl rfl rfl (by decide) M hb (k := 4 * i + 1) (by omega) rfl (by omega) (by omega) (fun bs3 mk3 g3 M S => ?_)
        simp only [List.set] at S
        rw [a16]
        refine gstore (g := 1) (p := 2) (b := 3) w hw hk8 S rfl rfl rfl (by decide) M hb (k := 4 * i + 2) (by omega) rfl fo.1 (by omega) (fun bs4 mk4 g4 M S => ?_)
        simp only [List.set] at S
        unfold zf39.j12
        rw [a24, en]
        refine gstore (g := 1) (p := 2) (b := 3) w hw hk8 S rfl rfl rfl (by decide) M hb (k := 4 * i + 3) (by omega) rfl (by omega) (by omega) (fun bs5 mk5 g5 M S => ?_)
        simp only [List.set] at S
        unfold zf39.j2
        rw [en2]
        refine ih (i + 1) _ bs5 mk5 g5 (by omega) M (fun i' p' hi' hp' => ?_) (fun j hj => ?_) S
        · unfold upd
          by_cases e : i' = i
          · subst e
            rw [hp] at hp'; cases hp'
            refine ⟨?_, ?_, ?_, ?_⟩
            · rw [if_neg (by omega), if_neg (by omega), if_neg (by omega), if_pos rfl]
            · rw [if_neg (by omega), if_neg (by omega), if_pos rfl]
            · rw [if_neg (by omega), if_pos rfl]
            · rw [if_pos rfl]
          · obtain ⟨h1, h2, h3, h4⟩ := D i' p' (by omega) hp'
            refine ⟨?_, ?_, ?_, ?_⟩
            · rw [if_neg (by omega), if_neg (by omega), if_neg (by omega), if_neg (by omega)]; exact h1
            · rw [if_neg (by omega), if_neg (by omega), if_neg (by omega), if_neg (by omega)]; exact h2
            · rw [if_neg (by omega), if_neg (by omega), if_neg (by omega), if_neg (by omega)]; exact h3
            · rw [if_neg (by omega), if_neg (by omega), if_neg (by omega), if_neg (by omega)]; exact h4
        · unfold upd
          rw [if_neg (by omega), if_neg (by omega), if_neg (by omega), if_neg (by omega)]
          exact hm j hj
      have j6 : ∀ f : Int, f = (if p.w then 2 else 0) → zf39.j6 U I (some ⟨gb, 0⟩) 0 ⟨some ⟨pb, 0⟩, ps.length, cp⟩ (i : Int) f Q h := by
        intro f hf
        unfold zf39.j6
        by_cases e : i + 1 < ps.length
        · refine br_t (decide_eq_true (by rw [en2]; show ((i + 1 : Nat) : Int) < (ps.length : Int); omega)) (br_t (decide_eq_true (by omega)) ?_)
          have : IntKind.u64.wrap (f + 1) = flg p (decide (i + 1 < ps.length)) := by
            rw [hf, decide_eq_true e]; unfold flg; cases p.w <;> decide
          rw [this]; exact j8
        · refine br_f (decide_eq_false (by rw [en2]; show ¬ ((i + 1 : Nat) : Int) < (ps.length : Int); omega)) ?_
          have : f = flg p (decide (i + 1 < ps.length)) := by
            rw [hf, decide_eq_false e]; unfold flg; cases p.w <;> decide
          rw [this]; exact j8
      cases hpw : p.w
      · exact br_f rfl (j6 0 (by rw [hpw]; rfl))
      · exact br_t rfl (j6 2 (by rw [hpw]; rfl))
  exact key ps.length 0 m bs mk h (by omega) M (fun i p hi => by omega) (fun _ _ => rfl) S

end
end Go.Back

/- A chain of any parts is taken. -/
namespace Go.Back
open Go.Lift Go.Fn Go.Mem Go.Frames

section
variable {U U' : Ifc} {x : Nat → Int} {h0 h : Heap} {W : Nat → Prop}

theorem chain_gen (hu : GU U U') (w : Wid U' h0 x) (hw : ¬ W (U'.glob 1)) (hk8 : knownB x 8 = true) {rd rg gb pm bm base : Nat} {bs : List UInt8} {mk : Bool} {m : Nat → Int} {t gv : Int} {ps : List Pt} (M : MemIs bs base m) (hb : base + 16 ≤ 40) (hps : 1 ≤ ps.length ∧ ps.length ≤ 8) (hok : ∀ p, p ∈ ps → PtOk p) (hwr : ∀ (i : Nat) p q, ps[i]? = some p → ps[i + 1]? = some q → p.w = true → q.w = true) (D : Desc m ps ps.length)
    (S : St h0 W [(rd, .cells (rdC gb) false), (rg, .cells (ringC (t : Int) gv false) false), (gb, .cells (flatC pm (base : Int)) false), (pm, .cells (memC bm) false), (bm, .cells (strCells bs) mk)] h)
    {Q : Int → Sl → Bool → Heap → Prop} (hq : ∀ cb c rest mk' h', St h0 W [(cb, .cells (pcells (ps) ++ rest) mk'), (rd, .cells (rdC gb) false), (rg, .cells (ringC (t : Int) gv false) false), (gb, .cells (flatC pm (base : Int)) false), (pm, .cells (memC bm) false), (bm, .cells (strCells bs) mk)] h' → Q 0 ⟨some ⟨cb, 0⟩, ps.length, c⟩ true h') :
    zf43 U (some ⟨rg, 0⟩) (some ⟨rd, 0⟩) 0 Q h := by
  unfold zf43
  ((with_reducible apply St.al); assumption; intro c1 g_ S_)
  repeat (first | ((with_reducible first|apply St.rI|apply St.rB|apply St.rP|apply St.rSl|apply St.rV|apply St.rM|apply St.rS|apply St.rN|apply St.ckA);assumption;(first|exact i0|exact i1|exact i2|exact i3|exact i4|exact i5|exact i6|exact i7|exact i8|exact i9|exact i10|exact i11|exact i12|exact i13|exact i14|exact i15);(first|rfl|exact Nat.le_of_ble_eq_true rfl)) | with_reducible refine der_of ?_ | ((with_reducible refine br_t ?_ ?_);rfl) | ((with_reducible refine br_f ?_ ?_);rfl) | ((with_reducible refine br_t ?_ ?_);assumption) | ((with_reducible refine br_f ?_ ?_);assumption) | ((with_reducible first|apply St.wrL|apply St.wr);assumption;(first|exact i0|exact i1|exact i2|exact i3|exact i4|exact i5|exact i6|exact i7|exact i8|exact i9|exact i10|exact i11|exact i12|exact i13|exact i14|exact i15);(first|exact Nat.le_of_ble_eq_true rfl|rfl);intro g_ S_;simp only [Ptr.add, List.set, splice, List.take, List.drop, List.nil_append, List.append_nil, List.cons_append, List.length_cons, List.length_nil, Nat.zero_add, Nat.add_zero, Nat.reduceAdd, Nat.reduceMul, Nat.mul_one, Int.toNat_zero, Int.toNat_one, Int.reduceToNat] at S_) | ((with_reducible refine ix_of ?_ ?_ ?_);exact of_decide_eq_true rfl;exact of_decide_eq_true rfl) | ((with_reducible first|refine nz_of ?_ ?_|refine nneg_of ?_ ?_);exact of_decide_eq_true rfl) | ((with_reducible refine chk_of ?_ ?_);rfl) | (with_reducible first|apply asI_of|apply asB_of|apply asP_of|apply asSl_of|apply asAggV_of|apply asTupV_of|apply asCons_of|apply asNil_of|apply isNil_n|apply isNil_i|apply nilC_i|apply nilCU_i|apply nilCU_f|apply mthC_i) | ((with_reducible refine And.intro ?_ ?_);rfl) | ((with_reducible apply exAnd);rfl))
  unfold zf43.j3
  intro I HI
  -- the end, and the next round, behind a part that was appended
  have step : ∀ (i : Nat) (p : Pt) (cb c c1 d : Nat) (rest : List V) (mk' : Bool) (g : Heap), i < ps.length → ps[i]? = some p →
      (i + 1 < ps.length → ∀ cb c rest mk' g', St h0 W [(cb, .cells (pcells (ps.take (i + 1)) ++ rest) mk'), (c1, .cells [.int .i64 0, .sl ⟨some ⟨cb, 0⟩, i + 1, c⟩] false), (rd, .cells (rdC gb) false), (rg, .cells (ringC (t : Int) gv false) false), (gb, .cells (flatC pm (base : Int)) false), (pm, .cells (memC bm) false), (bm, .cells (strCells bs) mk)] g' → i + 1 ≤ c → rest.length = (c - (i + 1)) * 3 → I (some ⟨rg, 0⟩) (some ⟨rd, 0⟩) 0 ⟨c1, 0⟩ false ((i + 1 : Nat) : Int) 8 ((i + 1 : Nat) : Int) g') →
      St h0 W [(cb, .cells (pcells (ps.take i) ++ rest) mk'), (d, .cells p.cells false), (c1, .cells [.int .i64 0, .sl ⟨some ⟨cb, 0⟩, i, c⟩] false), (rd, .cells (rdC gb) false), (rg, .cells (ringC (t : Int) gv false) false), (gb, .cells (flatC pm (base : Int)) false), (pm, .cells (memC bm) false), (bm, .cells (strCells bs) mk)] g → 1 ≤ i → i ≤ c → rest.length = (c - i) * 3 →
      zf43.j10 U I (some ⟨rg, 0⟩) (some ⟨rd, 0⟩) 0 ⟨c1, 0⟩ ⟨d, 0⟩ ((i + 1 : Nat) : Int) (decide (i + 1 < ps.length)) 8 (i : Int) Q g := by
    intro i p cb c c1 d rest mk' g hi hp hnext S hi1 hc hr
    have et : ps.take i ++ [p] = ps.take (i + 1) := by rw [List.take_add_one, hp]; rfl
    have ew : IntKind.u64.wrap ((i : Int) + 1) = ((i + 1 : Nat) : Int) := by rw [wrapu64] <;> omega
    unfold Pt.cells at S
    unfold zf43.j10
    repeat (first | ((with_reducible first|apply St.rI|apply St.rB|apply St.rP|apply St.rSl|apply St.rV|apply St.rM|apply St.rS|apply St.rN|apply St.ckA);assumption;(first|exact i0|exact i1|exact i2|exact i3|exact i4|exact i5|exact i6|exact i7|exact i8|exact i9|exact i10|exact i11|exact i12|exact i13|exact i14|exact i15);(first|rfl|exact Nat.le_of_ble_eq_true rfl)) | with_reducible refine der_of ?_ | ((with_reducible refine br_t ?_ ?_);rfl) | ((with_reducible refine br_f ?_ ?_);rfl) | ((with_reducible refine br_t ?_ ?_);assumption) | ((with_reducible refine br_f ?_ ?_);assumption) | ((with_reducible first|apply St.wrL|apply St.wr);assumption;(first|exact i0|exact i1|exact i2|exact i3|exact i4|exact i5|exact i6|exact i7|exact i8|exact i9|exact i10|exact i11|exact i12|exact i13|exact i14|exact i15);(first|exact Nat.le_of_ble_eq_true rfl|rfl);intro g_ S_;simp only [Ptr.add, List.set, splice, List.take, List.drop, List.nil_append, List.append_nil, List.cons_append, List.length_cons, List.length_nil, Nat.zero_add, Nat.add_zero, Nat.reduceAdd, Nat.reduceMul, Nat.mul_one, Int.toNat_zero, Int.toNat_one, Int.reduceToNat] at S_) | ((with_reducible refine ix_of ?_ ?_ ?_);exact of_decide_eq_true rfl;exact of_decide_eq_true rfl) | ((with_reducible first|refine nz_of ?_ ?_|refine nneg_of ?_ ?_);exact of_decide_eq_true rfl) | ((with_reducible refine chk_of ?_ ?_);rfl) | (with_reducible first|apply asI_of|apply asB_of|apply asP_of|apply asSl_of|apply asAggV_of|apply asTupV_of|apply asCons_of|apply asNil_of|apply isNil_n|apply isNil_i|apply nilC_i|apply nilCU_i|apply nilCU_f|apply mthC_i) | ((with_reducible refine And.intro ?_ ?_);rfl) | ((with_reducible apply exAnd);rfl))
    ((with_reducible apply St.al); assumption; intro e2 g_ S_)
    repeat (first | ((with_reducible first|apply St.rI|apply St.rB|apply St.rP|apply St.rSl|apply St.rV|apply St.rM|apply St.rS|apply St.rN|apply St.ckA);assumption;(first|exact i0|exact i1|exact i2|exact i3|exact i4|exact i5|exact i6|exact i7|exact i8|exact i9|exact i10|exact i11|exact i12|exact i13|exact i14|exact i15);(first|rfl|exact Nat.le_of_ble_eq_true rfl)) | with_reducible refine der_of ?_ | ((with_reducible refine br_t ?_ ?_);rfl) | ((with_reducible refine br_f ?_ ?_);rfl) | ((with_reducible refine br_t ?_ ?_);assumption) | ((with_reducible refine br_f ?_ ?_);assumption) | ((with_reducible first|apply St.wrL|apply St.wr);assumption;(first|exact i0|exact i1|exact i2|exact i3|exact i4|exact i5|exact i6|exact i7|exact i8|exact i9|exact i10|exact i11|exact i12|exact i13|exact i14|exact i15);(first|exact Nat.le_of_ble_eq_true rfl|rfl);intro g_ S_;simp only [Ptr.add, List.set, splice, List.take, List.drop, List.nil_append, List.append_nil, List.cons_append, List.length_cons, List.length_nil, Nat.zero_add, Nat.add_zero, Nat.reduceAdd, Nat.reduceMul, Nat.mul_one, Int.toNat_zero, Int.toNat_one, Int.reduceToNat] at S_) | ((with_reducible refine ix_of ?_ ?_ ?_);exact of_decide_eq_true rfl;exact of_decide_eq_true rfl) | ((with_reducible first|refine nz_of ?_ ?_|refine nneg_of ?_ ?_);exact of_decide_eq_true rfl) | ((with_reducible refine chk_of ?_ ?_);rfl) | (with_reducible first|apply asI_of|apply asB_of|apply asP_of|apply asSl_of|apply asAggV_of|apply asTupV_of|apply asCons_of|apply asNil_of|apply isNil_n|apply isNil_i|apply nilC_i|apply nilCU_i|apply nilCU_f|apply mthC_i) | ((with_reducible refine And.intro ?_ ?_);rfl) | ((with_reducible apply exAnd);rfl))
    have S4 : St h0 W [(cb, .cells (pcells (ps.take i) ++ rest) mk'), (c1, .cells [.int .i64 0, .sl ⟨some ⟨cb, 0⟩, i, c⟩] false), (rd, .cells (rdC gb) false), (rg, .cells (ringC (t : Int) gv false) false), (gb, .cells (flatC pm (base : Int)) false), (pm, .cells (memC bm) false), (bm, .cells (strCells bs) mk)] g_ := St.pick S_ [1, 3, 4, 5, 6, 7, 8] (by decide) rfl
    clear S_ S
    refine app_own S4 (by rw [pcells_length, List.length_take]; omega) hc hr rfl rfl (by decide) (by omega) (fun cb c rest mk' g2 S2 hc hr => ?_)
    have e3 : pcells (ps.take i) ++ [V.int .u64 p.a, V.int .i64 p.l, V.bool p.w] = pcells (ps.take (i + 1)) := by
      rw [← et, pcells_append]; rfl
    simp only [List.take, List.drop] at S2
    rw [e3] at S2
    clear S4
    repeat (first | ((with_reducible first|apply St.rI|apply St.rB|apply St.rP|apply St.rSl|apply St.rV|apply St.rM|apply St.rS|apply St.rN|apply St.ckA);assumption;(first|exact i0|exact i1|exact i2|exact i3|exact i4|exact i5|exact i6|exact i7|exact i8|exact i9|exact i10|exact i11|exact i12|exact i13|exact i14|exact i15);(first|rfl|exact Nat.le_of_ble_eq_true rfl)) | with_reducible refine der_of ?_ | ((with_reducible refine br_t ?_ ?_);rfl) | ((with_reducible refine br_f ?_ ?_);rfl) | ((with_reducible refine br_t ?_ ?_);assumption) | ((with_reducible refine br_f ?_ ?_);assumption) | ((with_reducible first|apply St.wrL|apply St.wr);assumption;(first|exact i0|exact i1|exact i2|exact i3|exact i4|exact i5|exact i6|exact i7|exact i8|exact i9|exact i10|exact i11|exact i12|exact i13|exact i14|exact i15);(first|exact Nat.le_of_ble_eq_true rfl|rfl);intro g_ S_;simp only [Ptr.add, List.set, splice, List.take, List.drop, List.nil_append, List.append_nil, List.cons_append, List.length_cons, List.length_nil, Nat.zero_add, Nat.add_zero, Nat.reduceAdd, Nat.reduceMul, Nat.mul_one, Int.toNat_zero, Int.toNat_one, Int.reduceToNat] at S_) | ((with_reducible refine ix_of ?_ ?_ ?_);exact of_decide_eq_true rfl;exact of_decide_eq_true rfl) | ((with_reducible first|refine nz_of ?_ ?_|refine nneg_of ?_ ?_);exact of_decide_eq_true rfl) | ((with_reducible refine chk_of ?_ ?_);rfl) | (with_reducible first|apply asI_of|apply asB_of|apply asP_of|apply asSl_of|apply asAggV_of|apply asTupV_of|apply asCons_of|apply asNil_of|apply isNil_n|apply isNil_i|apply nilC_i|apply nilCU_i|apply nilCU_f|apply mthC_i) | ((with_reducible refine And.intro ?_ ?_);rfl) | ((with_reducible apply exAnd);rfl))
    by_cases e : i + 1 < ps.length
    · rw [decide_eq_true e]
      repeat (first | ((with_reducible first|apply St.rI|apply St.rB|apply St.rP|apply St.rSl|apply St.rV|apply St.rM|apply St.rS|apply St.rN|apply St.ckA);assumption;(first|exact i0|exact i1|exact i2|exact i3|exact i4|exact i5|exact i6|exact i7|exact i8|exact i9|exact i10|exact i11|exact i12|exact i13|exact i14|exact i15);(first|rfl|exact Nat.le_of_ble_eq_true rfl)) | with_reducible refine der_of ?_ | ((with_reducible refine br_t ?_ ?_);rfl) | ((with_reducible refine br_f ?_ ?_);rfl) | ((with_reducible refine br_t ?_ ?_);assumption) | ((with_reducible refine br_f ?_ ?_);assumption) | ((with_reducible first|apply St.wrL|apply St.wr);assumption;(first|exact i0|exact i1|exact i2|exact i3|exact i4|exact i5|exact i6|exact i7|exact i8|exact i9|exact i10|exact i11|exact i12|exact i13|exact i14|exact i15);(first|exact Nat.le_of_ble_eq_true rfl|rfl);intro g_ S_;simp only [Ptr.add, List.set, splice, List.take, List.drop, List.nil_append, List.append_nil, List.cons_append, List.length_cons, List.length_nil, Nat.zero_add, Nat.add_zero, Nat.reduceAdd, Nat.reduceMul, Nat.mul_one, Int.toNat_zero, Int.toNat_one, Int.reduceToNat] at S_) | ((with_reducible refine ix_of ?_ ?_ ?_);exact of_decide_eq_true rfl;exact of_decide_eq_true rfl) | ((with_reducible first|refine nz_of ?_ ?_|refine nneg_of ?_ ?_);exact of_decide_eq_true rfl) | ((with_reducible refine chk_of ?_ ?_);rfl) | (with_reducible first|apply asI_of|apply asB_of|apply asP_of|apply asSl_of|apply asAggV_of|apply asTupV_of|apply asCons_of|apply asNil_of|apply isNil_n|apply isNil_i|apply nilC_i|apply nilCU_i|apply nilCU_f|apply mthC_i) | ((with_reducible refine And.intro ?_ ?_);rfl) | ((with_reducible apply exAnd);rfl))
      rw [ew]
      exact hnext e cb c rest mk' _ (St.pick S_ [0, 1, 2, 3, 4, 5, 6] (by decide) rfl) hc hr
    · rw [decide_eq_false e]
      repeat (first | ((with_reducible first|apply St.rI|apply St.rB|apply St.rP|apply St.rSl|apply St.rV|apply St.rM|apply St.rS|apply St.rN|apply St.ckA);assumption;(first|exact i0|exact i1|exact i2|exact i3|exact i4|exact i5|exact i6|exact i7|exact i8|exact i9|exact i10|exact i11|exact i12|exact i13|exact i14|exact i15);(first|rfl|exact Nat.le_of_ble_eq_true rfl)) | with_reducible refine der_of ?_ | ((with_reducible refine br_t ?_ ?_);rfl) | ((with_reducible refine br_f ?_ ?_);rfl) | ((with_reducible refine br_t ?_ ?_);assumption) | ((with_reducible refine br_f ?_ ?_);assumption) | ((with_reducible first|apply St.wrL|apply St.wr);assumption;(first|exact i0|exact i1|exact i2|exact i3|exact i4|exact i5|exact i6|exact i7|exact i8|exact i9|exact i10|exact i11|exact i12|exact i13|exact i14|exact i15);(first|exact Nat.le_of_ble_eq_true rfl|rfl);intro g_ S_;simp only [Ptr.add, List.set, splice, List.take, List.drop, List.nil_append, List.append_nil, List.cons_append, List.length_cons, List.length_nil, Nat.zero_add, Nat.add_zero, Nat.reduceAdd, Nat.reduceMul, Nat.mul_one, Int.toNat_zero, Int.toNat_one, Int.reduceToNat] at S_) | ((with_reducible refine ix_of ?_ ?_ ?_);exact of_decide_eq_true rfl;exact of_decide_eq_true rfl) | ((with_reducible first|refine nz_of ?_ ?_|refine nneg_of ?_ ?_);exact of_decide_eq_true rfl) | ((with_reducible refine chk_of ?_ ?_);rfl) | (with_reducible first|apply asI_of|apply asB_of|apply asP_of|apply asSl_of|apply asAggV_of|apply asTupV_of|apply asCons_of|apply asNil_of|apply isNil_n|apply isNil_i|apply nilC_i|apply nilCU_i|apply nilCU_f|apply mthC_i) | ((with_reducible refine And.intro ?_ ?_);rfl) | ((with_reducible apply exAnd);rfl))
      have e4 : i + 1 = ps.length := by omega
      rw [e4, List.take_length] at S_
      rw [e4]
      exact hq cb c rest mk' _ (St.pick S_ [0, 2, 3, 4, 5, 6] (by decide) rfl)
  have key : ∀ (j i : Nat) (c1 cb c : Nat) (rest : List V) (mk' : Bool) (g : Heap), i + j = ps.length → 1 ≤ i → 1 ≤ j → St h0 W [(cb, .cells (pcells (ps.take i) ++ rest) mk'), (c1, .cells [.int .i64 0, .sl ⟨some ⟨cb, 0⟩, i, c⟩] false), (rd, .cells (rdC gb) false), (rg, .cells (ringC (t : Int) gv false) false), (gb, .cells (flatC pm (base : Int)) false), (pm, .cells (memC bm) false), (bm, .cells (strCells bs) mk)] g → i ≤ c → rest.length = (c - i) * 3 → I (some ⟨rg, 0⟩) (some ⟨rd, 0⟩) 0 ⟨c1, 0⟩ false (i : Int) 8 (i : Int) g := by
    intro j
    induction j with
    | zero => intro i c1 cb c rest mk' g hij hi hj; omega
    | succ j ih =>
      intro i c1 cb c rest mk' g hij hi hj S hc hr
      have hil : i < ps.length := by omega
      have hp : ps[i]? = some ps[i] := List.getElem?_eq_getElem hil
      generalize ps[i] = p at hp
      obtain ⟨d0, d1, d2, d3⟩ := D i p hil hp
      have pok := hok p (List.mem_of_getElem? hp)
      have fo := flg_ok p (decide (i + 1 < ps.length))
      have hp1 : ps[i - 1]? = some ps[i - 1] := List.getElem?_eq_getElem (by omega)
      generalize ps[i - 1] = p1 at hp1
      have w1 := hwr (i - 1) p1 p hp1 (by rw [show i - 1 + 1 = i by omega]; exact hp)
      have hpt : (ps.take i)[i - 1]? = some p1 := by rw [List.getElem?_take_of_lt (by omega)]; exact hp1
      have c2 : (pcells (ps.take i) ++ rest)[0 + (i - 1) * 3 + 2]? = some (.bool p1.w) := by rw [Nat.zero_add, pcells_get hpt (by decide)]; rfl
      refine HI _ _ _ _ _ _ _ _ _ ?_
      unfold zf43.b3
      refine br_t (decide_eq_true (by omega)) ?_
      repeat (first | ((with_reducible first|apply St.rI|apply St.rB|apply St.rP|apply St.rSl|apply St.rV|apply St.rM|apply St.rS|apply St.rN|apply St.ckA);assumption;(first|exact i0|exact i1|exact i2|exact i3|exact i4|exact i5|exact i6|exact i7|exact i8|exact i9|exact i10|exact i11|exact i12|exact i13|exact i14|exact i15);(first|rfl|exact Nat.le_of_ble_eq_true rfl)) | with_reducible refine der_of ?_ | ((with_reducible refine br_t ?_ ?_);rfl) | ((with_reducible refine br_f ?_ ?_);rfl) | ((with_reducible refine br_t ?_ ?_);assumption) | ((with_reducible refine br_f ?_ ?_);assumption) | ((with_reducible first|apply St.wrL|apply St.wr);assumption;(first|exact i0|exact i1|exact i2|exact i3|exact i4|exact i5|exact i6|exact i7|exact i8|exact i9|exact i10|exact i11|exact i12|exact i13|exact i14|exact i15);(first|exact Nat.le_of_ble_eq_true rfl|rfl);intro g_ S_;simp only [Ptr.add, List.set, splice, List.take, List.drop, List.nil_append, List.append_nil, List.cons_append, List.length_cons, List.length_nil, Nat.zero_add, Nat.add_zero, Nat.reduceAdd, Nat.reduceMul, Nat.mul_one, Int.toNat_zero, Int.toNat_one, Int.reduceToNat] at S_) | ((with_reducible refine ix_of ?_ ?_ ?_);exact of_decide_eq_true rfl;exact of_decide_eq_true rfl) | ((with_reducible first|refine nz_of ?_ ?_|refine nneg_of ?_ ?_);exact of_decide_eq_true rfl) | ((with_reducible refine chk_of ?_ ?_);rfl) | (with_reducible first|apply asI_of|apply asB_of|apply asP_of|apply asSl_of|apply asAggV_of|apply asTupV_of|apply asCons_of|apply asNil_of|apply isNil_n|apply isNil_i|apply nilC_i|apply nilCU_i|apply nilCU_f|apply mthC_i) | ((with_reducible refine And.intro ?_ ?_);rfl) | ((with_reducible apply exAnd);rfl))
      refine br_f (decide_eq_false (by omega)) ?_
      repeat (first | ((with_reducible first|apply St.rI|apply St.rB|apply St.rP|apply St.rSl|apply St.rV|apply St.rM|apply St.rS|apply St.rN|apply St.ckA);assumption;(first|exact i0|exact i1|exact i2|exact i3|exact i4|exact i5|exact i6|exact i7|exact i8|exact i9|exact i10|exact i11|exact i12|exact i13|exact i14|exact i15);(first|rfl|exact Nat.le_of_ble_eq_true rfl)) | with_reducible refine der_of ?_ | ((with_reducible refine br_t ?_ ?_);rfl) | ((with_reducible refine br_f ?_ ?_);rfl) | ((with_reducible refine br_t ?_ ?_);assumption) | ((with_reducible refine br_f ?_ ?_);assumption) | ((with_reducible first|apply St.wrL|apply St.wr);assumption;(first|exact i0|exact i1|exact i2|exact i3|exact i4|exact i5|exact i6|exact i7|exact i8|exact i9|exact i10|exact i11|exact i12|exact i13|exact i14|exact i15);(first|exact Nat.le_of_ble_eq_true rfl|rfl);intro g_ S_;simp only [Ptr.add, List.set, splice, List.take, List.drop, List.nil_append, List.append_nil, List.cons_append, List.length_cons, List.length_nil, Nat.zero_add, Nat.add_zero, Nat.reduceAdd, Nat.reduceMul, Nat.mul_one, Int.toNat_zero, Int.toNat_one, Int.reduceToNat] at S_) | ((with_reducible refine ix_of ?_ ?_ ?_);exact of_decide_eq_true rfl;exact of_decide_eq_true rfl) | ((with_reducible first|refine nz_of ?_ ?_|refine nneg_of ?_ ?_);exact of_decide_eq_true rfl) | ((with_reducible refine chk_of ?_ ?_);rfl) | (with_reducible first|apply asI_of|apply asB_of|apply asP_of|apply asSl_of|apply asAggV_of|apply asTupV_of|apply asCons_of|apply asNil_of|apply isNil_n|apply isNil_i|apply nilC_i|apply nilCU_i|apply nilCU_f|apply mthC_i) | ((with_reducible refine And.intro ?_ ?_);rfl) | ((with_reducible apply exAnd);rfl))
      refine part (r := 2) (g := 4) (p := 5) (b := 6) (i := i) hu w hw hk8 S rfl rfl rfl rfl (by decide) M hb (by omega) (by rw [wrapu64 (x := 32 * (i : Int)), wrapu64] <;> omega) d0 d1 d2 d3 pok.l fo.1 pok.a (fun g1 S1 => ?_)
      rw [fo.2.1, fo.2.2]
      ((with_reducible apply St.al); assumption; intro d g_ S_)
      repeat (first | ((with_reducible first|apply St.rI|apply St.rB|apply St.rP|apply St.rSl|apply St.rV|apply St.rM|apply St.rS|apply St.rN|apply St.ckA);assumption;(first|exact i0|exact i1|exact i2|exact i3|exact i4|exact i5|exact i6|exact i7|exact i8|exact i9|exact i10|exact i11|exact i12|exact i13|exact i14|exact i15);(first|rfl|exact Nat.le_of_ble_eq_true rfl)) | with_reducible refine der_of ?_ | ((with_reducible refine br_t ?_ ?_);rfl) | ((with_reducible refine br_f ?_ ?_);rfl) | ((with_reducible refine br_t ?_ ?_);assumption) | ((with_reducible refine br_f ?_ ?_);assumption) | ((with_reducible first|apply St.wrL|apply St.wr);assumption;(first|exact i0|exact i1|exact i2|exact i3|exact i4|exact i5|exact i6|exact i7|exact i8|exact i9|exact i10|exact i11|exact i12|exact i13|exact i14|exact i15);(first|exact Nat.le_of_ble_eq_true rfl|rfl);intro g_ S_;simp only [Ptr.add, List.set, splice, List.take, List.drop, List.nil_append, List.append_nil, List.cons_append, List.length_cons, List.length_nil, Nat.zero_add, Nat.add_zero, Nat.reduceAdd, Nat.reduceMul, Nat.mul_one, Int.toNat_zero, Int.toNat_one, Int.reduceToNat] at S_) | ((with_reducible refine ix_of ?_ ?_ ?_);exact of_decide_eq_true rfl;exact of_decide_eq_true rfl) | ((with_reducible first|refine nz_of ?_ ?_|refine nneg_of ?_ ?_);exact of_decide_eq_true rfl) | ((with_reducible refine chk_of ?_ ?_);rfl) | (with_reducible first|apply asI_of|apply asB_of|apply asP_of|apply asSl_of|apply asAggV_of|apply asTupV_of|apply asCons_of|apply asNil_of|apply isNil_n|apply isNil_i|apply nilC_i|apply nilCU_i|apply nilCU_f|apply mthC_i) | ((with_reducible refine And.intro ?_ ?_);rfl) | ((with_reducible apply exAnd);rfl))
      unfold zf43.j8
      repeat (first | ((with_reducible first|apply St.rI|apply St.rB|apply St.rP|apply St.rSl|apply St.rV|apply St.rM|apply St.rS|apply St.rN|apply St.ckA);assumption;(first|exact i0|exact i1|exact i2|exact i3|exact i4|exact i5|exact i6|exact i7|exact i8|exact i9|exact i10|exact i11|exact i12|exact i13|exact i14|exact i15);(first|rfl|exact Nat.le_of_ble_eq_true rfl)) | with_reducible refine der_of ?_ | ((with_reducible refine br_t ?_ ?_);rfl) | ((with_reducible refine br_f ?_ ?_);rfl) | ((with_reducible refine br_t ?_ ?_);assumption) | ((with_reducible refine br_f ?_ ?_);assumption) | ((with_reducible first|apply St.wrL|apply St.wr);assumption;(first|exact i0|exact i1|exact i2|exact i3|exact i4|exact i5|exact i6|exact i7|exact i8|exact i9|exact i10|exact i11|exact i12|exact i13|exact i14|exact i15);(first|exact Nat.le_of_ble_eq_true rfl|rfl);intro g_ S_;simp only [Ptr.add, List.set, splice, List.take, List.drop, List.nil_append, List.append_nil, List.cons_append, List.length_cons, List.length_nil, Nat.zero_add, Nat.add_zero, Nat.reduceAdd, Nat.reduceMul, Nat.mul_one, Int.toNat_zero, Int.toNat_one, Int.reduceToNat] at S_) | ((with_reducible refine ix_of ?_ ?_ ?_);exact of_decide_eq_true rfl;exact of_decide_eq_true rfl) | ((with_reducible first|refine nz_of ?_ ?_|refine nneg_of ?_ ?_);exact of_decide_eq_true rfl) | ((with_reducible refine chk_of ?_ ?_);rfl) | (with_reducible first|apply asI_of|apply asB_of|apply asP_of|apply asSl_of|apply asAggV_of|apply asTupV_of|apply asCons_of|apply asNil_of|apply isNil_n|apply isNil_i|apply nilC_i|apply nilCU_i|apply nilCU_f|apply mthC_i) | ((with_reducible refine And.intro ?_ ?_);rfl) | ((with_reducible apply exAnd);rfl))
      refine br_t (decide_eq_true (by show (i : Int) > 0; omega)) ?_
      repeat (first | ((with_reducible first|apply St.rI|apply St.rB|apply St.rP|apply St.rSl|apply St.rV|apply St.rM|apply St.rS|apply St.rN|apply St.ckA);assumption;(first|exact i0|exact i1|exact i2|exact i3|exact i4|exact i5|exact i6|exact i7|exact i8|exact i9|exact i10|exact i11|exact i12|exact i13|exact i14|exact i15);(first|rfl|exact Nat.le_of_ble_eq_true rfl)) | with_reducible refine der_of ?_ | ((with_reducible refine br_t ?_ ?_);rfl) | ((with_reducible refine br_f ?_ ?_);rfl) | ((with_reducible refine br_t ?_ ?_);assumption) | ((with_reducible refine br_f ?_ ?_);assumption) | ((with_reducible first|apply St.wrL|apply St.wr);assumption;(first|exact i0|exact i1|exact i2|exact i3|exact i4|exact i5|exact i6|exact i7|exact i8|exact i9|exact i10|exact i11|exact i12|exact i13|exact i14|exact i15);(first|exact Nat.le_of_ble_eq_true rfl|rfl);intro g_ S_;simp only [Ptr.add, List.set, splice, List.take, List.drop, List.nil_append, List.append_nil, List.cons_append, List.length_cons, List.length_nil, Nat.zero_add, Nat.add_zero, Nat.reduceAdd, Nat.reduceMul, Nat.mul_one, Int.toNat_zero, Int.toNat_one, Int.reduceToNat] at S_) | ((with_reducible refine ix_of ?_ ?_ ?_);exact of_decide_eq_true rfl;exact of_decide_eq_true rfl) | ((with_reducible first|refine nz_of ?_ ?_|refine nneg_of ?_ ?_);exact of_decide_eq_true rfl) | ((with_reducible refine chk_of ?_ ?_);rfl) | (with_reducible first|apply asI_of|apply asB_of|apply asP_of|apply asSl_of|apply asAggV_of|apply asTupV_of|apply asCons_of|apply asNil_of|apply isNil_n|apply isNil_i|apply nilC_i|apply nilCU_i|apply nilCU_f|apply mthC_i) | ((with_reducible refine And.intro ?_ ?_);rfl) | ((with_reducible apply exAnd);rfl))
      have ei : IntKind.i64.wrap ((i : Int) - 1) = ((i - 1 : Nat) : Int) := by rw [wrap64] <;> omega
      rw [ei]
      refine ix_of (by omega) (by show ((i - 1 : Nat) : Int) < (i : Int); omega) ?_
      rw [der_some, Int.toNat_natCast]
      refine S_.rB i1 c2 ?_
      have fin := step i p cb c c1 d rest mk' _ hil hp (fun e cb c rest mk' g' S' hc hr => ih (i + 1) c1 cb c rest mk' g' (by omega) (by omega) (by omega) S' hc hr) (St.pick S_ [1, 0, 2, 3, 4, 5, 6, 7] (by decide) rfl) hi hc hr
      cases e1 : p1.w
      · exact br_f rfl fin
      · refine br_t rfl (S_.rB (p := (⟨d, 0⟩ : Ptr).add 2) (x := p.w) i0 rfl (br_f (by rw [w1 e1]; rfl) ?_))
        exact fin
  have hp : ps[0]? = some ps[0] := List.getElem?_eq_getElem (by omega)
  generalize ps[0] = p at hp
  obtain ⟨d0, d1, d2, d3⟩ := D 0 p (by omega) hp
  have pok := hok p (List.mem_of_getElem? hp)
  have fo := flg_ok p (decide (0 + 1 < ps.length))
  refine HI _ _ _ _ _ _ _ _ _ ?_
  unfold zf43.b3
  repeat (first | ((with_reducible first|apply St.rI|apply St.rB|apply St.rP|apply St.rSl|apply St.rV|apply St.rM|apply St.rS|apply St.rN|apply St.ckA);assumption;(first|exact i0|exact i1|exact i2|exact i3|exact i4|exact i5|exact i6|exact i7|exact i8|exact i9|exact i10|exact i11|exact i12|exact i13|exact i14|exact i15);(first|rfl|exact Nat.le_of_ble_eq_true rfl)) | with_reducible refine der_of ?_ | ((with_reducible refine br_t ?_ ?_);rfl) | ((with_reducible refine br_f ?_ ?_);rfl) | ((with_reducible refine br_t ?_ ?_);assumption) | ((with_reducible refine br_f ?_ ?_);assumption) | ((with_reducible first|apply St.wrL|apply St.wr);assumption;(first|exact i0|exact i1|exact i2|exact i3|exact i4|exact i5|exact i6|exact i7|exact i8|exact i9|exact i10|exact i11|exact i12|exact i13|exact i14|exact i15);(first|exact Nat.le_of_ble_eq_true rfl|rfl);intro g_ S_;simp only [Ptr.add, List.set, splice, List.take, List.drop, List.nil_append, List.append_nil, List.cons_append, List.length_cons, List.length_nil, Nat.zero_add, Nat.add_zero, Nat.reduceAdd, Nat.reduceMul, Nat.mul_one, Int.toNat_zero, Int.toNat_one, Int.reduceToNat] at S_) | ((with_reducible refine ix_of ?_ ?_ ?_);exact of_decide_eq_true rfl;exact of_decide_eq_true rfl) | ((with_reducible first|refine nz_of ?_ ?_|refine nneg_of ?_ ?_);exact of_decide_eq_true rfl) | ((with_reducible refine chk_of ?_ ?_);rfl) | (with_reducible first|apply asI_of|apply asB_of|apply asP_of|apply asSl_of|apply asAggV_of|apply asTupV_of|apply asCons_of|apply asNil_of|apply isNil_n|apply isNil_i|apply nilC_i|apply nilCU_i|apply nilCU_f|apply mthC_i) | ((with_reducible refine And.intro ?_ ?_);rfl) | ((with_reducible apply exAnd);rfl))
  refine part (r := 1) (g := 3) (p := 4) (b := 5) (i := 0) hu w hw hk8 S_ rfl rfl rfl rfl (by decide) M hb (by decide) (by decide) d0 d1 d2 d3 pok.l fo.1 pok.a (fun g1 S1 => ?_)
  rw [fo.2.1, fo.2.2]
  clear S_ S
  ((with_reducible apply St.al); assumption; intro d1 g_ S_)
  repeat (first | ((with_reducible first|apply St.rI|apply St.rB|apply St.rP|apply St.rSl|apply St.rV|apply St.rM|apply St.rS|apply St.rN|apply St.ckA);assumption;(first|exact i0|exact i1|exact i2|exact i3|exact i4|exact i5|exact i6|exact i7|exact i8|exact i9|exact i10|exact i11|exact i12|exact i13|exact i14|exact i15);(first|rfl|exact Nat.le_of_ble_eq_true rfl)) | with_reducible refine der_of ?_ | ((with_reducible refine br_t ?_ ?_);rfl) | ((with_reducible refine br_f ?_ ?_);rfl) | ((with_reducible refine br_t ?_ ?_);assumption) | ((with_reducible refine br_f ?_ ?_);assumption) | ((with_reducible first|apply St.wrL|apply St.wr);assumption;(first|exact i0|exact i1|exact i2|exact i3|exact i4|exact i5|exact i6|exact i7|exact i8|exact i9|exact i10|exact i11|exact i12|exact i13|exact i14|exact i15);(first|exact Nat.le_of_ble_eq_true rfl|rfl);intro g_ S_;simp only [Ptr.add, List.set, splice, List.take, List.drop, List.nil_append, List.append_nil, List.cons_append, List.length_cons, List.length_nil, Nat.zero_add, Nat.add_zero, Nat.reduceAdd, Nat.reduceMul, Nat.mul_one, Int.toNat_zero, Int.toNat_one, Int.reduceToNat] at S_) | ((with_reducible refine ix_of ?_ ?_ ?_);exact of_decide_eq_true rfl;exact of_decide_eq_true rfl) | ((with_reducible first|refine nz_of ?_ ?_|refine nneg_of ?_ ?_);exact of_decide_eq_true rfl) | ((with_reducible refine chk_of ?_ ?_);rfl) | (with_reducible first|apply asI_of|apply asB_of|apply asP_of|apply asSl_of|apply asAggV_of|apply asTupV_of|apply asCons_of|apply asNil_of|apply isNil_n|apply isNil_i|apply nilC_i|apply nilCU_i|apply nilCU_f|apply mthC_i) | ((with_reducible refine And.intro ?_ ?_);rfl) | ((with_reducible apply exAnd);rfl))
  unfold zf43.j8
  repeat (first | ((with_reducible first|apply St.rI|apply St.rB|apply St.rP|apply St.rSl|apply St.rV|apply St.rM|apply St.rS|apply St.rN|apply St.ckA);assumption;(first|exact i0|exact i1|exact i2|exact i3|exact i4|exact i5|exact i6|exact i7|exact i8|exact i9|exact i10|exact i11|exact i12|exact i13|exact i14|exact i15);(first|rfl|exact Nat.le_of_ble_eq_true rfl)) | with_reducible refine der_of ?_ | ((with_reducible refine br_t ?_ ?_);rfl) | ((with_reducible refine br_f ?_ ?_);rfl) | ((with_reducible refine br_t ?_ ?_);assumption) | ((with_reducible refine br_f ?_ ?_);assumption) | ((with_reducible first|apply St.wrL|apply St.wr);assumption;(first|exact i0|exact i1|exact i2|exact i3|exact i4|exact i5|exact i6|exact i7|exact i8|exact i9|exact i10|exact i11|exact i12|exact i13|exact i14|exact i15);(first|exact Nat.le_of_ble_eq_true rfl|rfl);intro g_ S_;simp only [Ptr.add, List.set, splice, List.take, List.drop, List.nil_append, List.append_nil, List.cons_append, List.length_cons, List.length_nil, Nat.zero_add, Nat.add_zero, Nat.reduceAdd, Nat.reduceMul, Nat.mul_one, Int.toNat_zero, Int.toNat_one, Int.reduceToNat] at S_) | ((with_reducible refine ix_of ?_ ?_ ?_);exact of_decide_eq_true rfl;exact of_decide_eq_true rfl) | ((with_reducible first|refine nz_of ?_ ?_|refine nneg_of ?_ ?_);exact of_decide_eq_true rfl) | ((with_reducible refine chk_of ?_ ?_);rfl) | (with_reducible first|apply asI_of|apply asB_of|apply asP_of|apply asSl_of|apply asAggV_of|apply asTupV_of|apply asCons_of|apply asNil_of|apply isNil_n|apply isNil_i|apply nilC_i|apply nilCU_i|apply nilCU_f|apply mthC_i) | ((with_reducible refine And.intro ?_ ?_);rfl) | ((with_reducible apply exAnd);rfl))
  unfold zf43.j10
  repeat (first | ((with_reducible first|apply St.rI|apply St.rB|apply St.rP|apply St.rSl|apply St.rV|apply St.rM|apply St.rS|apply St.rN|apply St.ckA);assumption;(first|exact i0|exact i1|exact i2|exact i3|exact i4|exact i5|exact i6|exact i7|exact i8|exact i9|exact i10|exact i11|exact i12|exact i13|exact i14|exact i15);(first|rfl|exact Nat.le_of_ble_eq_true rfl)) | with_reducible refine der_of ?_ | ((with_reducible refine br_t ?_ ?_);rfl) | ((with_reducible refine br_f ?_ ?_);rfl) | ((with_reducible refine br_t ?_ ?_);assumption) | ((with_reducible refine br_f ?_ ?_);assumption) | ((with_reducible first|apply St.wrL|apply St.wr);assumption;(first|exact i0|exact i1|exact i2|exact i3|exact i4|exact i5|exact i6|exact i7|exact i8|exact i9|exact i10|exact i11|exact i12|exact i13|exact i14|exact i15);(first|exact Nat.le_of_ble_eq_true rfl|rfl);intro g_ S_;simp only [Ptr.add, List.set, splice, List.take, List.drop, List.nil_append, List.append_nil, List.cons_append, List.length_cons, List.length_nil, Nat.zero_add, Nat.add_zero, Nat.reduceAdd, Nat.reduceMul, Nat.mul_one, Int.toNat_zero, Int.toNat_one, Int.reduceToNat] at S_) | ((with_reducible refine ix_of ?_ ?_ ?_);exact of_decide_eq_true rfl;exact of_decide_eq_true rfl) | ((with_reducible first|refine nz_of ?_ ?_|refine nneg_of ?_ ?_);exact of_decide_eq_true rfl) | ((with_reducible refine chk_of ?_ ?_);rfl) | (with_reducible first|apply asI_of|apply asB_of|apply asP_of|apply asSl_of|apply asAggV_of|apply asTupV_of|apply asCons_of|apply asNil_of|apply isNil_n|apply isNil_i|apply nilC_i|apply nilCU_i|apply nilCU_f|apply mthC_i) | ((with_reducible refine And.intro ?_ ?_);rfl) | ((with_reducible apply exAnd);rfl))
  ((with_reducible apply St.al); assumption; intro e1 g_ S_)
  repeat (first | ((with_reducible first|apply St.rI|apply St.rB|apply St.rP|apply St.rSl|apply St.rV|apply St.rM|apply St.rS|apply St.rN|apply St.ckA);assumption;(first|exact i0|exact i1|exact i2|exact i3|exact i4|exact i5|exact i6|exact i7|exact i8|exact i9|exact i10|exact i11|exact i12|exact i13|exact i14|exact i15);(first|rfl|exact Nat.le_of_ble_eq_true rfl)) | with_reducible refine der_of ?_ | ((with_reducible refine br_t ?_ ?_);rfl) | ((with_reducible refine br_f ?_ ?_);rfl) | ((with_reducible refine br_t ?_ ?_);assumption) | ((with_reducible refine br_f ?_ ?_);assumption) | ((with_reducible first|apply St.wrL|apply St.wr);assumption;(first|exact i0|exact i1|exact i2|exact i3|exact i4|exact i5|exact i6|exact i7|exact i8|exact i9|exact i10|exact i11|exact i12|exact i13|exact i14|exact i15);(first|exact Nat.le_of_ble_eq_true rfl|rfl);intro g_ S_;simp only [Ptr.add, List.set, splice, List.take, List.drop, List.nil_append, List.append_nil, List.cons_append, List.length_cons, List.length_nil, Nat.zero_add, Nat.add_zero, Nat.reduceAdd, Nat.reduceMul, Nat.mul_one, Int.toNat_zero, Int.toNat_one, Int.reduceToNat] at S_) | ((with_reducible refine ix_of ?_ ?_ ?_);exact of_decide_eq_true rfl;exact of_decide_eq_true rfl) | ((with_reducible first|refine nz_of ?_ ?_|refine nneg_of ?_ ?_);exact of_decide_eq_true rfl) | ((with_reducible refine chk_of ?_ ?_);rfl) | (with_reducible first|apply asI_of|apply asB_of|apply asP_of|apply asSl_of|apply asAggV_of|apply asTupV_of|apply asCons_of|apply asNil_of|apply isNil_n|apply isNil_i|apply nilC_i|apply nilCU_i|apply nilCU_f|apply mthC_i) | ((with_reducible refine And.intro ?_ ?_);rfl) | ((with_reducible apply exAnd);rfl))
  refine app_nil S_ rfl rfl (by decide) (fun cb c rest mk' g2 S2 hc hr => ?_)
  clear S_
  repeat (first | ((with_reducible first|apply St.rI|apply St.rB|apply St.rP|apply St.rSl|apply St.rV|apply St.rM|apply St.rS|apply St.rN|apply St.ckA);assumption;(first|exact i0|exact i1|exact i2|exact i3|exact i4|exact i5|exact i6|exact i7|exact i8|exact i9|exact i10|exact i11|exact i12|exact i13|exact i14|exact i15);(first|rfl|exact Nat.le_of_ble_eq_true rfl)) | with_reducible refine der_of ?_ | ((with_reducible refine br_t ?_ ?_);rfl) | ((with_reducible refine br_f ?_ ?_);rfl) | ((with_reducible refine br_t ?_ ?_);assumption) | ((with_reducible refine br_f ?_ ?_);assumption) | ((with_reducible first|apply St.wrL|apply St.wr);assumption;(first|exact i0|exact i1|exact i2|exact i3|exact i4|exact i5|exact i6|exact i7|exact i8|exact i9|exact i10|exact i11|exact i12|exact i13|exact i14|exact i15);(first|exact Nat.le_of_ble_eq_true rfl|rfl);intro g_ S_;simp only [Ptr.add, List.set, splice, List.take, List.drop, List.nil_append, List.append_nil, List.cons_append, List.length_cons, List.length_nil, Nat.zero_add, Nat.add_zero, Nat.reduceAdd, Nat.reduceMul, Nat.mul_one, Int.toNat_zero, Int.toNat_one, Int.reduceToNat] at S_) | ((with_reducible refine ix_of ?_ ?_ ?_);exact of_decide_eq_true rfl;exact of_decide_eq_true rfl) | ((with_reducible first|refine nz_of ?_ ?_|refine nneg_of ?_ ?_);exact of_decide_eq_true rfl) | ((with_reducible refine chk_of ?_ ?_);rfl) | (with_reducible first|apply asI_of|apply asB_of|apply asP_of|apply asSl_of|apply asAggV_of|apply asTupV_of|apply asCons_of|apply asNil_of|apply isNil_n|apply isNil_i|apply nilC_i|apply nilCU_i|apply nilCU_f|apply mthC_i) | ((with_reducible refine And.intro ?_ ?_);rfl) | ((with_reducible apply exAnd);rfl))
  have et : ps.take 1 = [p] := by rw [List.take_one, List.head?_eq_getElem?, hp]; rfl
  have e3 : ([V.int .u64 p.a, V.int .i64 p.l, V.bool p.w] : List V) = pcells (ps.take 1) := by rw [et]; rfl
  by_cases e : 0 + 1 < ps.length
  · rw [decide_eq_true e]
    repeat (first | ((with_reducible first|apply St.rI|apply St.rB|apply St.rP|apply St.rSl|apply St.rV|apply St.rM|apply St.rS|apply St.rN|apply St.ckA);assumption;(first|exact i0|exact i1|exact i2|exact i3|exact i4|exact i5|exact i6|exact i7|exact i8|exact i9|exact i10|exact i11|exact i12|exact i13|exact i14|exact i15);(first|rfl|exact Nat.le_of_ble_eq_true rfl)) | with_reducible refine der_of ?_ | ((with_reducible refine br_t ?_ ?_);rfl) | ((with_reducible refine br_f ?_ ?_);rfl) | ((with_reducible refine br_t ?_ ?_);assumption) | ((with_reducible refine br_f ?_ ?_);assumption) | ((with_reducible first|apply St.wrL|apply St.wr);assumption;(first|exact i0|exact i1|exact i2|exact i3|exact i4|exact i5|exact i6|exact i7|exact i8|exact i9|exact i10|exact i11|exact i12|exact i13|exact i14|exact i15);(first|exact Nat.le_of_ble_eq_true rfl|rfl);intro g_ S_;simp only [Ptr.add, List.set, splice, List.take, List.drop, List.nil_append, List.append_nil, List.cons_append, List.length_cons, List.length_nil, Nat.zero_add, Nat.add_zero, Nat.reduceAdd, Nat.reduceMul, Nat.mul_one, Int.toNat_zero, Int.toNat_one, Int.reduceToNat] at S_) | ((with_reducible refine ix_of ?_ ?_ ?_);exact of_decide_eq_true rfl;exact of_decide_eq_true rfl) | ((with_reducible first|refine nz_of ?_ ?_|refine nneg_of ?_ ?_);exact of_decide_eq_true rfl) | ((with_reducible refine chk_of ?_ ?_);rfl) | (with_reducible first|apply asI_of|apply asB_of|apply asP_of|apply asSl_of|apply asAggV_of|apply asTupV_of|apply asCons_of|apply asNil_of|apply isNil_n|apply isNil_i|apply nilC_i|apply nilCU_i|apply nilCU_f|apply mthC_i) | ((with_reducible refine And.intro ?_ ?_);rfl) | ((with_reducible apply exAnd);rfl))
    rw [show IntKind.u64.wrap (0 + 1) = 1 by decide]
    refine key (ps.length - 1) 1 c1 cb c rest mk' _ (by omega) (by decide) (by omega) ?_ hc hr
    rw [← e3]
    exact St.pick S_ [0, 3, 4, 5, 6, 7, 8] (by decide) rfl
  · rw [decide_eq_false e]
    repeat (first | ((with_reducible first|apply St.rI|apply St.rB|apply St.rP|apply St.rSl|apply St.rV|apply St.rM|apply St.rS|apply St.rN|apply St.ckA);assumption;(first|exact i0|exact i1|exact i2|exact i3|exact i4|exact i5|exact i6|exact i7|exact i8|exact i9|exact i10|exact i11|exact i12|exact i13|exact i14|exact i15);(first|rfl|exact Nat.le_of_ble_eq_true rfl)) | with_reducible refine der_of ?_ | ((with_reducible refine br_t ?_ ?_);rfl) | ((with_reducible refine br_f ?_ ?_);rfl) | ((with_reducible refine br_t ?_ ?_);assumption) | ((with_reducible refine br_f ?_ ?_);assumption) | ((with_reducible first|apply St.wrL|apply St.wr);assumption;(first|exact i0|exact i1|exact i2|exact i3|exact i4|exact i5|exact i6|exact i7|exact i8|exact i9|exact i10|exact i11|exact i12|exact i13|exact i14|exact i15);(first|exact Nat.le_of_ble_eq_true rfl|rfl);intro g_ S_;simp only [Ptr.add, List.set, splice, List.take, List.drop, List.nil_append, List.append_nil, List.cons_append, List.length_cons, List.length_nil, Nat.zero_add, Nat.add_zero, Nat.reduceAdd, Nat.reduceMul, Nat.mul_one, Int.toNat_zero, Int.toNat_one, Int.reduceToNat] at S_) | ((with_reducible refine ix_of ?_ ?_ ?_);exact of_decide_eq_true rfl;exact of_decide_eq_true rfl) | ((with_reducible first|refine nz_of ?_ ?_|refine nneg_of ?_ ?_);exact of_decide_eq_true rfl) | ((with_reducible refine chk_of ?_ ?_);rfl) | (with_reducible first|apply asI_of|apply asB_of|apply asP_of|apply asSl_of|apply asAggV_of|apply asTupV_of|apply asCons_of|apply asNil_of|apply isNil_n|apply isNil_i|apply nilC_i|apply nilCU_i|apply nilCU_f|apply mthC_i) | ((with_reducible refine And.intro ?_ ?_);rfl) | ((with_reducible apply exAnd);rfl))
    have e4 : 1 = ps.length := by omega
    have e5 : pcells ps = [V.int .u64 p.a, V.int .i64 p.l, V.bool p.w] := by rw [e3, e4, List.take_length]
    have hq1 := hq cb c rest mk' _ (by rw [e5]; exact St.pick S_ [0, 4, 5, 6, 7, 8] (by decide) rfl)
    rw [← e4] at hq1
    exact hq1

end
end Go.Back

/- A chain of any parts: next, told, and what it asks for where it may not be. -/
namespace Go.Back
open Go.Lift Go.Fn Go.Mem Go.Frames

/-- A chain that may be taken. -/
structure PsOk (ps : List Pt) : Prop where
  n : 1 ≤ ps.length ∧ ps.length ≤ 8
  ok : ∀ p, p ∈ ps → PtOk p
  wr : ∀ (i : Nat) p q, ps[i]? = some p → ps[i + 1]? = some q → p.w = true → q.w = true

section
variable {U U' : Ifc} {x : Nat → Int} {h0 h : Heap} {W : Nat → Prop} {L : List (Nat × HO)}

theorem next_gen (hu : GU U U') (w : Wid U' h0 x) (hw : ¬ W (U'.glob 1)) (hk8 : knownB x 8 = true) {rg gb pm bm base : Nat} {bs : List UInt8} {mk : Bool} {m : Nat → Int} {t : Nat} {gv : Int} {ps : List Pt} (M : MemIs bs base m) (hb : base + 16 ≤ 40) (ht : t ≤ 1000) {cnt : Int} (hcnt : m 32 = cnt) (h1 : (t : Int) < cnt ∧ cnt ≤ t + 8) (hhead : m (33 + t % 8) = 0) (P : PsOk ps) (D : Desc m ps ps.length)
    (S : St h0 W [(rg, .cells (ringC ((t : Nat) : Int) gv false) false), (gb, .cells (flatC pm (base : Int)) false), (pm, .cells (memC bm) false), (bm, .cells (strCells bs) mk)] h)
    {Q : Int → Sl → Bool → Int → Heap → Prop} (hq : ∀ cb c rest mk' h', St h0 W [(cb, .cells (pcells ps ++ rest) mk'), (rg, .cells (ringC ((t + 1 : Nat) : Int) gv false) false), (gb, .cells (flatC pm (base : Int)) false), (pm, .cells (memC bm) false), (bm, .cells (strCells bs) mk)] h' → Q 0 ⟨some ⟨cb, 0⟩, ps.length, c⟩ true 0 h') : zf41 U (some ⟨rg, 0⟩) (.iface 4 (.ptr (some ⟨gb, 0⟩))) Q h := by
  unfold zf41
  ((with_reducible apply St.al); assumption; intro n1 g_ S_)
  unfold zf44
  repeat (first | ((with_reducible first|apply St.rI|apply St.rB|apply St.rP|apply St.rSl|apply St.rV|apply St.rM|apply St.rS|apply St.rN|apply St.ckA);assumption;(first|exact i0|exact i1|exact i2|exact i3|exact i4|exact i5|exact i6|exact i7|exact i8|exact i9|exact i10|exact i11|exact i12|exact i13|exact i14|exact i15);(first|rfl|exact Nat.le_of_ble_eq_true rfl)) | with_reducible refine der_of ?_ | ((with_reducible refine br_t ?_ ?_);rfl) | ((with_reducible refine br_f ?_ ?_);rfl) | ((with_reducible refine br_t ?_ ?_);assumption) | ((with_reducible refine br_f ?_ ?_);assumption) | ((with_reducible first|apply St.wrL|apply St.wr);assumption;(first|exact i0|exact i1|exact i2|exact i3|exact i4|exact i5|exact i6|exact i7|exact i8|exact i9|exact i10|exact i11|exact i12|exact i13|exact i14|exact i15);(first|exact Nat.le_of_ble_eq_true rfl|rfl);intro g_ S_;simp only [Ptr.add, List.set, splice, List.take, List.drop, List.nil_append, List.append_nil, List.cons_append, List.length_cons, List.length_nil, Nat.zero_add, Nat.add_zero, Nat.reduceAdd, Nat.reduceMul, Nat.mul_one, Int.toNat_zero, Int.toNat_one, Int.reduceToNat] at S_) | ((with_reducible refine ix_of ?_ ?_ ?_);exact of_decide_eq_true rfl;exact of_decide_eq_true rfl) | ((with_reducible first|refine nz_of ?_ ?_|refine nneg_of ?_ ?_);exact of_decide_eq_true rfl) | ((with_reducible refine chk_of ?_ ?_);rfl) | (with_reducible first|apply asI_of|apply asB_of|apply asP_of|apply asSl_of|apply asAggV_of|apply asTupV_of|apply asCons_of|apply asNil_of|apply isNil_n|apply isNil_i|apply nilC_i|apply nilCU_i|apply nilCU_f|apply mthC_i) | ((with_reducible refine And.intro ?_ ?_);rfl) | ((with_reducible apply exAnd);rfl))
  ((with_reducible apply St.al); assumption; intro rd g_ S_)
  repeat (first | ((with_reducible first|apply St.rI|apply St.rB|apply St.rP|apply St.rSl|apply St.rV|apply St.rM|apply St.rS|apply St.rN|apply St.ckA);assumption;(first|exact i0|exact i1|exact i2|exact i3|exact i4|exact i5|exact i6|exact i7|exact i8|exact i9|exact i10|exact i11|exact i12|exact i13|exact i14|exact i15);(first|rfl|exact Nat.le_of_ble_eq_true rfl)) | with_reducible refine der_of ?_ | ((with_reducible refine br_t ?_ ?_);rfl) | ((with_reducible refine br_f ?_ ?_);rfl) | ((with_reducible refine br_t ?_ ?_);assumption) | ((with_reducible refine br_f ?_ ?_);assumption) | ((with_reducible first|apply St.wrL|apply St.wr);assumption;(first|exact i0|exact i1|exact i2|exact i3|exact i4|exact i5|exact i6|exact i7|exact i8|exact i9|exact i10|exact i11|exact i12|exact i13|exact i14|exact i15);(first|exact Nat.le_of_ble_eq_true rfl|rfl);intro g_ S_;simp only [Ptr.add, List.set, splice, List.take, List.drop, List.nil_append, List.append_nil, List.cons_append, List.length_cons, List.length_nil, Nat.zero_add, Nat.add_zero, Nat.reduceAdd, Nat.reduceMul, Nat.mul_one, Int.toNat_zero, Int.toNat_one, Int.reduceToNat] at S_) | ((with_reducible refine ix_of ?_ ?_ ?_);exact of_decide_eq_true rfl;exact of_decide_eq_true rfl) | ((with_reducible first|refine nz_of ?_ ?_|refine nneg_of ?_ ?_);exact of_decide_eq_true rfl) | ((with_reducible refine chk_of ?_ ?_);rfl) | (with_reducible first|apply asI_of|apply asB_of|apply asP_of|apply asSl_of|apply asAggV_of|apply asTupV_of|apply asCons_of|apply asNil_of|apply isNil_n|apply isNil_i|apply nilC_i|apply nilCU_i|apply nilCU_f|apply mthC_i) | ((with_reducible refine And.intro ?_ ?_);rfl) | ((with_reducible apply exAnd);rfl))
  refine number (r := 0) (g := 3) (p := 4) (b := 5) (k := 32) hu w hw hk8 S_ rfl rfl rfl rfl (by decide) M hb (by decide) (by decide) (fun g1 S1 => ?_)
  rw [hcnt]
  clear S_
  unfold zf41.j7
  repeat (first | ((with_reducible first|apply St.rI|apply St.rB|apply St.rP|apply St.rSl|apply St.rV|apply St.rM|apply St.rS|apply St.rN|apply St.ckA);assumption;(first|exact i0|exact i1|exact i2|exact i3|exact i4|exact i5|exact i6|exact i7|exact i8|exact i9|exact i10|exact i11|exact i12|exact i13|exact i14|exact i15);(first|rfl|exact Nat.le_of_ble_eq_true rfl)) | with_reducible refine der_of ?_ | ((with_reducible refine br_t ?_ ?_);rfl) | ((with_reducible refine br_f ?_ ?_);rfl) | ((with_reducible refine br_t ?_ ?_);assumption) | ((with_reducible refine br_f ?_ ?_);assumption) | ((with_reducible first|apply St.wrL|apply St.wr);assumption;(first|exact i0|exact i1|exact i2|exact i3|exact i4|exact i5|exact i6|exact i7|exact i8|exact i9|exact i10|exact i11|exact i12|exact i13|exact i14|exact i15);(first|exact Nat.le_of_ble_eq_true rfl|rfl);intro g_ S_;simp only [Ptr.add, List.set, splice, List.take, List.drop, List.nil_append, List.append_nil, List.cons_append, List.length_cons, List.length_nil, Nat.zero_add, Nat.add_zero, Nat.reduceAdd, Nat.reduceMul, Nat.mul_one, Int.toNat_zero, Int.toNat_one, Int.reduceToNat] at S_) | ((with_reducible refine ix_of ?_ ?_ ?_);exact of_decide_eq_true rfl;exact of_decide_eq_true rfl) | ((with_reducible first|refine nz_of ?_ ?_|refine nneg_of ?_ ?_);exact of_decide_eq_true rfl) | ((with_reducible refine chk_of ?_ ?_);rfl) | (with_reducible first|apply asI_of|apply asB_of|apply asP_of|apply asSl_of|apply asAggV_of|apply asTupV_of|apply asCons_of|apply asNil_of|apply isNil_n|apply isNil_i|apply nilC_i|apply nilCU_i|apply nilCU_f|apply mthC_i) | ((with_reducible refine And.intro ?_ ?_);rfl) | ((with_reducible apply exAnd);rfl))
  refine br_f (by simp; omega) ?_
  unfold zf41.j9
  repeat (first | ((with_reducible first|apply St.rI|apply St.rB|apply St.rP|apply St.rSl|apply St.rV|apply St.rM|apply St.rS|apply St.rN|apply St.ckA);assumption;(first|exact i0|exact i1|exact i2|exact i3|exact i4|exact i5|exact i6|exact i7|exact i8|exact i9|exact i10|exact i11|exact i12|exact i13|exact i14|exact i15);(first|rfl|exact Nat.le_of_ble_eq_true rfl)) | with_reducible refine der_of ?_ | ((with_reducible refine br_t ?_ ?_);rfl) | ((with_reducible refine br_f ?_ ?_);rfl) | ((with_reducible refine br_t ?_ ?_);assumption) | ((with_reducible refine br_f ?_ ?_);assumption) | ((with_reducible first|apply St.wrL|apply St.wr);assumption;(first|exact i0|exact i1|exact i2|exact i3|exact i4|exact i5|exact i6|exact i7|exact i8|exact i9|exact i10|exact i11|exact i12|exact i13|exact i14|exact i15);(first|exact Nat.le_of_ble_eq_true rfl|rfl);intro g_ S_;simp only [Ptr.add, List.set, splice, List.take, List.drop, List.nil_append, List.append_nil, List.cons_append, List.length_cons, List.length_nil, Nat.zero_add, Nat.add_zero, Nat.reduceAdd, Nat.reduceMul, Nat.mul_one, Int.toNat_zero, Int.toNat_one, Int.reduceToNat] at S_) | ((with_reducible refine ix_of ?_ ?_ ?_);exact of_decide_eq_true rfl;exact of_decide_eq_true rfl) | ((with_reducible first|refine nz_of ?_ ?_|refine nneg_of ?_ ?_);exact of_decide_eq_true rfl) | ((with_reducible refine chk_of ?_ ?_);rfl) | (with_reducible first|apply asI_of|apply asB_of|apply asP_of|apply asSl_of|apply asAggV_of|apply asTupV_of|apply asCons_of|apply asNil_of|apply isNil_n|apply isNil_i|apply nilC_i|apply nilCU_i|apply nilCU_f|apply mthC_i) | ((with_reducible refine And.intro ?_ ?_);rfl) | ((with_reducible apply exAnd);rfl))
  refine br_t (decide_eq_true (by rw [wrapu64] <;> omega)) ?_
  repeat (first | ((with_reducible first|apply St.rI|apply St.rB|apply St.rP|apply St.rSl|apply St.rV|apply St.rM|apply St.rS|apply St.rN|apply St.ckA);assumption;(first|exact i0|exact i1|exact i2|exact i3|exact i4|exact i5|exact i6|exact i7|exact i8|exact i9|exact i10|exact i11|exact i12|exact i13|exact i14|exact i15);(first|rfl|exact Nat.le_of_ble_eq_true rfl)) | with_reducible refine der_of ?_ | ((with_reducible refine br_t ?_ ?_);rfl) | ((with_reducible refine br_f ?_ ?_);rfl) | ((with_reducible refine br_t ?_ ?_);assumption) | ((with_reducible refine br_f ?_ ?_);assumption) | ((with_reducible first|apply St.wrL|apply St.wr);assumption;(first|exact i0|exact i1|exact i2|exact i3|exact i4|exact i5|exact i6|exact i7|exact i8|exact i9|exact i10|exact i11|exact i12|exact i13|exact i14|exact i15);(first|exact Nat.le_of_ble_eq_true rfl|rfl);intro g_ S_;simp only [Ptr.add, List.set, splice, List.take, List.drop, List.nil_append, List.append_nil, List.cons_append, List.length_cons, List.length_nil, Nat.zero_add, Nat.add_zero, Nat.reduceAdd, Nat.reduceMul, Nat.mul_one, Int.toNat_zero, Int.toNat_one, Int.reduceToNat] at S_) | ((with_reducible refine ix_of ?_ ?_ ?_);exact of_decide_eq_true rfl;exact of_decide_eq_true rfl) | ((with_reducible first|refine nz_of ?_ ?_|refine nneg_of ?_ ?_);exact of_decide_eq_true rfl) | ((with_reducible refine chk_of ?_ ?_);rfl) | (with_reducible first|apply asI_of|apply asB_of|apply asP_of|apply asSl_of|apply asAggV_of|apply asTupV_of|apply asCons_of|apply asNil_of|apply isNil_n|apply isNil_i|apply nilC_i|apply nilCU_i|apply nilCU_f|apply mthC_i) | ((with_reducible refine And.intro ?_ ?_);rfl) | ((with_reducible apply exAnd);rfl))
  have ead : IntKind.u64.wrap (IntKind.u64.wrap (0 + IntKind.u64.wrap (32 * 8)) + IntKind.u64.wrap (8 * IntKind.u64.wrap (1 + (t : Int).tmod 8))) = ((8 * (33 + t % 8) : Nat) : Int) := by
    rw [Int.tmod_eq_emod_of_nonneg (by omega), wrapu64 (x := 1 + (t : Int) % 8), wrapu64 (x := 8 * (1 + (t : Int) % 8)), show IntKind.u64.wrap (0 + IntKind.u64.wrap (32 * 8)) = 256 by decide, wrapu64] <;> omega
  refine number (r := 0) (g := 3) (p := 4) (b := 5) (k := 33 + t % 8) hu w hw hk8 S1 rfl rfl rfl rfl (by decide) M hb (by omega) ead (fun g2 S2 => ?_)
  rw [hhead]
  clear S1
  unfold zf41.j11
  repeat (first | ((with_reducible first|apply St.rI|apply St.rB|apply St.rP|apply St.rSl|apply St.rV|apply St.rM|apply St.rS|apply St.rN|apply St.ckA);assumption;(first|exact i0|exact i1|exact i2|exact i3|exact i4|exact i5|exact i6|exact i7|exact i8|exact i9|exact i10|exact i11|exact i12|exact i13|exact i14|exact i15);(first|rfl|exact Nat.le_of_ble_eq_true rfl)) | with_reducible refine der_of ?_ | ((with_reducible refine br_t ?_ ?_);rfl) | ((with_reducible refine br_f ?_ ?_);rfl) | ((with_reducible refine br_t ?_ ?_);assumption) | ((with_reducible refine br_f ?_ ?_);assumption) | ((with_reducible first|apply St.wrL|apply St.wr);assumption;(first|exact i0|exact i1|exact i2|exact i3|exact i4|exact i5|exact i6|exact i7|exact i8|exact i9|exact i10|exact i11|exact i12|exact i13|exact i14|exact i15);(first|exact Nat.le_of_ble_eq_true rfl|rfl);intro g_ S_;simp only [Ptr.add, List.set, splice, List.take, List.drop, List.nil_append, List.append_nil, List.cons_append, List.length_cons, List.length_nil, Nat.zero_add, Nat.add_zero, Nat.reduceAdd, Nat.reduceMul, Nat.mul_one, Int.toNat_zero, Int.toNat_one, Int.reduceToNat] at S_) | ((with_reducible refine ix_of ?_ ?_ ?_);exact of_decide_eq_true rfl;exact of_decide_eq_true rfl) | ((with_reducible first|refine nz_of ?_ ?_|refine nneg_of ?_ ?_);exact of_decide_eq_true rfl) | ((with_reducible refine chk_of ?_ ?_);rfl) | (with_reducible first|apply asI_of|apply asB_of|apply asP_of|apply asSl_of|apply asAggV_of|apply asTupV_of|apply asCons_of|apply asNil_of|apply isNil_n|apply isNil_i|apply nilC_i|apply nilCU_i|apply nilCU_f|apply mthC_i) | ((with_reducible refine And.intro ?_ ?_);rfl) | ((with_reducible apply exAnd);rfl))
  have SP : St h0 W ([(rd, .cells (rdC gb) false), (rg, .cells (ringC ((t : Nat) : Int) gv false) false), (gb, .cells (flatC pm (base : Int)) false), (pm, .cells (memC bm) false), (bm, .cells (strCells bs) mk)] ++ [(n1, .cells [.int .i64 0, .sl ⟨none, 0, 0⟩] false)]) g2 := St.pick S2 [0, 2, 3, 4, 5, 1] (by decide) rfl
  clear S2
  refine chain_gen hu (w.keeps SP.keeps hw) (SP.notA w.known hw) hk8 M hb P.n P.ok P.wr D SP.head (fun cb c rest mk' g3 S3 => ?_)
  have S4 := St.frame S3 SP
  simp only [List.cons_append, List.nil_append] at S4
  clear S3 SP
  ((with_reducible apply St.al); assumption; intro n3 g_ S_)
  repeat (first | ((with_reducible first|apply St.rI|apply St.rB|apply St.rP|apply St.rSl|apply St.rV|apply St.rM|apply St.rS|apply St.rN|apply St.ckA);assumption;(first|exact i0|exact i1|exact i2|exact i3|exact i4|exact i5|exact i6|exact i7|exact i8|exact i9|exact i10|exact i11|exact i12|exact i13|exact i14|exact i15);(first|rfl|exact Nat.le_of_ble_eq_true rfl)) | with_reducible refine der_of ?_ | ((with_reducible refine br_t ?_ ?_);rfl) | ((with_reducible refine br_f ?_ ?_);rfl) | ((with_reducible refine br_t ?_ ?_);assumption) | ((with_reducible refine br_f ?_ ?_);assumption) | ((with_reducible first|apply St.wrL|apply St.wr);assumption;(first|exact i0|exact i1|exact i2|exact i3|exact i4|exact i5|exact i6|exact i7|exact i8|exact i9|exact i10|exact i11|exact i12|exact i13|exact i14|exact i15);(first|exact Nat.le_of_ble_eq_true rfl|rfl);intro g_ S_;simp only [Ptr.add, List.set, splice, List.take, List.drop, List.nil_append, List.append_nil, List.cons_append, List.length_cons, List.length_nil, Nat.zero_add, Nat.add_zero, Nat.reduceAdd, Nat.reduceMul, Nat.mul_one, Int.toNat_zero, Int.toNat_one, Int.reduceToNat] at S_) | ((with_reducible refine ix_of ?_ ?_ ?_);exact of_decide_eq_true rfl;exact of_decide_eq_true rfl) | ((with_reducible first|refine nz_of ?_ ?_|refine nneg_of ?_ ?_);exact of_decide_eq_true rfl) | ((with_reducible refine chk_of ?_ ?_);rfl) | (with_reducible first|apply asI_of|apply asB_of|apply asP_of|apply asSl_of|apply asAggV_of|apply asTupV_of|apply asCons_of|apply asNil_of|apply isNil_n|apply isNil_i|apply nilC_i|apply nilCU_i|apply nilCU_f|apply mthC_i) | ((with_reducible refine And.intro ?_ ?_);rfl) | ((with_reducible apply exAnd);rfl))
  have ew : IntKind.u64.wrap ((t : Int) + 1) = ((t + 1 : Nat) : Int) := by rw [wrapu64] <;> omega
  rw [ew] at S_
  exact hq cb c rest mk' _ (St.pick S_ [1, 3, 4, 5, 6] (by decide) rfl)

theorem gput2 {gb pm bm g p b base k : Nat} {bs xs : List UInt8} {mk : Bool} {m : Nat → Int} {s : Sl} (S : St h0 W L h)
    (hg : L[g]? = some (gb, .cells (flatC pm (base : Int)) false)) (hp : L[p]? = some (pm, .cells (memC bm) false)) (hm : L[b]? = some (bm, .cells (strCells bs) mk)) (hpb : p ≠ b) (M : MemIs bs base m) (hb : base + 16 ≤ 40) (H : Held h s 1 (strCells xs)) (hk : k + xs.length ≤ 4096) {a : Int} (ea : a = (k : Int))
    {Q : Int → Heap → Prop} (hq : ∀ mk' h', St h0 W (L.set b (bm, .cells (strCells (Go.Mem.put bs (256 * base + k) xs)) mk')) h' → Q 0 h') : zf35 (some ⟨gb, 0⟩) a s Q h := by
  subst ea
  have e16 : IntKind.u64.wrap (IntKind.i64.wrap (256 * 16)) = 4096 := by decide
  have hs : s.len = xs.length := by have := H.len; rw [strCells_length] at this; omega
  unfold zf35
  rw [der_some]
  refine S.rI hg rfl (br_f (decide_eq_false (by rw [e16]; omega)) ?_)
  rw [der_some]
  refine S.rI hg rfl (br_f (decide_eq_false (by rw [e16, wrapu64 (x := ((s.len : Nat) : Int)), wrapu64] <;> omega)) ?_)
  rw [der_some]
  refine S.rP hg rfl ?_
  rw [der_some]
  refine S.rI hg rfl ?_
  have e : IntKind.u64.wrap ((k : Int) + IntKind.u64.wrap (IntKind.i64.wrap (256 * (base : Int)))) = ((256 * base + k : Nat) : Int) := by
    rw [wrap64 (x := 256 * (base : Int)), wrapu64 (x := 256 * (base : Int)), wrapu64] <;> omega
  rw [e]
  have hl := M.len
  refine Mem.Put_of (mrep S hp hm hpb M.len) (by omega) (by omega) H (by omega) (fun hn => ?_) (fun _ h1 R1 k1 => ?_)
  · exfalso
    rw [hl] at hn
    simp [lies] at hn
    omega
  · rw [Int.toNat_natCast] at R1
    obtain ⟨mk', harr⟩ := R1.arr
    exact hq mk' h1 (S.put hm harr k1)

/-- The byte at an address of the guest's. -/
def byteAt (bs : List UInt8) (base a : Nat) : Int := valN 1 bs ((256 * base + a : Nat) : Int)

theorem byteAt_eq {bs : List UInt8} {base a : Nat} : byteAt bs base a = (((bs.drop (256 * base + a)).headD 0).toNat : Int) := by
  unfold byteAt valN sx
  rw [if_neg (by decide), Int.toNat_natCast]
  cases bs.drop (256 * base + a) with
  | nil => rfl
  | cons b l => simp [byteSum]

theorem byteSum_inj : ∀ (l1 l2 : List UInt8), l1.length = l2.length → byteSum l1 = byteSum l2 → l1 = l2
  | [], [], _, _ => rfl
  | [], _ :: _, h, _ => by simp at h
  | _ :: _, [], h, _ => by simp at h
  | a :: l1, b :: l2, h, e => by
    simp only [byteSum] at e
    have ha := a.toNat_lt
    have hb := b.toNat_lt
    have h1 : a = b := UInt8.toNat_inj.1 (by omega)
    subst h1
    rw [byteSum_inj l1 l2 (by simpa using h) (by omega)]

/-- Where a word is the same, its bytes are. -/
theorem byteAt_word {bs bs' : List UInt8} {base : Nat} {m m' : Nat → Int} (M : MemIs bs base m) (M' : MemIs bs' base m') (hb : base + 16 ≤ 40) {a : Nat} (ha : a < 4096) (he : m' (a / 8) = m (a / 8)) : byteAt bs' base a = byteAt bs base a := by
  have h1 := M.word (a / 8) (by omega)
  have h2 := M'.word (a / 8) (by omega)
  rw [he, ← h1] at h2
  unfold valN sx at h2
  rw [if_neg (by decide), if_neg (by decide), Int.toNat_natCast] at h2
  have hl := M.len
  have hl' := M'.len
  have e := byteSum_inj _ _ (by simp; omega) (Int.ofNat_inj.1 h2)
  rw [byteAt_eq, byteAt_eq, List.headD_eq_head?_getD, List.headD_eq_head?_getD, List.head?_drop, List.head?_drop]
  have g := congrArg (fun l => l[a % 8]?) e
  rw [List.getElem?_take_of_lt (by omega), List.getElem?_take_of_lt (by omega), List.getElem?_drop, List.getElem?_drop, show 256 * base + 8 * (a / 8) + a % 8 = 256 * base + a by omega] at g
  rw [g]

end
end Go.Back

/- The controller's methods, each by what it answers and leaves. -/
import Derived.Test.YtlnigofbpnehlaaRepVintc
import Derived.Test.YtlnigofbpnehlaaFa
import Derived.Test.YtlnigofbpnehlaaNumKit
set_option linter.unusedSimpArgs false
set_option linter.unusedVariables false
set_option maxRecDepth 100000
namespace Go.Vintc
open Go.Lift Go.Fn

def isSource (a : Int) : Bool := decide (1 ≤ a) && decide (a ≤ 16)
def isLevel (a : Int) : Bool := decide (0 ≤ a) && decide (a ≤ 7)
def Intc.has (s : Intc) (v : Int) : Bool := decide (0 ≤ v) && decide (v < s.n)

structure Intc.Ok (s : Intc) : Prop where
  lo : 1 ≤ s.n
  hi : s.n ≤ 4

theorem isSource_eq (a : Int) (Q : Bool → Heap → Prop) (h : Heap) : vintc_isSource a Q h = Q (isSource a) h := by
  unfold vintc_isSource isSource
  by_cases h1 : 1 ≤ a
  · simp [h1, br]
  · simp [h1, br]

theorem isLevel_eq (a : Int) (Q : Bool → Heap → Prop) (h : Heap) : vintc_isLevel a Q h = Q (isLevel a) h := by
  unfold vintc_isLevel isLevel
  by_cases h1 : 0 ≤ a
  · simp [h1, br]
  · simp [h1, br]

section
variable {p : Ptr} {s : Intc} {h : Heap}

theorem none_of (R : s.Rep p h) (k : s.Ok) {Q : Bool → Heap → Prop} (hq : Q false h) : vintc_Intc_none (some p) Q h := by
  unfold vintc_Intc_none
  refine R.rd_n ?_
  have : (s.n == 0) = false := by have := k.lo; simp; omega
  rw [this]; exact hq

theorem has_of (R : s.Rep p h) (k : s.Ok) {v : Int} {Q : Bool → Heap → Prop} (hq : Q (s.has v) h) : vintc_Intc_has (some p) v Q h := by
  unfold vintc_Intc_has
  refine none_of R k (br_if (fun _ => ?_) (fun h => by cases h))
  refine br_if (fun h1 => R.rd_n ?_) (fun h1 => ?_)
  · have : s.has v = decide (v < s.n) := by simp at h1; simp [Intc.has, h1]
    rw [← this]; exact hq
  · have : s.has v = false := by simp at h1; simp [Intc.has]; omega
    rw [← this]; exact hq

theorem wrong_of (R : s.Rep p h) (k : s.Ok) {r : Bool} {Q : Int → Heap → Prop} (hq : Q (if r then 0 else 2) h) : vintc_Intc_wrong (some p) r Q h := by
  unfold vintc_Intc_wrong
  refine none_of R k ?_
  cases r <;> exact hq

/-! ### what the calls do -/

def Intc.raise (s : Intc) (a : Int) : Intc := if isSource a then { s with sources_pending := fun i => if i = a.toNat then true else s.sources_pending i } else s

theorem Raise_of (R : s.Rep p h) (k : s.Ok) {a : Int} {Q : Int → Heap → Prop} (hq : ∀ h', (s.raise a).Rep p h' → Keeps (· = p.b) h h' → Q (if isSource a then 0 else 2) h') : vintc_Intc_Raise (some p) a Q h := by
  unfold vintc_Intc_Raise
  rw [isSource_eq]
  refine wrong_of R k ?_
  unfold Intc.raise at hq
  cases hs : isSource a
  · rw [hs] at hq; exact hq h R (Keeps.refl _ _)
  · rw [hs] at hq
    have hs : 1 ≤ a ∧ a ≤ 16 := by simpa [isSource] using hs
    simp only [br_true, br_false, der_some, if_true, if_false, beq_self_eq_true, bne_self_eq_false, Bool.false_eq_true, Bool.and_true, Bool.true_and, Bool.and_false, Bool.false_and, Bool.not_true, Bool.not_false, Option.isNone_some, Option.isNone_none]
    refine ix_of (by omega) (by omega) ?_
    exact R.wr_sources_pending (i := a.toNat) (by omega) hq

theorem isSource_iff {a : Int} : isSource a = true ↔ 1 ≤ a ∧ a ≤ 16 := by simp [isSource]
theorem isLevel_iff {a : Int} : isLevel a = true ↔ 0 ≤ a ∧ a ≤ 7 := by simp [isLevel]
theorem has_iff {v : Int} : s.has v = true ↔ 0 ≤ v ∧ v < s.n := by simp [Intc.has]

def Intc.enable (s : Intc) (v a : Int) (on : Bool) : Intc :=
  if s.has v && isSource a then { s with sources_enabled := fun i j => if i = a.toNat ∧ j = v.toNat then on else s.sources_enabled i j } else s

theorem Enable_of (R : s.Rep p h) (k : s.Ok) {v a : Int} {on : Bool} {Q : Int → Heap → Prop} (hq : ∀ h', (s.enable v a on).Rep p h' → Keeps (· = p.b) h h' → Q (if s.has v && isSource a then 0 else 2) h') : vintc_Intc_Enable (some p) v a on Q h := by
  unfold vintc_Intc_Enable
  refine has_of R k ?_
  unfold Intc.enable at hq
  cases hv : s.has v
  · rw [hv] at hq
    exact wrong_of R k (hq h R (Keeps.refl _ _))
  · rw [hv] at hq
    rw [br_true, isSource_eq]
    refine wrong_of R k ?_
    cases hs : isSource a
    · rw [hs] at hq; exact hq h R (Keeps.refl _ _)
    · rw [hs] at hq
      have hs := isSource_iff.1 hs
      have hv := has_iff.1 hv
      have := k.hi
      unfold vintc_Intc_Enable.j2
      simp only [br_true, br_false, der_some, if_true, if_false, beq_self_eq_true, bne_self_eq_false, Bool.false_eq_true, Bool.and_true, Bool.true_and, Bool.and_false, Bool.false_and, Bool.not_true, Bool.not_false, Option.isNone_some, Option.isNone_none]
      refine ix_of (by omega) (by omega) (ix_of (by omega) (by omega) ?_)
      exact R.wr_sources_enabled (i := a.toNat) (by omega) (j := v.toNat) (by omega) hq

def Intc.weigh (s : Intc) (a n : Int) : Intc := if isSource a && isLevel n then { s with sources_priority := fun i => if i = a.toNat then n else s.sources_priority i } else s

theorem Weigh_of (R : s.Rep p h) (k : s.Ok) {a n : Int} {Q : Int → Heap → Prop} (hq : ∀ h', (s.weigh a n).Rep p h' → Keeps (· = p.b) h h' → Q (if isSource a && isLevel n then 0 else 2) h') : vintc_Intc_Weigh (some p) a n Q h := by
  unfold vintc_Intc_Weigh
  rw [isSource_eq]
  unfold Intc.weigh at hq
  cases hs : isSource a
  · rw [hs] at hq
    exact wrong_of R k (hq h R (Keeps.refl _ _))
  · rw [hs] at hq
    rw [br_true, isLevel_eq]
    refine wrong_of R k ?_
    cases hl : isLevel n
    · rw [hl] at hq; exact hq h R (Keeps.refl _ _)
    · rw [hl] at hq
      have hs := isSource_iff.1 hs
      simp only [br_true, br_false, der_some, if_true, if_false, beq_self_eq_true, bne_self_eq_false, Bool.false_eq_true, Bool.and_true, Bool.true_and, Bool.and_false, Bool.false_and, Bool.not_true, Bool.not_false, Option.isNone_some, Option.isNone_none]
      refine ix_of (by omega) (by omega) ?_
      exact R.wr_sources_priority (i := a.toNat) (by omega) hq

def Intc.bar (s : Intc) (v n : Int) : Intc := if s.has v && isLevel n then { s with bars := fun i => if i = v.toNat then n else s.bars i } else s

theorem Bar_of (R : s.Rep p h) (k : s.Ok) {v n : Int} {Q : Int → Heap → Prop} (hq : ∀ h', (s.bar v n).Rep p h' → Keeps (· = p.b) h h' → Q (if s.has v && isLevel n then 0 else 2) h') : vintc_Intc_Bar (some p) v n Q h := by
  unfold vintc_Intc_Bar
  refine has_of R k ?_
  unfold Intc.bar at hq
  cases hv : s.has v
  · rw [hv] at hq
    exact wrong_of R k (hq h R (Keeps.refl _ _))
  · rw [hv] at hq
    rw [br_true, isLevel_eq]
    refine wrong_of R k ?_
    cases hl : isLevel n
    · rw [hl] at hq; exact hq h R (Keeps.refl _ _)
    · rw [hl] at hq
      have hv := has_iff.1 hv
      have := k.hi
      simp only [br_true, br_false, der_some, if_true, if_false, beq_self_eq_true, bne_self_eq_false, Bool.false_eq_true, Bool.and_true, Bool.true_and, Bool.and_false, Bool.false_and, Bool.not_true, Bool.not_false, Option.isNone_some, Option.isNone_none]
      refine ix_of (by omega) (by omega) ?_
      exact R.wr_bars (i := v.toNat) (by omega) hq

def Intc.poke (s : Intc) (v : Int) : Intc := if s.has v then { s with soft := fun i => if i = v.toNat then true else s.soft i } else s

theorem Poke_of (R : s.Rep p h) (k : s.Ok) {v : Int} {Q : Int → Heap → Prop} (hq : ∀ h', (s.poke v).Rep p h' → Keeps (· = p.b) h h' → Q (if s.has v then 0 else 2) h') : vintc_Intc_Poke (some p) v Q h := by
  unfold vintc_Intc_Poke
  refine has_of R k (wrong_of R k ?_)
  unfold Intc.poke at hq
  cases hv : s.has v
  · rw [hv] at hq
    exact hq h R (Keeps.refl _ _)
  · rw [hv] at hq
    have hv := has_iff.1 hv
    have := k.hi
    simp only [br_true, br_false, der_some, if_true, if_false, beq_self_eq_true, bne_self_eq_false, Bool.false_eq_true, Bool.and_true, Bool.true_and, Bool.and_false, Bool.false_and, Bool.not_true, Bool.not_false, Option.isNone_some, Option.isNone_none]
    refine ix_of (by omega) (by omega) ?_
    exact R.wr_soft (i := v.toNat) (by omega) hq

def Intc.soften (s : Intc) (v : Int) : Intc := if s.has v then { s with soft := fun i => if i = v.toNat then false else s.soft i } else s

theorem Soft_of (R : s.Rep p h) (k : s.Ok) {v : Int} {Q : Bool → Heap → Prop} (hq : ∀ h', (s.soften v).Rep p h' → Keeps (· = p.b) h h' → Q (s.has v && s.soft v.toNat) h') : vintc_Intc_Soft (some p) v Q h := by
  unfold vintc_Intc_Soft
  refine has_of R k ?_
  unfold Intc.soften at hq
  cases hv : s.has v
  · rw [hv] at hq
    exact hq h R (Keeps.refl _ _)
  · rw [hv] at hq
    have hv := has_iff.1 hv
    have := k.hi
    simp only [br_true, br_false, der_some, if_true, if_false, beq_self_eq_true, bne_self_eq_false, Bool.false_eq_true, Bool.and_true, Bool.true_and, Bool.and_false, Bool.false_and, Bool.not_true, Bool.not_false, Option.isNone_some, Option.isNone_none]
    refine ix_of (by omega) (by omega) ?_
    refine R.rd_soft (i := v.toNat) (by omega) ?_
    refine ix_of (by omega) (by omega) ?_
    exact R.wr_soft (i := v.toNat) (by omega) hq

/-! ### the first source -/

def Intc.may (s : Intc) (v : Nat) (i : Nat) : Bool := s.sources_pending i && s.sources_taken i == 0 && s.sources_enabled i v

/-- From source i on, m of them: the best so far, and its level. -/
def Intc.pick (s : Intc) (v : Nat) : Nat → Nat → Int → Int → Int
  | 0, _, best, _ => best
  | m + 1, i, best, level => if i ≠ 0 ∧ s.may v i = true ∧ level < s.sources_priority i then s.pick v m (i + 1) i (s.sources_priority i) else s.pick v m (i + 1) best level

def Intc.first (s : Intc) (v : Nat) : Int := s.pick v 17 0 0 (s.bars v)

def sel (v : Nat) (a b c d : Bool) : Bool := match v with | 0 => a | 1 => b | 2 => c | _ => d

theorem may_of {b9 : Bool} {t pr : Int} {e0 e1 e2 e3 : Bool} {b v : Nat} {h : Heap} (hv : v < 4) (ho : h.obj b = some (.cells [.int .i64 v] false)) {Q : Bool → Heap → Prop}
    (hq : ∀ h', Keeps none_ h h' → Q (b9 && t == 0 && sel v e0 e1 e2 e3) h') : vintc_Intc_first_c1 b9 t pr e0 e1 e2 e3 ⟨b, 0⟩ Q h := by
  unfold vintc_Intc_first_c1
  refine al_of (fun c h1 hc ho1 k1 => ?_)
  refine loc_B ho1 rfl ?_
  refine br_if (fun e => ?_) (fun e => ?_)
  · subst e
    refine loc_I ho1 rfl (br_if (fun e => ?_) (fun e => ?_))
    · refine loc_I (k1.obj ho (fun x => x)) rfl (ix_of (by omega) (by omega) ?_)
      have := hq _ k1
      rw [e] at this
      match v, hv with
      | 0, _ => exact loc_B ho1 rfl this
      | 1, _ => exact loc_B ho1 rfl this
      | 2, _ => exact loc_B ho1 rfl this
      | 3, _ => exact loc_B ho1 rfl this
    · have := hq _ k1
      rw [e] at this
      exact this
  · have := hq _ k1
    rw [e] at this
    exact this

theorem cells_at (R : s.Rep p h) {cs : List V} (hc : ∀ i, i < 119 → h.get p.b ((p.add 1).o + i) = cs[i]?) {i : Nat} (hi : i < 17) :
    cs[i * 7 + 0]? = some (.bool (s.sources_pending i)) ∧ cs[i * 7 + 1]? = some (.int .i64 (s.sources_taken i)) ∧ cs[i * 7 + 2]? = some (.int .i64 (s.sources_priority i)) ∧ ∀ j, j < 4 → cs[i * 7 + 3 + j]? = some (.bool (s.sources_enabled i j)) := by
  have key : ∀ (k : Nat) (u : V), k < 7 → h.getW p.b (p.o + 1 + i * 7 + k) = some u → cs[i * 7 + k]? = some u := by
    intro k u hk hg
    rw [← hc (i * 7 + k) (by omega)]
    have : (p.add 1).o + (i * 7 + k) = p.o + 1 + i * 7 + k := by simp only [Ptr.add]; omega
    rw [this]
    exact Heap.get_of_W hg
  refine ⟨key 0 _ (by omega) (R.sources_pending i hi), key 1 _ (by omega) (R.sources_taken i hi), key 2 _ (by omega) (R.sources_priority i hi), ?_⟩
  intro j hj
  have := R.sources_enabled i hi j hj
  have e : i * 7 + 3 + j = i * 7 + (3 + j) := by omega
  rw [e]
  refine key (3 + j) _ (by omega) ?_
  rw [← this]
  congr 1
  omega

theorem first_of (R : s.Rep p h) {v : Nat} (hv : v < 4) {Q : Int → Heap → Prop} (hq : ∀ h', Keeps none_ h h' → Q (s.first v) h') : vintc_Intc_first (some p) v Q h := by
  unfold vintc_Intc_first
  refine al_of (fun c h1 hc ho1 k1 => loc_I ho1 rfl ?_)
  rw [der_some]
  refine ix_of (by omega) (by omega) ?_
  have R1 := R.keeps k1 (fun x => x)
  refine R1.rd_bars (i := v) hv ?_
  rw [der_some]
  refine rdN_of (fun i hi => ?_) (fun cs hl hcs => ?_)
  · obtain ⟨u, hu⟩ := R1.all (1 + i) (by omega)
    exact ⟨u, Heap.get_of_W (by rw [← hu]; congr 1; simp only [Ptr.add]; omega)⟩
  unfold vintc_Intc_first.j4
  intro I H
  have main : ∀ (m i : Nat) (best level : Int) (h2 : Heap), i + m = 17 → Keeps none_ h1 h2 → (∀ h', Keeps none_ h1 h' → Q (s.pick v m i best level) h') → I best level ⟨c, 0⟩ cs (i : Int) h2 := by
    intro m
    induction m with
    | zero =>
      intro i best level h2 hi k2 hQ
      refine H _ _ _ _ _ _ ?_
      unfold vintc_Intc_first.b4
      refine br_if (fun e => ?_) (fun _ => hQ h2 k2)
      simp at e; omega
    | succ m ih =>
      intro i best level h2 hi k2 hQ
      refine H _ _ _ _ _ _ ?_
      unfold vintc_Intc_first.b4
      refine br_if (fun _ => ?_) (fun e => ?_)
      rotate_left
      · simp at e; omega
      refine ix_of (by omega) (by omega) ?_
      have hi17 : i < 17 := by omega
      obtain ⟨c0, c1, c2, c3⟩ := cells_at R1 hcs hi17
      have next : ∀ (best level : Int) (h' : Heap), Keeps none_ h1 h' → (∀ h', Keeps none_ h1 h' → Q (s.pick v m (i + 1) best level) h') → vintc_Intc_first.j8 I best level ⟨c, 0⟩ cs (i : Int) Q h' := by
        intro best level h' k' hQ'
        unfold vintc_Intc_first.j8
        rw [wrap64]
        exact ih (i + 1) best level h' (by omega) k' hQ'
      refine ⟨_, (take_drop_get (by omega)).trans c0, _, (take_drop_get (by omega)).trans c1, _, (take_drop_get (by omega)).trans c2, _, (take_drop_get (by omega)).trans (c3 0 (by omega)), _, (take_drop_get (by omega)).trans (c3 1 (by omega)), _, (take_drop_get (by omega)).trans (c3 2 (by omega)), _, (take_drop_get (by omega)).trans (c3 3 (by omega)), ?_⟩
      refine al_wrL rfl (fun d h3 hd ho3 k3 => ?_)
      have k13 : Keeps none_ h1 h3 := k2.trans k3
      unfold Intc.pick at hQ
      refine br_if (fun e => ?_) (fun e => ?_)
      · have : i = 0 := by simp at e; omega
        subst this
        simp only [ne_eq, not_true_eq_false, false_and, if_false] at hQ
        exact next _ _ _ k13 hQ
      have hi0 : i ≠ 0 := by simp at e; omega
      refine loc_B ho3 rfl (loc_I ho3 rfl (loc_I ho3 rfl (loc_B ho3 rfl (loc_B ho3 rfl (loc_B ho3 rfl (loc_B ho3 rfl ?_))))))
      refine may_of (v := v) hv (k13.obj ho1 (fun x => x)) (fun h4 k4 => ?_)
      have k14 : Keeps none_ h1 h4 := k13.trans k4
      have hmay : (s.sources_pending i && s.sources_taken i == 0 && sel v (s.sources_enabled i 0) (s.sources_enabled i 1) (s.sources_enabled i 2) (s.sources_enabled i 3)) = s.may v i := by
        unfold Intc.may
        match v, hv with
        | 0, _ => rfl
        | 1, _ => rfl
        | 2, _ => rfl
        | 3, _ => rfl
      rw [hmay]
      have ho4 := k4.obj ho3 (fun x => x)
      refine br_if (fun e => ?_) (fun e => ?_)
      · have : s.may v i = false := by simpa using e
        rw [this] at hQ
        simp only [Bool.false_eq_true, false_and, and_false, if_false] at hQ
        exact next _ _ _ k14 hQ
      have hm : s.may v i = true := by simpa using e
      rw [hm] at hQ
      refine loc_I ho4 rfl (br_if (fun e => ?_) (fun e => ?_))
      · rw [if_neg (by simp at e; omega)] at hQ
        exact next _ _ _ k14 hQ
      · rw [if_pos (by simp at e; exact ⟨hi0, rfl, by omega⟩)] at hQ
        exact loc_I ho4 rfl (next _ _ _ k14 hQ)
  exact main 17 0 0 _ h1 rfl (Keeps.refl _ _) (fun h' k' => hq h' (k1.trans k'))

theorem pick_range (v : Nat) : ∀ (m i : Nat) (best level : Int), i + m = 17 → 0 ≤ best → best ≤ 16 → 0 ≤ s.pick v m i best level ∧ s.pick v m i best level ≤ 16 := by
  intro m
  induction m with
  | zero => intro i best level _ h0 h1; exact ⟨h0, h1⟩
  | succ m ih =>
    intro i best level hi h0 h1
    unfold Intc.pick
    split
    · exact ih _ _ _ (by omega) (by omega) (by omega)
    · exact ih _ _ _ (by omega) h0 h1

theorem first_range (v : Nat) : 0 ≤ s.first v ∧ s.first v ≤ 16 := pick_range v 17 0 0 _ rfl (by omega) (by omega)

theorem Line_of (R : s.Rep p h) (k : s.Ok) {v : Int} {Q : Bool → Heap → Prop} (hq : ∀ h', Keeps none_ h h' → Q (s.has v && decide (0 < s.first v.toNat)) h') : vintc_Intc_Line (some p) v Q h := by
  unfold vintc_Intc_Line
  refine has_of R k ?_
  cases hv : s.has v
  · rw [hv] at hq
    exact hq h (Keeps.refl _ _)
  · rw [hv] at hq
    have hv := has_iff.1 hv
    have := k.hi
    rw [br_true]
    have hvn : v = (v.toNat : Int) := by omega
    rw [hvn]
    exact first_of R (by omega) (fun h' k' => by simpa using hq h' k')

def Intc.claim (s : Intc) (v : Int) : Intc :=
  if s.has v && decide (0 < s.first v.toNat) then { s with sources_pending := fun i => if i = (s.first v.toNat).toNat then false else s.sources_pending i, sources_taken := fun i => if i = (s.first v.toNat).toNat then v + 1 else s.sources_taken i } else s

theorem Claim_of (R : s.Rep p h) (k : s.Ok) {v : Int} {Q : Int → Int → Heap → Prop} (hq : ∀ h', (s.claim v).Rep p h' → Keeps (· = p.b) h h' → Q (if s.has v then s.first v.toNat else 0) (if s.has v then 0 else 2) h') : vintc_Intc_Claim (some p) v Q h := by
  unfold vintc_Intc_Claim
  refine has_of R k (wrong_of R k ?_)
  unfold Intc.claim at hq
  cases hv : s.has v
  · rw [hv] at hq
    exact hq h R (Keeps.refl _ _)
  · rw [hv] at hq
    have hv := has_iff.1 hv
    have hn := k.hi
    simp only [br_true, br_false, der_some, if_true, if_false, beq_self_eq_true, bne_self_eq_false, Bool.false_eq_true, Bool.and_true, Bool.true_and, Bool.and_false, Bool.false_and, Bool.not_true, Bool.not_false, Option.isNone_some, Option.isNone_none]
    have hvn : v = (v.toNat : Int) := by omega
    rw [hvn]
    refine first_of R (by omega) (fun h1 k1 => ?_)
    rw [← hvn]
    have R1 := R.keeps k1 (fun x => x)
    have k1' : Keeps (· = p.b) h h1 := k1.mono (fun _ x => x.elim)
    obtain ⟨hf0, hf1⟩ := first_range (s := s) v.toNat
    refine br_if (fun e => ?_) (fun e => ?_)
    · have hpos : 0 < s.first v.toNat := by simpa using e
      refine ix_of (by omega) (by omega) ?_
      refine R1.wr_sources_pending (i := (s.first v.toNat).toNat) (by omega) (fun h2 R2 k2 => ?_)
      refine ix_of (by omega) (by omega) ?_
      rw [wrap64]
      refine R2.wr_sources_taken (i := (s.first v.toNat).toNat) (by omega) (fun h3 R3 k3 => ?_)
      rw [if_pos (by simpa using hpos)] at hq
      exact hq h3 R3 ((k1'.trans k2).trans k3)
    · have hpos : ¬ 0 < s.first v.toNat := by simpa using e
      rw [if_neg (by simpa using hpos)] at hq
      exact hq h1 R1 k1'

def Intc.complete (s : Intc) (v a : Int) : Intc :=
  if s.has v && isSource a && s.sources_taken a.toNat == v + 1 then { s with sources_taken := fun i => if i = a.toNat then 0 else s.sources_taken i } else s

theorem Complete_of (R : s.Rep p h) (k : s.Ok) {v a : Int} {Q : Int → Heap → Prop} (hq : ∀ h', (s.complete v a).Rep p h' → Keeps (· = p.b) h h' → Q (if s.has v && isSource a then (if s.sources_taken a.toNat == v + 1 then 0 else 21) else 2) h') : vintc_Intc_Complete (some p) v a Q h := by
  unfold vintc_Intc_Complete
  refine has_of R k ?_
  unfold Intc.complete at hq
  cases hv : s.has v
  · rw [hv] at hq
    rw [br_false]
    refine wrong_of R k ?_
    exact hq h R (Keeps.refl _ _)
  · rw [hv] at hq
    rw [br_true, isSource_eq]
    refine wrong_of R k ?_
    cases hs : isSource a
    · rw [hs] at hq; exact hq h R (Keeps.refl _ _)
    · rw [hs] at hq
      have hs := isSource_iff.1 hs
      have hv := has_iff.1 hv
      have := k.hi
      unfold vintc_Intc_Complete.j2
      simp only [br_true, br_false, der_some, if_true, if_false, beq_self_eq_true, bne_self_eq_false, Bool.false_eq_true, Bool.and_true, Bool.true_and, Bool.and_false, Bool.false_and, Bool.not_true, Bool.not_false, Option.isNone_some, Option.isNone_none]
      refine ix_of (by omega) (by omega) ?_
      refine R.rd_sources_taken (i := a.toNat) (by omega) ?_
      rw [wrap64]
      cases ht : s.sources_taken a.toNat == v + 1
      · rw [ht] at hq
        have : (s.sources_taken a.toNat != v + 1) = true := by simp [bne, ht]
        rw [this]
        exact hq h R (Keeps.refl _ _)
      · rw [ht] at hq
        have : (s.sources_taken a.toNat != v + 1) = false := by simp [bne, ht]
        rw [this, br_false]
        refine ix_of (by omega) (by omega) ?_
        exact R.wr_sources_taken (i := a.toNat) (by omega) hq

theorem Told_of (R : s.Rep p h) (k : s.Ok) {a : Int} {Q : Bool → Int → Heap → Prop} (hq : ∀ h', Keeps none_ h h' → Q (isSource a && s.sources_pending a.toNat) (if isSource a then IntKind.i64.wrap (s.sources_taken a.toNat - 1) else -1) h') : vintc_Intc_Told (some p) a Q h := by
  unfold vintc_Intc_Told
  refine none_of R k ?_
  rw [br_false, isSource_eq]
  cases hs : isSource a
  · rw [hs] at hq; exact hq h (Keeps.refl _ _)
  · rw [hs] at hq
    have hs := isSource_iff.1 hs
    simp only [br_true, br_false, der_some, if_true, if_false, beq_self_eq_true, bne_self_eq_false, Bool.false_eq_true, Bool.and_true, Bool.true_and, Bool.and_false, Bool.false_and, Bool.not_true, Bool.not_false, Option.isNone_some, Option.isNone_none]
    have ha : a.toNat < 17 := by omega
    refine ix_of (by omega) (by omega) ?_
    refine R.rd_sources_pending ha (R.rd_sources_taken ha (R.rd_sources_priority ha ?_))
    refine R.rd_sources_enabled ha (j := 0) (by omega) (R.rd_sources_enabled ha (j := 1) (by omega) (R.rd_sources_enabled ha (j := 2) (by omega) (R.rd_sources_enabled ha (j := 3) (by omega) ?_)))
    refine al_wrL rfl (fun d h3 hd ho3 k3 => ?_)
    exact loc_B ho3 rfl (loc_I ho3 rfl (hq h3 k3))

def Intc.new (n : Int) : Intc := ⟨n, fun _ => false, fun _ => 0, fun _ => 1, fun _ _ => false, fun _ => 0, fun _ => false⟩

theorem new_ok {n : Int} (h0 : 1 ≤ n) (h1 : n ≤ 4) : (Intc.new n).Ok := ⟨h0, h1⟩

/-- What is picked may be picked. -/
theorem pick_may (v : Nat) : ∀ (m i : Nat) (best level : Int), (0 < best → s.may v best.toNat = true) → 0 < s.pick v m i best level → s.may v (s.pick v m i best level).toNat = true := by
  intro m
  induction m with
  | zero => intro i best level h0 h1; exact h0 h1
  | succ m ih =>
    intro i best level h0 h1
    unfold Intc.pick at h1 ⊢
    split
    · rename_i hc
      rw [if_pos hc] at h1
      refine ih _ _ _ (fun _ => ?_) h1
      simpa using hc.2.1
    · rename_i hc
      rw [if_neg hc] at h1
      exact ih _ _ _ h0 h1

theorem first_may (v : Nat) (h : 0 < s.first v) : s.may v (s.first v).toNat = true := pick_may v 17 0 0 _ (fun h => by omega) h

theorem New_of {n : Int} {Q : Option Ptr → Int → Heap → Prop} (hbad : n < 1 ∨ 4 < n → Q none 2 h) (hq : 1 ≤ n → n ≤ 4 → ∀ b h', h.obj b = none → (Intc.new n).Rep ⟨b, 0⟩ h' → Keeps none_ h h' → Q (some ⟨b, 0⟩) 0 h') : vintc_New n Q h := by
  unfold vintc_New
  refine br_if (fun e => hbad (.inl (by simpa using e))) (fun e => ?_)
  refine br_if (fun e => hbad (.inr (by simpa using e))) (fun e2 => ?_)
  have h0 : 1 ≤ n := by simpa using e
  have h1 : n ≤ 4 := by simpa using e2
  refine ⟨rfl, al_of (fun b h1 hb ho1 k1 => ?_)⟩
  have R0 := Intc.Rep.ofL ho1 rfl
  have R1 : Intc.Rep ⟨b, 0⟩ ⟨n, fun _ => false, fun _ => 0, fun i => if i < 0 then 1 else 0, fun _ _ => false, fun _ => 0, fun _ => false⟩ h1 := by
    refine R0.congr rfl (fun i hi => ?_) (fun i hi => ?_) (fun i hi => ?_) (fun i hi j hj => ?_) (fun i hi => ?_) (fun i hi => ?_)
    · exact (eq_of_beq (all_range (n := 17) (p := fun i => boolAt (putCells z_palisade_vintc_Intc 0 [.int .i64 n]) (0 + 1 + i * 7 + 0) == false) rfl hi)).symm
    · exact (eq_of_beq (all_range (n := 17) (p := fun i => intAt (putCells z_palisade_vintc_Intc 0 [.int .i64 n]) (0 + 1 + i * 7 + 1) == 0) rfl hi)).symm
    · exact (eq_of_beq (all_range (n := 17) (p := fun i => intAt (putCells z_palisade_vintc_Intc 0 [.int .i64 n]) (0 + 1 + i * 7 + 2) == 0) rfl hi)).symm
    · exact (eq_of_beq (all_range (n := 4) (p := fun j => boolAt (putCells z_palisade_vintc_Intc 0 [.int .i64 n]) (0 + 1 + i * 7 + 3 + j * 1) == false) (all_range (n := 17) (p := fun i => (List.range 4).all fun j => boolAt (putCells z_palisade_vintc_Intc 0 [.int .i64 n]) (0 + 1 + i * 7 + 3 + j * 1) == false) rfl hi) hj)).symm
    · exact (eq_of_beq (all_range (n := 4) (p := fun i => intAt (putCells z_palisade_vintc_Intc 0 [.int .i64 n]) (0 + 120 + i * 1) == 0) rfl hi)).symm
    · exact (eq_of_beq (all_range (n := 4) (p := fun i => boolAt (putCells z_palisade_vintc_Intc 0 [.int .i64 n]) (0 + 124 + i * 1) == false) rfl hi)).symm
  unfold vintc_New.j5
  intro I H
  have main : ∀ (m k : Nat) (h2 : Heap), k + m = 17 → Keeps none_ h h2 → Intc.Rep ⟨b, 0⟩ ⟨n, fun _ => false, fun _ => 0, fun i => if i < k then 1 else 0, fun _ _ => false, fun _ => 0, fun _ => false⟩ h2 → I ⟨b, 0⟩ (k : Int) h2 := by
    intro m
    induction m with
    | zero =>
      intro k h2 hk k2 R2
      refine H _ _ _ ?_
      unfold vintc_New.b5
      refine br_if (fun e => ?_) (fun _ => ?_)
      · simp at e; omega
      refine hq (by omega) (by omega) b h2 hb (R2.congr rfl (fun _ _ => rfl) (fun _ _ => rfl) (fun i hi => ?_) (fun _ _ _ _ => rfl) (fun _ _ => rfl) (fun _ _ => rfl)) k2
      simp only [Intc.new]; rw [if_pos (by omega)]
    | succ m ih =>
      intro k h2 hk k2 R2
      refine H _ _ _ ?_
      unfold vintc_New.b5
      refine br_if (fun _ => ?_) (fun e => ?_)
      rotate_left
      · simp at e; omega
      refine ix_of (by omega) (by omega) ?_
      have hkk : (k : Int).toNat < 17 := by omega
      refine R2.wr_sources_priority hkk (fun h3 R3 k3 => ?_)
      rw [wrap64]
      refine ih (k + 1) h3 (by omega) ⟨fun x hx hs => ?_, fun x hx => k3.known x (k2.known x hx)⟩ ?_
      · have hne : x ≠ b := fun e => hx (e ▸ hb)
        exact (k3.same x (k2.known x hx) hne).trans (k2.same x hx hs)
      · refine R3.congr rfl (fun _ _ => rfl) (fun _ _ => rfl) (fun i hi => ?_) (fun _ _ _ _ => rfl) (fun _ _ => rfl) (fun _ _ => rfl)
        simp only
        by_cases e : i = (k : Int).toNat
        · rw [if_pos e, if_pos (by omega)]
        · rw [if_neg e]
          by_cases e2 : i < k
          · rw [if_pos e2, if_pos (by omega)]
          · rw [if_neg e2, if_neg (by omega)]
  exact main 17 0 h1 rfl k1 R1

end
end Go.Vintc

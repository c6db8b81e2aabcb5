/- The document's controller, by what it answers and leaves. -/
import Derived.Test.YtlnigofbpnehlaaVintc
set_option linter.unusedSimpArgs false
set_option linter.unusedVariables false
set_option maxRecDepth 100000
namespace Go.Vintc
open Go.Lift Go.Fn

/-- The document's record of a state. -/
def Intc.ref (s : Intc) : Intc := { s with sources_taken := fun i => s.sources_taken i - 1 }

structure Intc.Fit (s : Intc) : Prop where
  ok : s.Ok
  tk : ∀ i, i < 17 → 0 ≤ s.sources_taken i ∧ s.sources_taken i ≤ 4

section
variable {p : Ptr} {s : Intc} {h : Heap}

theorem Is_eq (a : Int) (Q : Bool → Heap → Prop) (h : Heap) : palisaderef20_Is a Q h = Q (isSource a) h := by
  unfold palisaderef20_Is isSource
  by_cases h1 : 1 ≤ a
  · simp [h1, br]
  · simp [h1, br]

theorem Has_of (R : s.ref.Rep p h) {v : Int} {Q : Bool → Heap → Prop} (hq : Q (s.has v) h) : palisaderef20_Intc_Has (some p) v Q h := by
  unfold palisaderef20_Intc_Has
  refine br_if (fun h1 => R.rd_n ?_) (fun h1 => ?_)
  · have : s.has v = decide (v < s.n) := by simp at h1; simp [Intc.has, h1]
    have e : s.ref.n = s.n := rfl
    rw [e, ← this]; exact hq
  · have : s.has v = false := by simp at h1; simp [Intc.has]; omega
    rw [← this]; exact hq

theorem rFirst_of (R : s.ref.Rep p h) (k : s.Fit) {v : Int} (hv0 : 0 ≤ v) (hv : v < 4) {Q : Int → Heap → Prop} (hq : ∀ h', Keeps none_ h h' → Q (s.first v.toNat) h') : palisaderef20_Intc_First (some p) v Q h := by
  unfold palisaderef20_Intc_First palisaderef20_Intc_First.j3
  intro I H
  have hvn : v.toNat < 4 := by omega
  have main : ∀ (m i : Nat) (best level : Int) (h1 : Heap), i + m = 17 → 1 ≤ i → Keeps none_ h h1 → 0 ≤ best → best < i → (best = 0 → level = s.bars v.toNat) → (0 < best → level = s.sources_priority best.toNat ∧ s.bars v.toNat < level) → s.pick v.toNat m i best level = s.first v.toNat → I (some p) v best (i : Int) h1 := by
    intro m
    induction m with
    | zero =>
      intro i best level h1 hi h1i k1 hb0 hbi hl0 hl1 hp
      refine H _ _ _ _ _ ?_
      unfold palisaderef20_Intc_First.b3
      refine br_f (by simp; omega) ?_
      have : best = s.first v.toNat := hp
      rw [this]
      exact hq h1 k1
    | succ m ih =>
      intro i best level h1 hi h1i k1 hb0 hbi hl0 hl1 hp
      refine H _ _ _ _ _ ?_
      unfold palisaderef20_Intc_First.b3
      refine br_t (by simp; omega) ?_
      rw [der_some]
      refine ix_of (by omega) (by omega) ?_
      have hin : ((i : Int)).toNat < 17 := by omega
      have hii : ((i : Int)).toNat = i := by omega
      have R1 := R.keeps k1 (fun x => x)
      refine R1.rd_sources_pending hin (R1.rd_sources_taken hin (R1.rd_sources_priority hin (R1.rd_sources_enabled hin (j := 0) (by omega) (R1.rd_sources_enabled hin (j := 1) (by omega) (R1.rd_sources_enabled hin (j := 2) (by omega) (R1.rd_sources_enabled hin (j := 3) (by omega) ?_))))))
      refine al_wrL rfl (fun d h2 hd ho2 k2 => ?_)
      have k12 := k1.trans k2
      have R2 := R1.keeps k2 (fun x => x)
      unfold Intc.pick at hp
      have next : ∀ (best level : Int), 0 ≤ best → best < (i : Int) + 1 → (best = 0 → level = s.bars v.toNat) → (0 < best → level = s.sources_priority best.toNat ∧ s.bars v.toNat < level) → s.pick v.toNat m (i + 1) best level = s.first v.toNat → palisaderef20_Intc_First.j4 I (some p) v best (i : Int) Q h2 := by
        intro best level q1 q2 q3 q4 q5
        unfold palisaderef20_Intc_First.j4
        rw [wrap64]
        exact ih (i + 1) best level h2 (by omega) (by omega) k12 q1 (by omega) q3 q4 q5
      have skip : ¬ (s.may v.toNat i = true ∧ level < s.sources_priority i) → palisaderef20_Intc_First.j4 I (some p) v best (i : Int) Q h2 := by
        intro hn
        rw [if_neg (fun x => hn x.2)] at hp
        exact next best level hb0 (by omega) hl0 hl1 hp
      have take_ : s.may v.toNat i = true → level < s.sources_priority i → s.bars v.toNat < s.sources_priority i → palisaderef20_Intc_First.j7 I (some p) v (i : Int) Q h2 := by
        intro hm hlt hB
        rw [if_pos ⟨by omega, hm, hlt⟩] at hp
        unfold palisaderef20_Intc_First.j7
        exact next (i : Int) (s.sources_priority i) (by omega) (by omega) (by omega) (fun _ => ⟨by simp, hB⟩) hp
      rw [hii] at ho2
      have hmay : s.may v.toNat i = (s.sources_pending i && s.sources_taken i == 0 && s.sources_enabled i v.toNat) := rfl
      refine loc_B ho2 rfl (br_if (fun e => ?_) (fun e => skip (fun x => by rw [hmay] at x; have e : s.sources_pending i = false := e; rw [e] at x; simp at x)))
      have e1 : s.sources_pending i = true := e
      refine loc_I ho2 rfl (br_if (fun e => ?_) (fun e => skip (fun x => ?_)))
      rotate_left
      · have e : ¬ s.sources_taken i - 1 < 0 := of_decide_eq_false e
        rw [hmay] at x
        simp only [Bool.and_eq_true, beq_iff_eq] at x
        omega
      have e2 : s.sources_taken i = 0 := by
        have e : s.sources_taken i - 1 < 0 := of_decide_eq_true e
        have := k.tk i (by omega)
        omega
      refine ix_of (by omega) (by omega) ?_
      refine loc_B (x := s.sources_enabled i v.toNat) ho2 ?_ ?_
      · have : v.toNat = 0 ∨ v.toNat = 1 ∨ v.toNat = 2 ∨ v.toNat = 3 := by omega
        rcases this with e | e | e | e <;> rw [e] <;> rfl
      refine br_if (fun e => ?_) (fun e => skip (fun x => by rw [hmay, e] at x; simp at x))
      have hm : s.may v.toNat i = true := by rw [hmay, e1, e2, e]; rfl
      refine loc_I ho2 rfl ?_
      rw [der_some]
      refine ix_of (by omega) (by omega) (R2.rd_bars (i := v.toNat) hvn ?_)
      have eb : s.ref.bars v.toNat = s.bars v.toNat := rfl
      have ep : s.ref.sources_priority i = s.sources_priority i := rfl
      rw [eb, ep]
      refine br_if (fun e => ?_) (fun e => skip (fun x => ?_))
      rotate_left
      · have e : ¬ s.bars v.toNat < s.sources_priority i := by simpa using e
        rcases Int.lt_or_eq_of_le hb0 with hb | hb
        · have := hl1 hb; omega
        · have := hl0 hb.symm; omega
      have hB : s.bars v.toNat < s.sources_priority i := by simpa using e
      refine br_if (fun e => ?_) (fun e => ?_)
      · have hb : best = 0 := by simpa using e
        exact take_ hm (by rw [hl0 hb]; exact hB) hB
      · have hb : best ≠ 0 := by simpa using e
        have hlv := (hl1 (by omega)).1
        refine loc_I ho2 rfl ?_
        rw [der_some]
        refine ix_of (by omega) (by omega) (R2.rd_sources_priority (i := best.toNat) (by omega) ?_)
        have ep2 : s.ref.sources_priority best.toNat = s.sources_priority best.toNat := rfl
        rw [ep, ep2, ← hlv]
        refine br_if (fun e => take_ hm (by simpa using e) hB) (fun e => skip (fun x => ?_))
        have e : ¬ level < s.sources_priority i := by simpa using e
        exact e x.2
  refine main 16 1 0 (s.bars v.toNat) h rfl (by omega) (Keeps.refl _ _) (by omega) (by omega) (fun _ => rfl) (fun x => by omega) ?_
  unfold Intc.first
  conv => rhs; unfold Intc.pick
  simp

theorem rClaim_of (R : s.ref.Rep p h) (k : s.Fit) {v : Int} {Q : Int → Int → Heap → Prop} (hq : ∀ h', (s.claim v).ref.Rep p h' → Keeps (· = p.b) h h' → Q (if s.has v then s.first v.toNat else 0) (if s.has v then 0 else 2) h') : palisaderef20_Intc_Claim (some p) v Q h := by
  unfold palisaderef20_Intc_Claim
  refine Has_of R ?_
  unfold Intc.claim at hq
  cases hv : s.has v
  · rw [hv] at hq
    exact hq h R (Keeps.refl _ _)
  · rw [hv] at hq
    have hv := has_iff.1 hv
    have hn := k.ok.hi
    refine br_f rfl ?_
    refine rFirst_of R k (by omega) (by omega) (fun h1 k1 => ?_)
    have R1 := R.keeps k1 (fun x => x)
    have k1' : Keeps (· = p.b) h h1 := k1.mono (fun _ x => x.elim)
    obtain ⟨hf0, hf1⟩ := first_range (s := s) v.toNat
    refine br_if (fun e => ?_) (fun e => ?_)
    · have hpos : 0 < s.first v.toNat := by simpa using e
      rw [der_some]
      refine ix_of (by omega) (by omega) ?_
      refine R1.wr_sources_pending (i := (s.first v.toNat).toNat) (by omega) (fun h2 R2 k2 => ?_)
      rw [der_some]
      refine ix_of (by omega) (by omega) ?_
      refine R2.wr_sources_taken (i := (s.first v.toNat).toNat) (by omega) (fun h3 R3 k3 => ?_)
      rw [if_pos (by simpa using hpos)] at hq
      refine hq h3 (R3.congr rfl (fun _ _ => rfl) (fun i hi => ?_) (fun _ _ => rfl) (fun _ _ _ _ => rfl) (fun _ _ => rfl) (fun _ _ => rfl)) ((k1'.trans k2).trans k3)
      simp only [Intc.ref]
      split <;> omega
    · have hpos : ¬ 0 < s.first v.toNat := by simpa using e
      rw [if_neg (by simpa using hpos)] at hq
      exact hq h1 R1 k1'

theorem rComplete_of (R : s.ref.Rep p h) (k : s.Fit) {v a : Int} {Q : Int → Heap → Prop} (hq : ∀ h', (s.complete v a).ref.Rep p h' → Keeps (· = p.b) h h' → Q (if s.has v && isSource a then (if s.sources_taken a.toNat == v + 1 then 0 else 21) else 2) h') : palisaderef20_Intc_Complete (some p) v a Q h := by
  unfold palisaderef20_Intc_Complete
  refine Has_of R ?_
  unfold Intc.complete at hq
  cases hv : s.has v
  · rw [hv] at hq
    exact hq h R (Keeps.refl _ _)
  · rw [hv] at hq
    refine br_f rfl ?_
    rw [Is_eq]
    cases hs : isSource a
    · rw [hs] at hq; exact hq h R (Keeps.refl _ _)
    · rw [hs] at hq
      have hs := isSource_iff.1 hs
      have hv := has_iff.1 hv
      refine br_f rfl ?_
      rw [der_some]
      refine ix_of (by omega) (by omega) ?_
      refine R.rd_sources_taken (i := a.toNat) (by omega) ?_
      have et : s.ref.sources_taken a.toNat = s.sources_taken a.toNat - 1 := rfl
      rw [et]
      cases ht : s.sources_taken a.toNat == v + 1
      · rw [ht] at hq
        have : (s.sources_taken a.toNat - 1 != v) = true := by simp at ht ⊢; omega
        rw [this]
        exact hq h R (Keeps.refl _ _)
      · rw [ht] at hq
        have : (s.sources_taken a.toNat - 1 != v) = false := by simp at ht ⊢; omega
        rw [this, br_false]
        rw [der_some]
        refine ix_of (by omega) (by omega) ?_
        refine R.wr_sources_taken (i := a.toNat) (by omega) (fun h1 R1 k1 => hq h1 (R1.congr rfl (fun _ _ => rfl) (fun i hi => ?_) (fun _ _ => rfl) (fun _ _ _ _ => rfl) (fun _ _ => rfl) (fun _ _ => rfl)) k1)
        simp only [Intc.ref]
        simp
        split <;> omega

theorem rEnable_of (R : s.ref.Rep p h) (k : s.Fit) {v a : Int} {on : Bool} {Q : Int → Heap → Prop} (hq : ∀ h', (s.enable v a on).ref.Rep p h' → Keeps (· = p.b) h h' → Q (if s.has v && isSource a then 0 else 2) h') : palisaderef20_Intc_Enable (some p) v a on Q h := by
  unfold palisaderef20_Intc_Enable
  refine Has_of R ?_
  unfold Intc.enable at hq
  cases hv : s.has v
  · rw [hv] at hq
    exact hq h R (Keeps.refl _ _)
  · rw [hv] at hq
    refine br_f rfl ?_
    rw [Is_eq]
    cases hs : isSource a
    · rw [hs] at hq; exact hq h R (Keeps.refl _ _)
    · rw [hs] at hq
      have hs := isSource_iff.1 hs
      have hv := has_iff.1 hv
      have := k.ok.hi
      refine br_f rfl ?_
      rw [der_some]
      refine ix_of (by omega) (by omega) (ix_of (by omega) (by omega) ?_)
      exact R.wr_sources_enabled (i := a.toNat) (by omega) (j := v.toNat) (by omega) hq

theorem rNew_of {n : Int} {Q : Option Ptr → Int → Heap → Prop} (hbad : n < 1 ∨ 4 < n → Q none 2 h) (hq : 1 ≤ n → n ≤ 4 → ∀ b h', h.obj b = none → (Intc.new n).ref.Rep ⟨b, 0⟩ h' → Keeps none_ h h' → Q (some ⟨b, 0⟩) 0 h') : palisaderef20_New n Q h := by
  unfold palisaderef20_New
  refine br_if (fun e => hbad (.inl (by simpa using e))) (fun e => ?_)
  refine br_if (fun e => hbad (.inr (by simpa using e))) (fun e2 => ?_)
  have h0 : 1 ≤ n := by simpa using e
  have h1 : n ≤ 4 := by simpa using e2
  refine ⟨rfl, al_of (fun b h1 hb ho1 k1 => ?_)⟩
  have R0 := Intc.Rep.ofL ho1 rfl
  have R1 : Intc.Rep ⟨b, 0⟩ ⟨n, fun _ => false, fun i => if i < 0 then -1 else 0, fun i => if i < 0 then 1 else 0, fun _ _ => false, fun _ => 0, fun _ => false⟩ h1 := by
    refine R0.congr rfl (fun i hi => ?_) (fun i hi => ?_) (fun i hi => ?_) (fun i hi j hj => ?_) (fun i hi => ?_) (fun i hi => ?_)
    · exact (eq_of_beq (all_range (n := 17) (p := fun i => boolAt (putCells z_palisade_vintc_Intc 0 [.int .i64 n]) (0 + 1 + i * 7 + 0) == false) rfl hi)).symm
    · exact (eq_of_beq (all_range (n := 17) (p := fun i => intAt (putCells z_palisade_vintc_Intc 0 [.int .i64 n]) (0 + 1 + i * 7 + 1) == 0) rfl hi)).symm
    · exact (eq_of_beq (all_range (n := 17) (p := fun i => intAt (putCells z_palisade_vintc_Intc 0 [.int .i64 n]) (0 + 1 + i * 7 + 2) == 0) rfl hi)).symm
    · exact (eq_of_beq (all_range (n := 4) (p := fun j => boolAt (putCells z_palisade_vintc_Intc 0 [.int .i64 n]) (0 + 1 + i * 7 + 3 + j * 1) == false) (all_range (n := 17) (p := fun i => (List.range 4).all fun j => boolAt (putCells z_palisade_vintc_Intc 0 [.int .i64 n]) (0 + 1 + i * 7 + 3 + j * 1) == false) rfl hi) hj)).symm
    · exact (eq_of_beq (all_range (n := 4) (p := fun i => intAt (putCells z_palisade_vintc_Intc 0 [.int .i64 n]) (0 + 120 + i * 1) == 0) rfl hi)).symm
    · exact (eq_of_beq (all_range (n := 4) (p := fun i => boolAt (putCells z_palisade_vintc_Intc 0 [.int .i64 n]) (0 + 124 + i * 1) == false) rfl hi)).symm
  unfold palisaderef20_New.j5
  intro I H
  have main : ∀ (m k : Nat) (h2 : Heap), k + m = 17 → Keeps none_ h h2 → Intc.Rep ⟨b, 0⟩ ⟨n, fun _ => false, fun i => if i < k then -1 else 0, fun i => if i < k then 1 else 0, fun _ _ => false, fun _ => 0, fun _ => false⟩ h2 → I ⟨b, 0⟩ (k : Int) h2 := by
    intro m
    induction m with
    | zero =>
      intro k h2 hk k2 R2
      refine H _ _ _ ?_
      unfold palisaderef20_New.b5
      refine br_f (by simp; omega) ?_
      refine hq (by omega) (by omega) b h2 hb (R2.congr rfl (fun _ _ => rfl) (fun i hi => ?_) (fun i hi => ?_) (fun _ _ _ _ => rfl) (fun _ _ => rfl) (fun _ _ => rfl)) k2
      · simp only [Intc.new, Intc.ref]; rw [if_pos (by omega)]; rfl
      · simp only [Intc.new, Intc.ref]; rw [if_pos (by omega)]
    | succ m ih =>
      intro k h2 hk k2 R2
      refine H _ _ _ ?_
      unfold palisaderef20_New.b5
      refine br_t (by simp; omega) ?_
      refine ix_of (by omega) (by omega) ?_
      have hkk : (k : Int).toNat < 17 := by omega
      refine R2.wr_sources_taken hkk (fun h3 R3 k3 => ?_)
      refine ix_of (by omega) (by omega) ?_
      refine R3.wr_sources_priority hkk (fun h4 R4 k4 => ?_)
      rw [wrap64]
      have k34 := k3.trans k4
      refine ih (k + 1) h4 (by omega) ⟨fun x hx hs => ?_, fun x hx => k34.known x (k2.known x hx)⟩ ?_
      · have hne : x ≠ b := fun e => hx (e ▸ hb)
        exact (k34.same x (k2.known x hx) hne).trans (k2.same x hx hs)
      · refine R4.congr rfl (fun _ _ => rfl) (fun i hi => ?_) (fun i hi => ?_) (fun _ _ _ _ => rfl) (fun _ _ => rfl) (fun _ _ => rfl) <;>
        · simp only
          by_cases e : i = (k : Int).toNat
          · rw [if_pos e, if_pos (by omega)]
          · rw [if_neg e]
            by_cases e2 : i < k
            · rw [if_pos e2, if_pos (by omega)]
            · rw [if_neg e2, if_neg (by omega)]
  exact main 17 0 h1 rfl k1 R1

end
end Go.Vintc

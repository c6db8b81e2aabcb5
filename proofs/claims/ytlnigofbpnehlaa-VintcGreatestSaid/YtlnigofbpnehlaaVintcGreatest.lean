/- VintcGreatest: what is claimed has the greatest priority above the threshold, and is the least of several. -/
import Derived.Test.YtlnigofbpnehlaaVintc
set_option linter.unusedSimpArgs false
set_option linter.unusedVariables false
set_option maxRecDepth 100000
namespace Go.Vintc
open Go.Lift Go.Fn

/-- Is source i raised? -/
def bit (raised : Int) (i : Nat) : Bool := ibits .and .i64 (shrI .i64 raised (IntKind.u64.wrap i)) 1 == 1

/-- The controller ahead of the claim. -/
def great (P : Nat → Int) (raised bar : Int) (m : Nat) : Intc :=
  ⟨1, fun i => decide (1 ≤ i) && decide (i < m) && bit raised i, fun _ => 0, fun i => if 1 ≤ i ∧ i < m then P i else 1, fun i j => decide (1 ≤ i) && decide (i < m) && decide (j = 0), fun j => if j = 0 then bar else 0, fun _ => false⟩

def Sofar (P : Nat → Int) (raised : Int) (i : Nat) (s : Intc) : Prop :=
  ∀ j, j < 17 → s.sources_pending j = (great P raised 0 i).sources_pending j ∧ s.sources_taken j = 0 ∧ s.sources_priority j = (great P raised 0 i).sources_priority j ∧ (∀ v, v < 4 → s.sources_enabled j v = (great P raised 0 i).sources_enabled j v)

theorem greatest (l : List Int) (hl : l.length = 16) (raised bar : Int) (h : Heap) (Q : Bool → Heap → Prop) (hQ : ∀ h', Q true h') :
    al (l.map fun x => V.int .i64 x) (fun b1 h => vintc_New 1 (fun r2 r3 h => br (r3 != 0) (palisadelaw20_VintcGreatest.j3 Q h) (br r2.isNone (palisadelaw20_VintcGreatest.j3 Q h) (palisadelaw20_VintcGreatest.j7 raised (ibits .and .i64 bar 7) (⟨b1, 0⟩ : Ptr) r2 0 1 Q h))) h) h := by
  refine al_of (fun b h1 hb ho1 k1 => ?_)
  refine New_of (fun hbad => by omega) (fun _ _ c h2 hc R2 k2 => ?_)
  have hbc : b ≠ c := by intro e; subst e; rw [ho1] at hc; cases hc
  refine br_f rfl (br_f rfl ?_)
  have hbar := and64_le bar 7 (by omega) (by omega)
  generalize ibits .and .i64 bar 7 = B at hbar
  let P : Nat → Int := fun i => ibits .and .i64 (l.getD (i - 1) 0) 7
  have hP : ∀ i, 0 ≤ P i ∧ P i ≤ 7 := fun i => and64_le _ 7 (by omega) (by omega)
  have harr : ∀ (h' : Heap), h'.obj b = h1.obj b → ∀ i, i < 16 → h'.get b (0 + i * 1) = some (.int .i64 (l.getD i 0)) := by
    intro h' e i hi
    rw [Heap.get_obj e, get_cells ho1]
    simp only [Nat.zero_add, Nat.mul_one, List.getElem?_map, List.getD_eq_getElem?_getD]
    rw [List.getElem?_eq_getElem (by omega)]; simp
  let F := great P raised B 17
  unfold palisadelaw20_VintcGreatest.j7
  intro I H
  have main : ∀ (m i : Nat) (best level : Int) (h3 : Heap) (s : Intc), i + m = 17 → 1 ≤ i → h3.obj b = h1.obj b → s.Rep ⟨c, 0⟩ h3 →
      s.n = 1 → Sofar P raised i s → (∀ v, v < 4 → s.bars v = 0 ∧ s.soft v = false) →
      0 ≤ best → best < i → (best = 0 → level = B) → (0 < best → level = P best.toNat ∧ B < level) → F.pick 0 m i best level = F.first 0 →
      I raised B ⟨b, 0⟩ (some ⟨c, 0⟩) best (i : Int) h3 := by
    intro m
    induction m with
    | zero =>
      intro i best level h3 s hi h1i hob R hn hs hbars hb0 hbi hl0 hl1 hpick
      refine H _ _ _ _ _ _ _ ?_
      unfold palisadelaw20_VintcGreatest.b7
      refine br_f (by simp; omega) ?_
      have hok : s.Ok := ⟨by omega, by omega⟩
      have hi17 : i = 17 := by omega
      subst hi17
      have hbest : best = F.first 0 := hpick
      refine Bar_of R hok (fun h4 R4 k4 => ?_)
      have hhas : s.has 0 = true := has_iff.2 ⟨by omega, by omega⟩
      have hlev : isLevel B = true := isLevel_iff.2 hbar
      have RF : F.Rep ⟨c, 0⟩ h4 := by
        have e : s.bar 0 B = { s with bars := fun i => if i = (0 : Int).toNat then B else s.bars i } := by unfold Intc.bar; rw [hhas, hlev]; rfl
        rw [e] at R4
        refine R4.congr hn.symm (fun j hj => (hs j hj).1.symm) (fun j hj => (hs j hj).2.1.symm) (fun j hj => (hs j hj).2.2.1.symm) (fun j hj v hv => ((hs j hj).2.2.2 v hv).symm) (fun v hv => ?_) (fun v hv => ?_)
        · simp only [F, great]
          by_cases e : v = 0
          · simp [e]
          · have : ¬ v = (0 : Int).toNat := by simpa using e
            rw [if_neg e, if_neg this, (hbars v hv).1]
        · exact (hbars v hv).2.symm
      have hokF : F.Ok := ⟨by simp [F, great], by simp [F, great]⟩
      have hasF : F.has 0 = true := has_iff.2 ⟨by omega, by simp [F, great]⟩
      refine Claim_of RF hokF (fun h5 R5 k5 => ?_)
      rw [hasF]
      have hokC : (F.claim 0).Ok := by unfold Intc.claim; split <;> exact ⟨hokF.lo, hokF.hi⟩
      obtain ⟨f0, f1⟩ := first_range (s := F) 0
      refine Told_of R5 hokC (fun h6 k6 => ?_)
      refine br_t (by simp) (br_t (by simp [hbest]) ?_)
      refine br_if (fun _ => hQ _) (fun e => ?_)
      have hne : best ≠ 0 := by simpa using e
      have hpos : 0 < F.first 0 := by omega
      have hS : isSource best = true := isSource_iff.2 ⟨by omega, by omega⟩
      have hcl : F.claim 0 = { F with sources_pending := fun i => if i = (F.first 0).toNat then false else F.sources_pending i, sources_taken := fun i => if i = (F.first 0).toNat then 0 + 1 else F.sources_taken i } := by
        unfold Intc.claim; rw [hasF]; simp [hpos]
      rw [hS, hcl]
      rw [hcl] at R5 hokC
      refine br_t (by simp [hbest]) (br_t ?_ ?_)
      · simp [hbest, wrap64]
      · refine Complete_of (R5.keeps k6 (fun x => x)) hokC (fun h7 R7 k7 => ?_)
        have hh : Intc.has { F with sources_pending := fun i => if i = (F.first 0).toNat then false else F.sources_pending i, sources_taken := fun i => if i = (F.first 0).toNat then 0 + 1 else F.sources_taken i } 0 = true := hasF
        rw [hS, hh, hbest]
        simp
        exact hQ _
    | succ m ih =>
      intro i best level h3 s hi h1i hob R hn hs hbars hb0 hbi hl0 hl1 hpick
      refine H _ _ _ _ _ _ _ ?_
      unfold palisadelaw20_VintcGreatest.b7
      refine br_t (by simp; omega) ?_
      rw [wrap64]
      refine ix_of (by omega) (by omega) ?_
      have hok : s.Ok := ⟨by omega, by omega⟩
      have hin : ((i : Int) - 1).toNat = i - 1 := by omega
      rw [hin]
      refine rdI_of (harr h3 hob (i - 1) (by omega)) ?_
      have hPi : ibits .and .i64 (l.getD (i - 1) 0) 7 = P i := rfl
      rw [hPi]
      have hS : isSource (i : Int) = true := isSource_iff.2 ⟨by omega, by omega⟩
      have hL : isLevel (P i) = true := isLevel_iff.2 (hP i)
      refine Weigh_of R hok (fun h4 R4 k4 => ?_)
      rw [hS, hL]
      refine br_f rfl ?_
      have e4 : s.weigh i (P i) = { s with sources_priority := fun j => if j = (i : Int).toNat then P i else s.sources_priority j } := by unfold Intc.weigh; rw [hS, hL]; rfl
      rw [e4] at R4
      refine Enable_of R4 ⟨hok.lo, hok.hi⟩ (fun h5 R5 k5 => ?_)
      have hhas : Intc.has { s with sources_priority := fun j => if j = (i : Int).toNat then P i else s.sources_priority j } 0 = true := has_iff.2 ⟨by omega, by simp [hn]⟩
      rw [hS, hhas]
      refine br_f rfl ?_
      have e5 : Intc.enable { s with sources_priority := fun j => if j = (i : Int).toNat then P i else s.sources_priority j } 0 i true = { s with sources_priority := fun j => if j = (i : Int).toNat then P i else s.sources_priority j, sources_enabled := fun j v => if j = (i : Int).toNat ∧ v = (0 : Int).toNat then true else s.sources_enabled j v } := by unfold Intc.enable; rw [hS, hhas]; rfl
      rw [e5] at R5
      have hobk : ∀ {x y : Heap}, Keeps (· = c) x y → x.obj b = h1.obj b → y.obj b = h1.obj b := by
        intro x y k e
        exact (k.same b (by rw [e, ho1]; simp) hbc).trans e
      have ob5 : h5.obj b = h1.obj b := hobk k5 (hobk k4 hob)
      refine ⟨(wrapu64_range _).1, ?_⟩
      have hbit : (ibits .and .i64 (shrI .i64 raised (IntKind.u64.wrap (i : Int))) 1 == 1) = bit raised i := rfl
      rw [hbit]
      have hFmay : F.may 0 i = bit raised i := by
        simp only [F, great, Intc.may]
        have : decide (1 ≤ i) = true := by simpa using h1i
        have h2 : decide (i < 17) = true := by simp; omega
        simp [this, h2]
      have hFpr : F.sources_priority i = P i := by simp only [F, great]; rw [if_pos ⟨h1i, by omega⟩]
      have hpick' := hpick
      unfold Intc.pick at hpick'
      rw [hFmay, hFpr] at hpick'
      -- the state behind this round
      have st : ∀ (pd : Nat → Bool), (∀ j, j < 17 → pd j = (great P raised 0 (i + 1)).sources_pending j) → ∀ j, j < 17 → pd j = (great P raised 0 (i + 1)).sources_pending j ∧ s.sources_taken j = 0 ∧ (if j = (i : Int).toNat then P i else s.sources_priority j) = (great P raised 0 (i + 1)).sources_priority j ∧
          (∀ v, v < 4 → (if j = (i : Int).toNat ∧ v = (0 : Int).toNat then true else s.sources_enabled j v) = (great P raised 0 (i + 1)).sources_enabled j v) := by
        intro pd hpd j hj
        obtain ⟨_, q2, q3, q4⟩ := hs j hj
        refine ⟨hpd j hj, q2, ?_, ?_⟩
        · by_cases e : j = i
          · subst e; simp [great, h1i]
          · have : ¬ j = (i : Int).toNat := by omega
            rw [if_neg this, q3]
            simp only [great]
            by_cases e2 : 1 ≤ j ∧ j < i
            · rw [if_pos e2, if_pos (by omega)]
            · rw [if_neg e2, if_neg (by omega)]
        · intro v hv
          by_cases e : j = i
          · subst e
            by_cases ev : v = 0
            · subst ev; simp [great, h1i]
            · have : ¬ (j = (j : Int).toNat ∧ v = (0 : Int).toNat) := by simpa using ev
              rw [if_neg this, q4 v hv]; simp [great, ev]
          · have : ¬ (j = (i : Int).toNat ∧ v = (0 : Int).toNat) := by omega
            rw [if_neg this, q4 v hv]
            simp only [great]
            have : decide (j < i) = decide (j < i + 1) := by
              by_cases e2 : j < i
              · simp [e2]; omega
              · simp [e2]; omega
            rw [this]
      have nextI : ∀ (best level : Int) (h' : Heap) (s' : Intc), h'.obj b = h1.obj b → s'.Rep ⟨c, 0⟩ h' → s'.n = 1 → Sofar P raised (i + 1) s' → (∀ v, v < 4 → s'.bars v = 0 ∧ s'.soft v = false) → 0 ≤ best → best < (i : Int) + 1 → (best = 0 → level = B) → (0 < best → level = P best.toNat ∧ B < level) → F.pick 0 m (i + 1) best level = F.first 0 → palisadelaw20_VintcGreatest.j8 I raised B ⟨b, 0⟩ (some ⟨c, 0⟩) best (i : Int) Q h' := by
        intro best level h' s' q1 q2 q3 q4 q5 q6 q7 q8 q9 q10
        unfold palisadelaw20_VintcGreatest.j8
        rw [wrap64]
        exact ih (i + 1) best level h' s' (by omega) (by omega) q1 q2 q3 q4 q5 q6 (by omega) q8 q9 q10
      cases hbi' : bit raised i
      · refine br_f rfl ?_
        rw [hbi'] at hpick'
        simp only [Bool.false_eq_true, false_and, and_false, if_false] at hpick'
        refine nextI best level h5 _ ob5 R5 hn (st _ (fun j hj => ?_)) hbars hb0 (by omega) hl0 hl1 hpick'
        rw [(hs j hj).1]
        simp only [great]
        by_cases e : j = i
        · subst e; simp [hbi']
        · have : decide (j < i) = decide (j < i + 1) := by
            by_cases e2 : j < i
            · simp [e2]; omega
            · simp [e2]; omega
          rw [this]
      · refine br_t rfl ?_
        rw [hbi'] at hpick'
        refine Raise_of R5 ⟨hok.lo, hok.hi⟩ (fun h6 R6 k6 => ?_)
        have e6 : Intc.raise { s with sources_priority := fun j => if j = (i : Int).toNat then P i else s.sources_priority j, sources_enabled := fun j v => if j = (i : Int).toNat ∧ v = (0 : Int).toNat then true else s.sources_enabled j v } i = { s with sources_pending := fun j => if j = (i : Int).toNat then true else s.sources_pending j, sources_priority := fun j => if j = (i : Int).toNat then P i else s.sources_priority j, sources_enabled := fun j v => if j = (i : Int).toNat ∧ v = (0 : Int).toNat then true else s.sources_enabled j v } := by unfold Intc.raise; rw [hS]; rfl
        rw [e6] at R6
        have ob6 : h6.obj b = h1.obj b := hobk k6 ob5
        have pd6 : ∀ j, j < 17 → (if j = (i : Int).toNat then true else s.sources_pending j) = (great P raised 0 (i + 1)).sources_pending j := by
          intro j hj
          by_cases e : j = i
          · subst e; simp [great, hbi', h1i]
          · have : ¬ j = (i : Int).toNat := by omega
            rw [if_neg this, (hs j hj).1]
            simp only [great]
            have : decide (j < i) = decide (j < i + 1) := by
              by_cases e2 : j < i
              · simp [e2]; omega
              · simp [e2]; omega
            rw [this]
        have stay : ¬ level < P i → palisadelaw20_VintcGreatest.j8 I raised B ⟨b, 0⟩ (some ⟨c, 0⟩) best (i : Int) Q h6 := by
          intro hlt
          rw [if_neg (by intro x; exact hlt x.2.2)] at hpick'
          exact nextI best level h6 _ ob6 R6 hn (st _ pd6) hbars hb0 (by omega) hl0 hl1 hpick'
        have take_ : level < P i → B < P i → palisadelaw20_VintcGreatest.j15 I raised B ⟨b, 0⟩ (some ⟨c, 0⟩) (i : Int) Q h6 := by
          intro hlt hB
          rw [if_pos ⟨by omega, rfl, hlt⟩] at hpick'
          unfold palisadelaw20_VintcGreatest.j15
          exact nextI (i : Int) (P i) h6 _ ob6 R6 hn (st _ pd6) hbars (by omega) (by omega) (by omega) (fun _ => ⟨by simp, hB⟩) hpick'
        refine br_if (fun e => ?_) (fun e => ?_)
        · have hB : B < P i := by simpa using e
          refine br_if (fun e => ?_) (fun e => ?_)
          · have hb : best = 0 := by simpa using e
            exact take_ (by rw [hl0 hb]; exact hB) hB
          · have hb : best ≠ 0 := by simpa using e
            have hlv := (hl1 (by omega)).1
            rw [wrap64]
            refine ix_of (by omega) (by omega) ?_
            have hbn : (best - 1).toNat = best.toNat - 1 := by omega
            rw [hbn]
            refine rdI_of (harr h6 ob6 (best.toNat - 1) (by omega)) ?_
            have hPb : ibits .and .i64 (l.getD (best.toNat - 1) 0) 7 = P best.toNat := rfl
            rw [hPb, ← hlv]
            refine br_if (fun e => take_ (by simpa using e) hB) (fun e => stay (by simpa using e))
        · have hB : ¬ B < P i := by simpa using e
          refine stay (fun hlt => ?_)
          rcases Int.lt_or_eq_of_le hb0 with hb | hb
          · have := hl1 hb; omega
          · have := hl0 hb.symm; omega
  refine main 16 1 0 B h2 (Intc.new 1) rfl (by omega) (k2.same b (by rw [ho1]; simp) (fun x => x)) R2 rfl (fun j hj => ?_) (fun _ _ => ⟨rfl, rfl⟩) (by omega) (by omega) (fun _ => rfl) (fun x => by omega) ?_
  · simp [Intc.new, great]
    refine ⟨?_, ?_, ?_⟩ <;> intros <;> omega
  · show _ = F.first 0
    unfold Intc.first
    conv => rhs; unfold Intc.pick
    simp [F, great]

end Go.Vintc

/- VintcPlays: a controller under any calls does as the document says. -/
import Derived.Test.YtlnigofbpnehlaaVintcRef
import Derived.Test.YtlnigofbpnehlaaVintcOnce
set_option linter.unusedSimpArgs false
set_option linter.unusedVariables false
set_option maxRecDepth 100000
namespace Go.Vintc
open Go.Lift Go.Fn

structure Both (c r : Ptr) (s : Intc) (h : Heap) : Prop where
  R1 : s.Rep c h
  R2 : s.ref.Rep r h
  fit : s.Fit
  ne : c.b ≠ r.b

variable {c r : Ptr} {s : Intc} {h h' : Heap}

theorem Both.none (B : Both c r s h) (k : Keeps none_ h h') : Both c r s h' := ⟨B.R1.keeps k (fun x => x), B.R2.keeps k (fun x => x), B.fit, B.ne⟩

theorem fit_raise (F : s.Fit) (a : Int) : (s.raise a).Fit ∧ (s.raise a).n = s.n := by
  unfold Intc.raise
  split
  · exact ⟨⟨⟨F.ok.lo, F.ok.hi⟩, F.tk⟩, rfl⟩
  · exact ⟨F, rfl⟩
theorem fit_enable (F : s.Fit) (v a : Int) (on : Bool) : (s.enable v a on).Fit ∧ (s.enable v a on).n = s.n := by
  unfold Intc.enable
  split
  · exact ⟨⟨⟨F.ok.lo, F.ok.hi⟩, F.tk⟩, rfl⟩
  · exact ⟨F, rfl⟩
theorem fit_weigh (F : s.Fit) (v a : Int) : (s.weigh v a).Fit ∧ (s.weigh v a).n = s.n := by
  unfold Intc.weigh
  split
  · exact ⟨⟨⟨F.ok.lo, F.ok.hi⟩, F.tk⟩, rfl⟩
  · exact ⟨F, rfl⟩
theorem fit_bar (F : s.Fit) (v a : Int) : (s.bar v a).Fit ∧ (s.bar v a).n = s.n := by
  unfold Intc.bar
  split
  · exact ⟨⟨⟨F.ok.lo, F.ok.hi⟩, F.tk⟩, rfl⟩
  · exact ⟨F, rfl⟩
theorem fit_poke (F : s.Fit) (v : Int) : (s.poke v).Fit ∧ (s.poke v).n = s.n := by
  unfold Intc.poke
  split
  · exact ⟨⟨⟨F.ok.lo, F.ok.hi⟩, F.tk⟩, rfl⟩
  · exact ⟨F, rfl⟩
theorem fit_soften (F : s.Fit) (v : Int) : (s.soften v).Fit ∧ (s.soften v).n = s.n := by
  unfold Intc.soften
  split
  · exact ⟨⟨⟨F.ok.lo, F.ok.hi⟩, F.tk⟩, rfl⟩
  · exact ⟨F, rfl⟩
theorem fit_complete (F : s.Fit) (v a : Int) : (s.complete v a).Fit ∧ (s.complete v a).n = s.n := by
  unfold Intc.complete
  split
  · refine ⟨⟨⟨F.ok.lo, F.ok.hi⟩, fun i hi => ?_⟩, rfl⟩
    have := F.tk i hi
    simp only
    split <;> omega
  · exact ⟨F, rfl⟩
theorem fit_claim (F : s.Fit) (v : Int) : (s.claim v).Fit ∧ (s.claim v).n = s.n := by
  unfold Intc.claim
  split
  · rename_i hc
    simp only [Bool.and_eq_true] at hc
    have hv := has_iff.1 hc.1
    have := F.ok.hi
    refine ⟨⟨⟨F.ok.lo, F.ok.hi⟩, fun i hi => ?_⟩, rfl⟩
    have := F.tk i hi
    simp only
    split <;> omega
  · exact ⟨F, rfl⟩

/-- Both have gone on. -/
def Goes (c r : Ptr) (s : Intc) (h : Heap) (Q : Heap → Prop) : Prop := ∀ h' s', Both c r s' h' → s'.n = s.n → Keeps (fun b => b = c.b ∨ b = r.b) h h' → Q h'

theorem kc (k : Keeps (· = c.b) h h') : Keeps (fun b => b = c.b ∨ b = r.b) h h' := k.mono (fun _ x => .inl x)
theorem kr (k : Keeps (· = r.b) h h') : Keeps (fun b => b = c.b ∨ b = r.b) h h' := k.mono (fun _ x => .inr x)
theorem kn (k : Keeps none_ h h') : Keeps (fun b => b = c.b ∨ b = r.b) h h' := k.mono (fun _ x => x.elim)

theorem does_of (B : Both c r s h) (a3 a4 a5 a6 : Int) (a7 : Bool) {Q : Bool → Heap → Prop} (hq : Goes c r s h (Q true)) : palisadelaw20_does (some c) (some r) a3 a4 a5 a6 a7 Q h := by
  unfold palisadelaw20_does
  refine al_of (fun b h1 hb ho1 k1 => loc_I ho1 rfl ?_)
  have B1 := B.none k1
  have hbc : b ≠ c.b := fun e => B.R1.known (e ▸ hb)
  have hbr : b ≠ r.b := fun e => B.R2.known (e ▸ hb)
  have fin : ∀ (h' : Heap) (s' : Intc), s'.Rep c h' → s'.ref.Rep r h' → s'.Fit ∧ s'.n = s.n → Keeps (fun b => b = c.b ∨ b = r.b) h1 h' → Q true h' :=
    fun h' s' q1 q2 q3 q4 => hq h' s' ⟨q1, q2, q3.1, B.ne⟩ q3.2 ((kn k1).trans q4)
  have hok := B.fit.ok
  refine br_if (fun _ => ?_) (fun _ => br_if (fun _ => ?_) (fun _ => br_if (fun _ => ?_) (fun _ => br_if (fun _ => ?_) (fun _ => br_if (fun _ => ?_) (fun _ => br_if (fun _ => ?_) (fun _ => br_if (fun _ => ?_) (fun _ => br_if (fun _ => ?_) (fun _ => ?_))))))))
  · -- Raise
    refine loc_I ho1 rfl ?_
    rw [Is_eq]
    cases hs : isSource a5
    · refine br_t rfl (loc_I ho1 rfl (Raise_of B1.R1 hok (fun h2 R2 k2 => ?_)))
      have e : s.raise a5 = s := by unfold Intc.raise; rw [hs]; rfl
      rw [hs]; rw [e] at R2
      exact fin h2 s R2 (B1.R2.keeps k2 B.ne.symm) ⟨B.fit, rfl⟩ (kc k2)
    · refine br_f rfl (loc_I ho1 rfl ?_)
      rw [der_some]
      have hS := isSource_iff.1 hs
      refine ix_of (by omega) (by omega) (B1.R2.wr_sources_pending (i := a5.toNat) (by omega) (fun h2 R2 k2 => ?_))
      refine loc_I (k2.obj ho1 hbr) rfl (Raise_of (B1.R1.keeps k2 B.ne) hok (fun h3 R3 k3 => ?_))
      rw [hs]
      refine fin h3 (s.raise a5) R3 ?_ (fit_raise B.fit a5) ((kr k2).trans (kc k3))
      have e : s.raise a5 = { s with sources_pending := fun i => if i = a5.toNat then true else s.sources_pending i } := by unfold Intc.raise; rw [hs]; rfl
      rw [e]
      exact R2.keeps k3 B.ne.symm
  · -- Enable
    refine loc_I ho1 rfl (loc_I ho1 rfl (loc_B ho1 rfl (loc_I ho1 rfl (loc_I ho1 rfl (loc_B ho1 rfl (Enable_of B1.R1 hok (fun h2 R2 k2 => ?_)))))))
    have ho2 := k2.obj ho1 hbc
    refine ⟨⟨(get_cells ho2 _).trans rfl, trivial⟩, ⟨(get_cells ho2 _).trans rfl, trivial⟩, ⟨(get_cells ho2 _).trans rfl, trivial⟩, ?_⟩
    refine rEnable_of (B1.R2.keeps k2 B.ne.symm) B.fit (fun h3 R3 k3 => ?_)
    rw [beq_self_eq_true]
    exact fin h3 _ (R2.keeps k3 B.ne) R3 (fit_enable B.fit _ _ _) ((kc k2).trans (kr k3))
  · -- Weigh
    refine loc_I ho1 rfl ?_
    rw [Is_eq]
    have bad : (isSource a5 && isLevel a6) = false → vintc_Intc_Weigh (some c) a5 a6 (fun r24 h => Q (r24 == 2) h) h1 := by
      intro hb
      refine Weigh_of B1.R1 hok (fun h2 R2 k2 => ?_)
      have e : s.weigh a5 a6 = s := by unfold Intc.weigh; rw [hb]; rfl
      rw [hb]; rw [e] at R2
      exact fin h2 s R2 (B1.R2.keeps k2 B.ne.symm) ⟨B.fit, rfl⟩ (kc k2)
    cases hs : isSource a5
    · exact br_t rfl (loc_I ho1 rfl (loc_I ho1 rfl (bad (by rw [hs]; rfl))))
    · refine br_f rfl (loc_I ho1 rfl (br_if (fun e => loc_I ho1 rfl (loc_I ho1 rfl (bad ?_))) (fun e1 => loc_I ho1 rfl (br_if (fun e => loc_I ho1 rfl (loc_I ho1 rfl (bad ?_))) (fun e2 => ?_)))))
      · have : isLevel a6 = false := by simp [isLevel] at e ⊢; omega
        rw [this, Bool.and_false]
      · have : isLevel a6 = false := by simp [isLevel] at e ⊢; omega
        rw [this, Bool.and_false]
      · have hl : isLevel a6 = true := by simp at e1 e2; exact isLevel_iff.2 ⟨by omega, by omega⟩
        refine loc_I ho1 rfl (loc_I ho1 rfl ?_)
        rw [der_some]
        have hS := isSource_iff.1 hs
        refine ix_of (by omega) (by omega) (B1.R2.wr_sources_priority (i := a5.toNat) (by omega) (fun h2 R2 k2 => ?_))
        have ho2 := k2.obj ho1 hbr
        refine loc_I ho2 rfl (loc_I ho2 rfl (Weigh_of (B1.R1.keeps k2 B.ne) hok (fun h3 R3 k3 => ?_)))
        rw [hs, hl]
        refine fin h3 _ R3 ?_ (fit_weigh B.fit _ _) ((kr k2).trans (kc k3))
        have e : s.weigh a5 a6 = { s with sources_priority := fun i => if i = a5.toNat then a6 else s.sources_priority i } := by unfold Intc.weigh; rw [hs, hl]; rfl
        rw [e]
        exact R2.keeps k3 B.ne.symm
  · -- Bar
    refine loc_I ho1 rfl (Has_of B1.R2 ?_)
    have bad : (s.has a4 && isLevel a6) = false → vintc_Intc_Bar (some c) a4 a6 (fun r24 h => Q (r24 == 2) h) h1 := by
      intro hb
      refine Bar_of B1.R1 hok (fun h2 R2 k2 => ?_)
      have e : s.bar a4 a6 = s := by unfold Intc.bar; rw [hb]; rfl
      rw [hb]; rw [e] at R2
      exact fin h2 s R2 (B1.R2.keeps k2 B.ne.symm) ⟨B.fit, rfl⟩ (kc k2)
    cases hs : s.has a4
    · exact br_t rfl (loc_I ho1 rfl (loc_I ho1 rfl (bad (by rw [hs]; rfl))))
    · refine br_f rfl (loc_I ho1 rfl (br_if (fun e => loc_I ho1 rfl (loc_I ho1 rfl (bad ?_))) (fun e1 => loc_I ho1 rfl (br_if (fun e => loc_I ho1 rfl (loc_I ho1 rfl (bad ?_))) (fun e2 => ?_)))))
      · have : isLevel a6 = false := by simp [isLevel] at e ⊢; omega
        rw [this, Bool.and_false]
      · have : isLevel a6 = false := by simp [isLevel] at e ⊢; omega
        rw [this, Bool.and_false]
      · have hl : isLevel a6 = true := by simp at e1 e2; exact isLevel_iff.2 ⟨by omega, by omega⟩
        refine loc_I ho1 rfl (loc_I ho1 rfl ?_)
        rw [der_some]
        have hV := has_iff.1 hs
        have := hok.hi
        refine ix_of (by omega) (by omega) (B1.R2.wr_bars (i := a4.toNat) (by omega) (fun h2 R2 k2 => ?_))
        have ho2 := k2.obj ho1 hbr
        refine loc_I ho2 rfl (loc_I ho2 rfl (Bar_of (B1.R1.keeps k2 B.ne) hok (fun h3 R3 k3 => ?_)))
        rw [hs, hl]
        refine fin h3 _ R3 ?_ (fit_bar B.fit _ _) ((kr k2).trans (kc k3))
        have e : s.bar a4 a6 = { s with bars := fun i => if i = a4.toNat then a6 else s.bars i } := by unfold Intc.bar; rw [hs, hl]; rfl
        rw [e]
        exact R2.keeps k3 B.ne.symm
  · -- Claim
    refine loc_I ho1 rfl (Claim_of B1.R1 hok (fun h2 R2 k2 => ?_))
    refine loc_I (k2.obj ho1 hbc) rfl (rClaim_of (B1.R2.keeps k2 B.ne.symm) B.fit (fun h3 R3 k3 => ?_))
    refine br_t (by simp) ?_
    rw [beq_self_eq_true]
    exact fin h3 _ (R2.keeps k3 B.ne) R3 (fit_claim B.fit _) ((kc k2).trans (kr k3))
  · -- Complete
    refine loc_I ho1 rfl (loc_I ho1 rfl (loc_I ho1 rfl (loc_I ho1 rfl (Complete_of B1.R1 hok (fun h2 R2 k2 => ?_)))))
    have ho2 := k2.obj ho1 hbc
    refine ⟨⟨(get_cells ho2 _).trans rfl, trivial⟩, ⟨(get_cells ho2 _).trans rfl, trivial⟩, ?_⟩
    refine rComplete_of (B1.R2.keeps k2 B.ne.symm) B.fit (fun h3 R3 k3 => ?_)
    rw [beq_self_eq_true]
    exact fin h3 _ (R2.keeps k3 B.ne) R3 (fit_complete B.fit _ _) ((kc k2).trans (kr k3))
  · -- Poke
    refine loc_I ho1 rfl (Has_of B1.R2 ?_)
    cases hs : s.has a4
    · refine br_t rfl (loc_I ho1 rfl (Poke_of B1.R1 hok (fun h2 R2 k2 => ?_)))
      have e : s.poke a4 = s := by unfold Intc.poke; rw [hs]; rfl
      rw [hs]; rw [e] at R2
      exact fin h2 s R2 (B1.R2.keeps k2 B.ne.symm) ⟨B.fit, rfl⟩ (kc k2)
    · refine br_f rfl (loc_I ho1 rfl ?_)
      rw [der_some]
      have hV := has_iff.1 hs
      have := hok.hi
      refine ix_of (by omega) (by omega) (B1.R2.wr_soft (i := a4.toNat) (by omega) (fun h2 R2 k2 => ?_))
      have ho2 := k2.obj ho1 hbr
      refine loc_I ho2 rfl (Poke_of (B1.R1.keeps k2 B.ne) hok (fun h3 R3 k3 => ?_))
      rw [hs]
      refine fin h3 _ R3 ?_ (fit_poke B.fit _) ((kr k2).trans (kc k3))
      have e : s.poke a4 = { s with soft := fun i => if i = a4.toNat then true else s.soft i } := by unfold Intc.poke; rw [hs]; rfl
      rw [e]
      exact R2.keeps k3 B.ne.symm
  · -- Soft
    refine loc_I ho1 rfl (Has_of B1.R2 ?_)
    cases hs : s.has a4
    · refine br_f rfl (loc_I ho1 rfl (Soft_of B1.R1 hok (fun h2 R2 k2 => ?_)))
      have e : s.soften a4 = s := by unfold Intc.soften; rw [hs]; rfl
      rw [hs]; rw [e] at R2
      exact fin h2 s R2 (B1.R2.keeps k2 B.ne.symm) ⟨B.fit, rfl⟩ (kc k2)
    · refine br_t rfl (loc_I ho1 rfl ?_)
      rw [der_some]
      have hV := has_iff.1 hs
      have := hok.hi
      refine ix_of (by omega) (by omega) (B1.R2.rd_soft (i := a4.toNat) (by omega) (loc_I ho1 rfl ?_))
      rw [der_some]
      refine ix_of (by omega) (by omega) (B1.R2.wr_soft (i := a4.toNat) (by omega) (fun h2 R2 k2 => ?_))
      have ho2 := k2.obj ho1 hbr
      refine loc_I ho2 rfl (Soft_of (B1.R1.keeps k2 B.ne) hok (fun h3 R3 k3 => ?_))
      rw [hs, Bool.true_and]
      have e0 : s.ref.soft a4.toNat = s.soft a4.toNat := rfl
      rw [e0, beq_self_eq_true]
      refine fin h3 _ R3 ?_ (fit_soften B.fit _) ((kr k2).trans (kc k3))
      have e : s.soften a4 = { s with soft := fun i => if i = a4.toNat then false else s.soft i } := by unfold Intc.soften; rw [hs]; rfl
      rw [e]
      exact R2.keeps k3 B.ne.symm
  · exact fin h1 s B1.R1 B1.R2 ⟨B.fit, rfl⟩ (Keeps.refl _ _)

theorem plays (a1 : Int) (a2 : Sl) (h : Heap) (A : Acts a2.p a2.len h) (Q : Bool → Heap → Prop) (hQ : ∀ h', Q true h') : palisadelaw20_VintcPlays a1 a2 Q h := by
  unfold palisadelaw20_VintcPlays
  have after : ∀ (r1 r3 : Option Ptr) (h' : Heap), r1.isNone = r3.isNone → palisadelaw20_VintcPlays.j6 a2 r1 r3 0 Q h' → (br (!(r1.isNone == r3.isNone)) (palisadelaw20_VintcPlays.j4 Q h') (palisadelaw20_names (fun r5 h => br (!r5) (palisadelaw20_VintcPlays.j4 Q h) (palisadelaw20_VintcPlays.j6 a2 r1 r3 0 Q h)) h')) := by
    intro r1 r3 h' e hj
    refine br_f (by rw [e]; simp) ?_
    exact hj
  have nobodyThere : ∀ h', palisadelaw20_VintcPlays.j6 a2 none none 0 Q h' := by
    intro h'
    unfold palisadelaw20_VintcPlays.j6
    intro I H
    refine H _ _ _ _ _ ?_
    unfold palisadelaw20_VintcPlays.b6
    refine br_if (fun _ => hQ _) (fun _ => hQ _)
  refine New_of (fun hbad => rNew_of (fun _ => ?_) (fun _ _ => by omega)) (fun n0 n1 c h1 hc R1 k1 => rNew_of (fun _ => by omega) (fun _ _ r h2 hr R2 k2 => ?_))
  · exact br_f rfl (after none none _ rfl (nobodyThere _))
  refine br_f rfl (after _ _ _ rfl ?_)
  have hcr : c ≠ r := fun e => R1.known (e ▸ hr)
  have B0 : Both ⟨c, 0⟩ ⟨r, 0⟩ (Intc.new a1) h2 := ⟨R1.keeps k2 (fun x => x), R2, ⟨⟨n0, n1⟩, fun i hi => ⟨by simp [Intc.new], by simp [Intc.new]⟩⟩, hcr⟩
  have A1 := A.keeps k1 (fun _ _ x => x)
  have A2 := A1.keeps k2 (fun _ _ x => x)
  unfold palisadelaw20_VintcPlays.j6
  intro I H
  rcases Nat.eq_zero_or_pos a2.len with hl0 | hlp
  · refine H _ _ _ _ _ ?_
    unfold palisadelaw20_VintcPlays.b6
    rw [hl0]
    exact hQ _
  have far : ∀ p, a2.p = some p → ¬ (p.b = c ∨ p.b = r) := by
    intro p hp
    rw [hp] at A A1
    rintro (e | e)
    · exact A.known hlp (e ▸ hc)
    · exact A1.known hlp (e ▸ hr)
  have main : ∀ (m k : Nat) (h3 : Heap) (s : Intc), k + m = a2.len → Acts a2.p a2.len h3 → Both ⟨c, 0⟩ ⟨r, 0⟩ s h3 → I a2 (some ⟨c, 0⟩) (some ⟨r, 0⟩) (k : Int) h3 := by
    intro m
    induction m with
    | zero =>
      intro k h3 s hk A3 B
      refine H _ _ _ _ _ ?_
      unfold palisadelaw20_VintcPlays.b6
      exact br_f (by simp; omega) (hQ _)
    | succ m ih =>
      intro k h3 s hk A3 B
      refine H _ _ _ _ _ ?_
      unfold palisadelaw20_VintcPlays.b6
      refine br_t (by simp; omega) (br_t rfl ?_)
      refine ix_of (by omega) (by omega) ?_
      have hlen := A3.1
      obtain ⟨p, hp, x1, x2, x3, x4, x5, g1, g2, g3, g4, g5⟩ := A3.2 k (by omega)
      rw [hp, der_some]
      refine rdI_of g1 (rdI_of g2 (rdI_of g3 (rdI_of g4 (rdB_of g5 ?_))))
      refine does_of B _ _ _ _ _ (fun h4 s4 B4 hn4 k4 => ?_)
      refine br_f rfl ?_
      have A4 := A3.keeps k4 far
      unfold palisadelaw20_VintcPlays.j11
      intro J HJ
      have lines : ∀ (m' : Nat) (v : Int) (h5 : Heap), v + m' = 5 → -1 ≤ v → Keeps none_ h4 h5 → J a2 (some ⟨c, 0⟩) (some ⟨r, 0⟩) (k : Int) v h5 := by
        intro m'
        induction m' with
        | zero =>
          intro v h5 hv hv1 k5
          refine HJ _ _ _ _ _ _ ?_
          unfold palisadelaw20_VintcPlays.b11
          refine br_f (by simp; omega) ?_
          unfold palisadelaw20_VintcPlays.j16
          intro L HL
          have tolds : ∀ (m2 x : Nat) (h6 : Heap), x + m2 = 18 → Keeps none_ h4 h6 → L a2 (some ⟨c, 0⟩) (some ⟨r, 0⟩) (k : Int) (x : Int) h6 := by
            intro m2
            induction m2 with
            | zero =>
              intro x h6 hx k6
              refine HL _ _ _ _ _ _ ?_
              unfold palisadelaw20_VintcPlays.b16
              refine br_f (by simp; omega) ?_
              rw [wrap64]
              exact ih (k + 1) h6 s4 (by omega) (A4.keeps k6 (fun _ _ x => x)) (B4.none k6)
            | succ m2 ih2 =>
              intro x h6 hx k6
              refine HL _ _ _ _ _ _ ?_
              unfold palisadelaw20_VintcPlays.b16
              refine br_t (by simp; omega) ?_
              have B6 := B4.none k6
              refine Told_of B6.R1 B6.fit.ok (fun h7 k7 => ?_)
              rw [Is_eq]
              have B7 := B6.none k7
              have done : palisadelaw20_VintcPlays.j17 I L a2 (some ⟨c, 0⟩) (some ⟨r, 0⟩) (k : Int) (x : Int) Q h7 := by
                unfold palisadelaw20_VintcPlays.j17
                rw [wrap64]
                exact ih2 (x + 1) h7 (by omega) (k6.trans k7)
              cases hs : isSource (x : Int)
              · refine br_f rfl ?_
                rw [Is_eq, hs]
                exact br_t rfl (br_f rfl (br_f rfl done))
              · have hS := isSource_iff.1 hs
                refine br_t rfl ?_
                rw [der_some]
                refine ix_of (by omega) (by omega) (B7.R2.rd_sources_pending (i := (x : Int).toNat) (by omega) ?_)
                have e0 : s4.ref.sources_pending (x : Int).toNat = s4.sources_pending (x : Int).toNat := rfl
                refine br_f (by rw [e0]; simp) ?_
                rw [der_some]
                refine ix_of (by omega) (by omega) (B7.R2.rd_sources_taken (i := (x : Int).toNat) (by omega) ?_)
                have e1 : s4.ref.sources_taken (x : Int).toNat = s4.sources_taken (x : Int).toNat - 1 := rfl
                have ht := B7.fit.tk (x : Int).toNat (by omega)
                refine br_f (by rw [e1, wrap64]; simp) ?_
                rw [Is_eq, hs]
                exact br_f rfl done
          exact tolds 18 0 h5 rfl k5
        | succ m' ih' =>
          intro v h5 hv hv1 k5
          refine HJ _ _ _ _ _ _ ?_
          unfold palisadelaw20_VintcPlays.b11
          refine br_t (by simp; omega) ?_
          have B5 := B4.none k5
          refine Line_of B5.R1 B5.fit.ok (fun h6 k6 => ?_)
          have B6 := B5.none k6
          refine Has_of B6.R2 ?_
          have done : ∀ h7, Keeps none_ h4 h7 → palisadelaw20_VintcPlays.j12 I J a2 (some ⟨c, 0⟩) (some ⟨r, 0⟩) (k : Int) v Q h7 := by
            intro h7 k7
            unfold palisadelaw20_VintcPlays.j12
            rw [wrap64]
            exact ih' (v + 1) h7 (by omega) (by omega) k7
          cases hs : s4.has v
          · exact br_f rfl (br_f rfl (done _ (k5.trans k6)))
          · have hV := has_iff.1 hs
            have := B6.fit.ok.hi
            refine br_t rfl (rFirst_of B6.R2 B6.fit (by omega) (by omega) (fun h7 k7 => ?_))
            exact br_f (by simp) (done _ ((k5.trans k6).trans k7))
      exact lines 6 (-1) h4 rfl (by omega) (Keeps.refl _ _)
  exact main a2.len 0 h2 _ (by omega) A2 B0

end Go.Vintc

/- VintcOnce: a source is taken by one at a time, and heard once a raise at most. -/
import Derived.Test.YtlnigofbpnehlaaVintc
set_option linter.unusedSimpArgs false
set_option linter.unusedVariables false
set_option maxRecDepth 100000
namespace Go.Vintc
open Go.Lift Go.Fn

/-- The calls, as they lie in the memory. -/
def Acts (q : Option Ptr) (len : Nat) (h : Heap) : Prop :=
  len ≤ 9223372036854775807 ∧ ∀ i, i < len → ∃ p, q = some p ∧ ∃ (x1 x2 x3 x4 : Int) (x5 : Bool), h.get p.b (p.o + i * 5 + 0) = some (.int .i64 x1) ∧ h.get p.b (p.o + i * 5 + 1) = some (.int .i64 x2) ∧ h.get p.b (p.o + i * 5 + 2) = some (.int .i64 x3) ∧
    h.get p.b (p.o + i * 5 + 3) = some (.int .i64 x4) ∧ h.get p.b (p.o + i * 5 + 4) = some (.bool x5)

theorem Acts.keeps {S : Nat → Prop} {q : Option Ptr} {len : Nat} {h h' : Heap} (A : Acts q len h) (k : Keeps S h h') (hs : ∀ p, q = some p → ¬ S p.b) : Acts q len h' := by
  refine ⟨A.1, fun i hi => ?_⟩
  obtain ⟨p, rfl, x1, x2, x3, x4, x5, h1, h2, h3, h4, h5⟩ := A.2 i hi
  have hk : h.obj p.b ≠ none := by
    intro hn
    unfold Heap.get at h1
    rw [hn] at h1
    cases h1
  have e := k.same p.b hk (hs p rfl)
  exact ⟨p, rfl, x1, x2, x3, x4, x5, by rw [Heap.get_obj e]; exact h1, by rw [Heap.get_obj e]; exact h2, by rw [Heap.get_obj e]; exact h3, by rw [Heap.get_obj e]; exact h4, by rw [Heap.get_obj e]; exact h5⟩

theorem Acts.known {p : Ptr} {len : Nat} {h : Heap} (A : Acts (some p) len h) (hl : 0 < len) : h.obj p.b ≠ none := by
  obtain ⟨p', e, x1, _, _, _, _, h1, _⟩ := A.2 0 hl
  cases e
  intro hn
  unfold Heap.get at h1
  rw [hn] at h1
  cases h1

/-- The calls as an argument brings them. -/
theorem acts_of {x : Sl} {h : Heap} (f : x.len ≤ x.cap ∧ x.cap ≤ maxLen ∧ (x.p = none → x.cap = 0) ∧ ∀ p, x.p = some p → ∀ i, i < x.cap → ∃ cs, cs.length = 5 ∧ (∀ j, j < 5 → h.get p.b (p.o + i * 5 + j) = cs[j]?) ∧
    Fits h (.struct (.cons 0 1 (.int .i64) (.cons 1 1 (.int .i64) (.cons 2 1 (.int .i64) (.cons 3 1 (.int .i64) (.cons 4 1 .bool .nil)))))) cs) : Acts x.p x.len h := by
  obtain ⟨h1, h2, h3, h4⟩ := f
  have hm : maxLen ≤ 9223372036854775807 := by decide
  refine ⟨by omega, fun i hi => ?_⟩
  cases hp : x.p with
  | none => have := h3 hp; omega
  | some p =>
    obtain ⟨cs, hl, hc, hf⟩ := h4 p hp i (by omega)
    match cs, hl with
    | [c0, c1, c2, c3, c4], _ =>
      obtain ⟨⟨n0, e0, _⟩, ⟨n1, e1, _⟩, ⟨n2, e2, _⟩, ⟨n3, e3, _⟩, ⟨n4, e4⟩, _⟩ := hf
      simp at e0 e1 e2 e3 e4
      subst e0 e1 e2 e3 e4
      exact ⟨p, rfl, n0, n1, n2, n3, n4, hc 0 (by omega), hc 1 (by omega), hc 2 (by omega), hc 3 (by omega), hc 4 (by omega)⟩

structure OnceInv (q : Option Ptr) (len : Nat) (n : Int) (c r d t : Nat) (k : Nat) (h : Heap) (s : Intc) (R D T : Nat → Int) : Prop where
  acts : Acts q len h
  rep : s.Rep ⟨c, 0⟩ h
  sn : s.n = n
  ra : IntArr .i64 17 ⟨r, 0⟩ R h
  da : IntArr .i64 17 ⟨d, 0⟩ D h
  ta : IntArr .i64 17 ⟨t, 0⟩ T h
  tk : ∀ i, 1 ≤ i → i < 17 → T i = s.sources_taken i
  cnt : ∀ i, i < 17 → 0 ≤ D i ∧ D i + (if s.sources_pending i then 1 else 0) ≤ R i ∧ R i ≤ k
  apart : c ≠ r ∧ c ≠ d ∧ c ≠ t ∧ r ≠ d ∧ r ≠ t ∧ d ≠ t
  far : ∀ p, q = some p → p.b ≠ c ∧ p.b ≠ r ∧ p.b ≠ d ∧ p.b ≠ t

variable {q : Option Ptr} {len : Nat} {n : Int} {c r d t : Nat} {k : Nat} {h h' : Heap} {s s' : Intc} {R D T : Nat → Int}

theorem OnceInv.none (I : OnceInv q len n c r d t k h s R D T) (kp : Keeps none_ h h') : OnceInv q len n c r d t k h' s R D T :=
  { I with acts := I.acts.keeps kp (fun _ _ x => x), rep := I.rep.keeps kp (fun x => x), ra := I.ra.keeps kp (by omega) (fun x => x), da := I.da.keeps kp (by omega) (fun x => x), ta := I.ta.keeps kp (by omega) (fun x => x) }

theorem OnceInv.onC (I : OnceInv q len n c r d t k h s R D T) (R' : s'.Rep ⟨c, 0⟩ h') (kp : Keeps (· = c) h h') (hn : s'.n = s.n) (htk : ∀ i, 1 ≤ i → i < 17 → T i = s'.sources_taken i)
    (hc : ∀ i, i < 17 → 0 ≤ D i ∧ D i + (if s'.sources_pending i then 1 else 0) ≤ R i ∧ R i ≤ k) : OnceInv q len n c r d t k h' s' R D T :=
  { I with acts := I.acts.keeps kp (fun p hp => (I.far p hp).1), rep := R', sn := hn.trans I.sn, ra := I.ra.keeps kp (by omega) (fun x => I.apart.1 x.symm), da := I.da.keeps kp (by omega) (fun x => I.apart.2.1 x.symm), ta := I.ta.keeps kp (by omega) (fun x => I.apart.2.2.1 x.symm), tk := htk, cnt := hc }

theorem OnceInv.next (I : OnceInv q len n c r d t k h s R D T) : OnceInv q len n c r d t (k + 1) h s R D T :=
  { I with cnt := fun i hi => by have := I.cnt i hi; omega }

theorem once (a1 : Int) (a2 : Sl) (h : Heap) (A : Acts a2.p a2.len h) (Q : Bool → Heap → Prop) (hQ : ∀ h', Q true h') : palisadelaw20_VintcOnce a1 a2 Q h := by
  unfold palisadelaw20_VintcOnce
  have hb := and64_le a1 3 (by omega) (by omega)
  rw [wrap64]
  generalize hn : 1 + ibits .and .i64 a1 3 = n
  have hn1 : 1 ≤ n ∧ n ≤ 4 := by omega
  refine New_of (fun hbad => by omega) (fun _ _ c h1 hc R1 k1 => ?_)
  simp only [br_true, br_false, der_some, if_true, if_false, beq_self_eq_true, bne_self_eq_false, Bool.false_eq_true, Bool.and_true, Bool.true_and, Bool.and_false, Bool.false_and, Bool.not_true, Bool.not_false, Option.isNone_some, Option.isNone_none]
  refine al_of (fun r h2 hr ho2 k2 => al_of (fun d h3 hd ho3 k3 => al_of (fun t h4 ht ho4 k4 => ?_)))
  have R2 := R1.keeps k2 (fun x => x)
  have A1 := A.keeps k1 (fun _ _ x => x)
  have A2 := A1.keeps k2 (fun _ _ x => x)
  have A3 := A2.keeps k3 (fun _ _ x => x)
  have A4 := A3.keeps k4 (fun _ _ x => x)
  have hcr : c ≠ r := fun e => R1.known (e ▸ hr)
  have hcd : c ≠ d := fun e => R2.known (e ▸ hd)
  have R3 := R2.keeps k3 (fun x => x)
  have hct : c ≠ t := fun e => R3.known (e ▸ ht)
  have Ra : IntArr .i64 17 ⟨r, 0⟩ (fun _ => 0) h2 := IntArr.zeros ho2 rfl
  have hrd : r ≠ d := fun e => Ra.known (by omega) (e ▸ hd)
  have Ra3 := Ra.keeps k3 (by omega) (fun x => x)
  have hrt : r ≠ t := fun e => Ra3.known (by omega) (e ▸ ht)
  have Da : IntArr .i64 17 ⟨d, 0⟩ (fun _ => 0) h3 := IntArr.zeros ho3 rfl
  have hdt : d ≠ t := fun e => Da.known (by omega) (e ▸ ht)
  have Ta : IntArr .i64 17 ⟨t, 0⟩ (fun _ => 0) h4 := IntArr.zeros ho4 rfl
  unfold palisadelaw20_VintcOnce.j7
  intro I H
  rcases Nat.eq_zero_or_pos a2.len with hl0 | hlp
  · refine H _ _ _ _ _ _ _ _ ?_
    unfold palisadelaw20_VintcOnce.b7
    rw [hl0]
    exact hQ _
  have I0 : OnceInv a2.p a2.len n c r d t 0 h4 (Intc.new n) (fun _ => 0) (fun _ => 0) (fun _ => 0) := by
    refine ⟨A4, R3.keeps k4 (fun x => x), rfl, Ra3.keeps k4 (by omega) (fun x => x), Da.keeps k4 (by omega) (fun x => x), Ta, fun _ _ _ => rfl, fun i hi => by simp [Intc.new], ⟨hcr, hcd, hct, hrd, hrt, hdt⟩, ?_⟩
    intro p hp
    rw [hp] at A A1 A2 A3
    exact ⟨fun e => A.known hlp (e ▸ hc), fun e => A1.known hlp (e ▸ hr), fun e => A2.known hlp (e ▸ hd), fun e => A3.known hlp (e ▸ ht)⟩
  have main : ∀ (m k : Nat) (h5 : Heap) (s : Intc) (R D T : Nat → Int), k + m = a2.len → OnceInv a2.p a2.len n c r d t k h5 s R D T → I n a2 (some ⟨c, 0⟩) ⟨r, 0⟩ ⟨d, 0⟩ ⟨t, 0⟩ (k : Int) h5 := by
    intro m
    induction m with
    | zero =>
      intro k h5 s R D T hk J
      refine H _ _ _ _ _ _ _ _ ?_
      unfold palisadelaw20_VintcOnce.b7
      refine br_if (fun e => ?_) (fun _ => hQ _)
      simp at e; omega
    | succ m ih =>
      intro k h5 s R D T hk J
      refine H _ _ _ _ _ _ _ _ ?_
      unfold palisadelaw20_VintcOnce.b7
      refine br_if (fun _ => ?_) (fun e => ?_)
      rotate_left
      · simp at e; omega
      refine ix_of (by omega) (by omega) ?_
      have hlen := J.acts.1
      obtain ⟨p, hp, x1, x2, x3, x4, x5, g1, g2, g3, g4, g5⟩ := J.acts.2 k (by omega)
      rw [hp, der_some]
      refine rdI_of g1 (rdI_of g2 (rdI_of g3 (rdI_of g4 (rdB_of g5 ?_))))
      refine al_wrL rfl (fun l h6 hl ho6 k6 => ?_)
      refine loc_I ho6 rfl (loc_I ho6 rfl ⟨by omega, loc_I ho6 rfl ?_⟩)
      have J6 := J.none k6
      have b1 := and64_le x3 15 (by omega) (by omega)
      have b2 := and64_le x2 3 (by omega) (by omega)
      rw [wrap64]
      generalize hS : 1 + ibits .and .i64 x3 15 = S
      have hS1 : 1 ≤ S ∧ S ≤ 16 := by omega
      have hV : 0 ≤ (ibits .and .i64 x2 3).tmod n ∧ (ibits .and .i64 x2 3).tmod n < n := ⟨Int.tmod_nonneg _ (by omega), Int.tmod_lt_of_pos _ (by omega)⟩
      generalize (ibits .and .i64 x2 3).tmod n = W at hV
      have hok : s.Ok := ⟨by rw [J.sn]; omega, by rw [J.sn]; omega⟩
      have hSs : isSource S = true := isSource_iff.2 hS1
      have hWs : s.has W = true := has_iff.2 ⟨hV.1, by rw [J.sn]; exact hV.2⟩
      have hSn : S.toNat < 17 := by omega
      have next : ∀ (h' : Heap) (s' : Intc) (R D T : Nat → Int), OnceInv a2.p a2.len n c r d t (k + 1) h' s' R D T → palisadelaw20_VintcOnce.j8 I n a2 (some ⟨c, 0⟩) ⟨r, 0⟩ ⟨d, 0⟩ ⟨t, 0⟩ (k : Int) Q h' := by
        intro h' s' R D T J'
        unfold palisadelaw20_VintcOnce.j8
        rw [wrap64]
        exact ih (k + 1) h' s' R D T (by omega) J'
      refine br_if (fun _ => ?_) (fun _ => br_if (fun _ => ?_) (fun _ => br_if (fun _ => ?_) (fun _ => br_if (fun _ => ?_) (fun _ => br_if (fun _ => ?_) (fun _ => br_if (fun _ => ?_) (fun _ => ?_))))))
      · -- Raise
        refine Raise_of J6.rep hok (fun h7 R7 k7 => ?_)
        rw [hSs]
        simp only [br_true, br_false, der_some, if_true, if_false, beq_self_eq_true, bne_self_eq_false, Bool.false_eq_true, Bool.and_true, Bool.true_and, Bool.and_false, Bool.false_and, Bool.not_true, Bool.not_false, Option.isNone_some, Option.isNone_none]
        refine ix_of (by omega) (by omega) (J6.ra.keeps k7 (by omega) (fun x => J6.apart.1 x.symm) |>.rd hSn ?_)
        refine ix_of (by omega) (by omega) ?_
        have c1 := J6.cnt S.toNat hSn
        rw [wrap64 (by split at c1 <;> omega) (by split at c1 <;> omega)]
        refine (J6.ra.keeps k7 (by omega) (fun x => J6.apart.1 x.symm)).wr hSn (fun h8 R8 k8 => ?_)
        refine next h8 (s.raise S) (fun j => if j = S.toNat then R S.toNat + 1 else R j) D T ?_
        have hrs : s.raise S = { s with sources_pending := fun i => if i = S.toNat then true else s.sources_pending i } := by unfold Intc.raise; rw [hSs]; rfl
        rw [hrs] at R7 ⊢
        refine { J6 with acts := (J6.acts.keeps k7 (fun p hp => (J6.far p hp).1)).keeps k8 (fun p hp => (J6.far p hp).2.1), rep := R7.keeps k8 J6.apart.1, ra := R8, da := (J6.da.keeps k7 (by omega) (fun x => J6.apart.2.1 x.symm)).keeps k8 (by omega) (fun x => J6.apart.2.2.2.1 x.symm), ta := (J6.ta.keeps k7 (by omega) (fun x => J6.apart.2.2.1 x.symm)).keeps k8 (by omega) (fun x => J6.apart.2.2.2.2.1 x.symm), cnt := ?_ }
        intro i hi
        have ci := J6.cnt i hi
        by_cases e : i = S.toNat
        · subst e; simp only [if_true]; split at ci <;> omega
        · simp only [if_neg e]; omega
      · -- Enable
        refine loc_B ho6 rfl (Enable_of J6.rep hok (fun h7 R7 k7 => ?_))
        rw [hSs, hWs]
        simp only [br_true, br_false, der_some, if_true, if_false, beq_self_eq_true, bne_self_eq_false, Bool.false_eq_true, Bool.and_true, Bool.true_and, Bool.and_false, Bool.false_and, Bool.not_true, Bool.not_false, Option.isNone_some, Option.isNone_none]
        refine next h7 _ R D T (J6.next.onC R7 k7 ?_ ?_ ?_) <;> (unfold Intc.enable; rw [hSs, hWs])
        · rfl
        · exact J6.tk
        · exact J6.next.cnt
      · -- Weigh
        refine loc_I ho6 rfl (Weigh_of J6.rep hok (fun h7 R7 k7 => ?_))
        refine next h7 _ R D T (J6.next.onC R7 k7 ?_ ?_ ?_) <;> (unfold Intc.weigh; split)
        · rfl
        · rfl
        · exact J6.tk
        · exact J6.tk
        · exact J6.next.cnt
        · exact J6.next.cnt
      · -- Bar
        refine loc_I ho6 rfl (Bar_of J6.rep hok (fun h7 R7 k7 => ?_))
        refine next h7 _ R D T (J6.next.onC R7 k7 ?_ ?_ ?_) <;> (unfold Intc.bar; split)
        · rfl
        · rfl
        · exact J6.tk
        · exact J6.tk
        · exact J6.next.cnt
        · exact J6.next.cnt
      · -- Claim
        refine Line_of J6.rep hok (fun h7 k7 => ?_)
        have J7 := J6.none k7
        refine Claim_of J7.rep hok (fun h8 R8 k8 => ?_)
        rw [hWs]
        obtain ⟨f0, f1⟩ := first_range (s := s) W.toNat
        generalize hF : s.first W.toNat = F at *
        simp only [br_true, br_false, der_some, if_true, if_false, beq_self_eq_true, bne_self_eq_false, Bool.false_eq_true, Bool.and_true, Bool.true_and, Bool.and_false, Bool.false_and, Bool.not_true, Bool.not_false, Option.isNone_some, Option.isNone_none]
        refine (br_if (fun e => by simp at e; omega) (fun _ => br_if (fun e => by simp at e; omega) (fun _ => br_if (fun e => ?_) (fun e => ?_))))
        · have hpos : 0 < F := by simpa using e
          have hmay : s.may W.toNat F.toNat = true := by rw [← hF]; exact first_may _ (by rw [hF]; exact hpos)
          have hpend : s.sources_pending F.toNat = true ∧ s.sources_taken F.toNat = 0 := by
            unfold Intc.may at hmay; simp only [Bool.and_eq_true, beq_iff_eq] at hmay; exact ⟨hmay.1.1, hmay.1.2⟩
          have hFn : F.toNat < 17 := by omega
          have cF := J7.cnt F.toNat hFn
          rw [hpend.1, if_pos rfl] at cF
          have hcl : s.claim W = { s with sources_pending := fun i => if i = F.toNat then false else s.sources_pending i, sources_taken := fun i => if i = F.toNat then W + 1 else s.sources_taken i } := by
            unfold Intc.claim; rw [hWs, hF]; simp [hpos]
          rw [hcl] at R8
          have D8 := J7.da.keeps k8 (by omega) (fun x => J7.apart.2.1 x.symm)
          refine ix_of (by omega) (by omega) (D8.rd hFn ?_)
          refine ix_of (by omega) (by omega) ?_
          rw [wrap64]
          refine D8.wr hFn (fun h9 D9 k9 => ?_)
          have T8 := J7.ta.keeps k8 (by omega) (fun x => J7.apart.2.2.1 x.symm)
          have T9 := T8.keeps k9 (by omega) (fun x => J7.apart.2.2.2.2.2 x.symm)
          refine ix_of (by omega) (by omega) (T9.rd hFn ?_)
          have hT0 : T F.toNat = 0 := by rw [J7.tk _ (by omega) hFn]; exact hpend.2
          rw [hT0]
          refine br_if (fun e => by simp at e) (fun _ => ?_)
          refine ix_of (by omega) (by omega) (D9.rd hFn ?_)
          have Ra8 := J7.ra.keeps k8 (by omega) (fun x => J7.apart.1 x.symm)
          have Ra9 := Ra8.keeps k9 (by omega) J7.apart.2.2.2.1
          refine ix_of (by omega) (by omega) (Ra9.rd hFn ?_)
          simp only [if_true]
          refine br_if (fun e => by simp at e; omega) (fun _ => ?_)
          refine ix_of (by omega) (by omega) ?_
          rw [wrap64]
          refine T9.wr hFn (fun h10 T10 k10 => ?_)
          refine next h10 _ R _ _ { J7 with acts := ((J7.acts.keeps k8 (fun p hp => (J7.far p hp).1)).keeps k9 (fun p hp => (J7.far p hp).2.2.1)).keeps k10 (fun p hp => (J7.far p hp).2.2.2), rep := (R8.keeps k9 J7.apart.2.1).keeps k10 J7.apart.2.2.1, ra := Ra9.keeps k10 (by omega) J7.apart.2.2.2.2.1, da := D9.keeps k10 (by omega) J7.apart.2.2.2.2.2, ta := T10, tk := ?_, cnt := ?_ }
          · intro i h1 hi
            by_cases e : i = F.toNat
            · subst e; simp; omega
            · simp only [if_neg e]; exact J7.tk i h1 hi
          · intro i hi
            have ci := J7.cnt i hi
            by_cases e : i = F.toNat
            · subst e; simp; omega
            · simp only [if_neg e]; omega
        · have hpos : ¬ 0 < F := by simpa using e
          have hcl : s.claim W = s := by unfold Intc.claim; rw [hWs, hF]; simp [hpos]
          rw [hcl] at R8
          exact next h8 s R D T (J7.next.onC R8 k8 rfl J7.tk J7.next.cnt)
      · -- Complete
        refine Complete_of J6.rep hok (fun h7 R7 k7 => ?_)
        rw [hSs, hWs]
        simp only [br_true, br_false, der_some, if_true, if_false, beq_self_eq_true, bne_self_eq_false, Bool.false_eq_true, Bool.and_true, Bool.true_and, Bool.and_false, Bool.false_and, Bool.not_true, Bool.not_false, Option.isNone_some, Option.isNone_none]
        have T7 := J6.ta.keeps k7 (by omega) (fun x => J6.apart.2.2.1 x.symm)
        refine ix_of (by omega) (by omega) (T7.rd hSn ?_)
        rw [J6.tk _ (by omega) hSn, wrap64, Int.add_comm 1 W]
        cases ht : s.sources_taken S.toNat == W + 1
        · simp only [br_true, br_false, der_some, if_true, if_false, beq_self_eq_true, bne_self_eq_false, Bool.false_eq_true, Bool.and_true, Bool.true_and, Bool.and_false, Bool.false_and, Bool.not_true, Bool.not_false, Option.isNone_some, Option.isNone_none]
          refine br_if (fun e => by simp at e) (fun _ => br_if (fun e => by simp at e) (fun _ => ?_))
          have hcl : s.complete W S = s := by unfold Intc.complete; rw [hWs, hSs, ht]; rfl
          rw [hcl] at R7
          exact next h7 s R D T (J6.next.onC R7 k7 rfl J6.tk J6.next.cnt)
        · simp only [br_true, br_false, der_some, if_true, if_false, beq_self_eq_true, bne_self_eq_false, Bool.false_eq_true, Bool.and_true, Bool.true_and, Bool.and_false, Bool.false_and, Bool.not_true, Bool.not_false, Option.isNone_some, Option.isNone_none]
          have hcl : s.complete W S = { s with sources_taken := fun i => if i = S.toNat then 0 else s.sources_taken i } := by unfold Intc.complete; rw [hWs, hSs, ht]; rfl
          rw [hcl] at R7
          refine ix_of (by omega) (by omega) ?_
          refine T7.wr hSn (fun h8 T8 k8 => ?_)
          refine next h8 _ R D _ { J6 with acts := (J6.acts.keeps k7 (fun p hp => (J6.far p hp).1)).keeps k8 (fun p hp => (J6.far p hp).2.2.2), rep := R7.keeps k8 J6.apart.2.2.1, ra := (J6.ra.keeps k7 (by omega) (fun x => J6.apart.1 x.symm)).keeps k8 (by omega) J6.apart.2.2.2.2.1, da := (J6.da.keeps k7 (by omega) (fun x => J6.apart.2.1 x.symm)).keeps k8 (by omega) J6.apart.2.2.2.2.2, ta := T8, tk := ?_, cnt := J6.next.cnt }
          intro i h1 hi
          by_cases e : i = S.toNat
          · subst e; simp
          · simp only [if_neg e]; exact J6.tk i h1 hi
      · exact next h6 s R D T J6.next
  exact main a2.len 0 h4 _ _ _ _ (by omega) I0

end Go.Vintc

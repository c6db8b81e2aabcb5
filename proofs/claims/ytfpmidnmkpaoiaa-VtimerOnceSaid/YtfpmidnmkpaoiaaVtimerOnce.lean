/- VtimerOnce: a timer is told once, at the first moment at which its time has come. -/
import Derived.Test.YtfpmidnmkpaoiaaVtimerB
set_option linter.unusedSimpArgs false
set_option linter.unusedVariables false
set_option maxRecDepth 100000
namespace Go.Vtimer
open Go.Lift Go.Fn

theorem andU_le (x m : Int) (h0 : 0 ≤ m) (h1 : m ≤ 18446744073709551615) : 0 ≤ ibits .and .u64 x m ∧ ibits .and .u64 x m ≤ m := by
  have hle : (BitVec.ofInt 64 x &&& BitVec.ofInt 64 m).toNat ≤ (BitVec.ofInt 64 m).toNat := by
    rw [BitVec.toNat_and]; exact Nat.and_le_right
  have hm : ((BitVec.ofInt 64 m).toNat : Int) = m := by
    rw [BitVec.toNat_ofInt]
    omega
  have : ibits .and .u64 x m = IntKind.u64.wrap ((BitVec.ofInt 64 x &&& BitVec.ofInt 64 m).toNat : Int) := rfl
  rw [this, wrapu64]
  omega

/-- One that runs, and is set. -/
def run (b a : Int) (st : Bool) (sl : Int) : Tm := ⟨b, false, sl, st, a⟩

theorem now_run {b a c sl : Int} {st : Bool} (h0 : 0 ≤ b) (h1 : b ≤ c) (h2 : c ≤ top) : (run b a st sl).now c = c - b := by
  have htop : top = 4611686018427387904 := rfl
  unfold Tm.now run
  simp only [Bool.false_eq_true, if_false]
  have e1 : minI c top = c := by unfold minI; rw [if_neg (by omega)]
  have e2 : maxI c b = c := by unfold maxI; rw [if_neg (by omega)]
  rw [e1, e2, wrapu64]

theorem due_run {b a c sl : Int} (h0 : 0 ≤ b) (h1 : b ≤ c) (h2 : c ≤ top) : (run b a true sl).due c = decide (a ≤ c - b) := by
  unfold Tm.due
  rw [now_run h0 h1 h2]
  simp [run]

theorem once (a1 a2 : Int) (s : Sl) (h0 : Heap) (hs : ∀ i, i < s.len → ∃ p v, s.p = some p ∧ h0.get p.b (p.o + i) = some (.int .u64 v)) (Q : Bool → Heap → Prop) (hQ : ∀ h, Q true h) : palisadelaw21_VtimerOnce a1 a2 s Q h0 := by
  unfold palisadelaw21_VtimerOnce
  have htop : top = 4611686018427387904 := rfl
  obtain ⟨b0, b1⟩ := andU_le a1 16777215 (by omega) (by omega)
  obtain ⟨c0, c1⟩ := andU_le a2 65535 (by omega) (by omega)
  generalize ibits .and .u64 a1 16777215 = B at *
  generalize ibits .and .u64 a2 65535 = A at *
  unfold vtimer_New
  refine alM_of (fun m h1 hm M1 k1 => al_of (fun tb h2 htb ho2 k2 => br_f rfl ?_))
  have M2 := M1.keeps k2 (fun f => f)
  -- Begin
  unfold vtimer_Timers_Begin
  have of0 : ∀ (Q : Option Ptr → Int → Heap → Prop), Q none 14 h2 → vtimer_Timers_of (some ⟨tb, 0⟩) 4 Q h2 := by
    intro Q hq
    unfold vtimer_Timers_of
    refine br_f rfl ?_
    rw [der_some]
    refine loc_M ho2 rfl (br_f rfl ?_)
    rw [der_some]
    refine loc_M ho2 rfl (mapGet_of M2 ?_)
    exact hq
  refine of0 _ (br_f rfl (br_f rfl ?_))
  rw [der_some]
  refine loc_M ho2 rfl (mapLen_of M2 (br_f rfl ?_))
  rw [der_some]
  refine loc_M ho2 rfl (al_of (fun xb h3 hxb ho3 k3 => ?_))
  have htx : tb ≠ xb := Heap.ne_of ho2 hxb
  have M3 := M2.keeps k3 (fun f => f)
  refine mapPut_of M3 (fun h4 M4 k4 => ?_)
  unfold vtimer_Timers_Begin.j9
  have emin : minI B 4611686018427387904 = B := by unfold minI; rw [if_neg (by omega)]
  rw [emin] at ho3
  have s4 : St tb m xb ⟨B, false, 0, false, 0⟩ h4 := ⟨k4.obj (k3.obj ho2 (fun f => f)) (fun e => (M2.cells ho2) e.symm), M4, k4.obj ho3 (fun e => (M3.cells ho3) e.symm), htx⟩
  have k04 : Keeps none_ h0 h4 := by
    have k03 := (k1.trans k2).trans k3
    refine ⟨fun z hz _ => ?_, fun z hz => k4.known z (k03.known z hz)⟩
    rw [k4.same z (k03.known z hz) (fun e => hz (e ▸ hm))]
    exact k03.same z hz (fun f => f)
  have hxb0 : h0.obj xb = none := by
    have k02 := k1.trans k2
    cases hx : h0.obj xb with
    | none => rfl
    | some z => exact absurd hxb (k02.known xb (by rw [hx]; simp))
  refine br_f rfl (Set_of s4 (fun h5 s5 k5 => br_f rfl ?_))
  have emin2 : minI A top = A := by unfold minI; rw [if_neg (by omega)]
  rw [emin2] at s5
  have over : ∀ g g', Keeps none_ h0 g → Keeps (· = xb) g g' → Keeps none_ h0 g' := fun g g' k k' =>
    ⟨fun z hz _ => by rw [k'.same z (k.known z hz) (fun e => hz (e ▸ hxb0))]; exact k.same z hz (fun f => f), fun z hz => k'.known z (k.known z hz)⟩
  have k05 := over _ _ k04 k5
  unfold palisadelaw21_VtimerOnce.j6 palisadelaw21_VtimerOnce.j7
  intro I H
  have fin : ∀ (c l sl : Int) (g : Heap), 0 ≤ l → l ≤ 1000000000 → B + l ≤ c → c ≤ 1000000000 → St tb m xb (run (B + l) A true sl) g → palisadelaw21_VtimerOnce.j23 B A (some ⟨tb, 0⟩) c l Q g := by
    intro c l sl g hl0 hl1 hc0 hc1 sg
    unfold palisadelaw21_VtimerOnce.j23
    refine Next_of sg (fun hset => by cases hset) (fun _ _ g1 s1 q1 => ?_) rfl
    have en : minI (IntKind.u64.wrap ((run (B + l) A true sl).base + (run (B + l) A true sl).at_)) top = B + l + A := by
      show minI (IntKind.u64.wrap (B + l + A)) top = _
      rw [wrapu64]
      unfold minI; rw [if_neg (by omega)]
    rw [en]
    have e9 : IntKind.u64.wrap (IntKind.u64.wrap (B + l) + A) = B + l + A := by rw [wrapu64 (x := B + l), wrapu64]
    refine br_f rfl (br_f (by rw [e9]; exact bne_self_eq_false _) ?_)
    have j26 : ∀ g, St tb m xb (run (B + l) A true sl) g → palisadelaw21_VtimerOnce.j26 (some ⟨tb, 0⟩) (B + l + A) Q g := by
      intro g sg
      unfold palisadelaw21_VtimerOnce.j26
      have hd : (run (B + l) A true sl).due (B + l + A) = true := by rw [due_run (by omega) (by omega) (by omega)]; simp; omega
      refine Due_of sg (fun hn => by rw [hd] at hn; cases hn) (fun _ sl' g1 hl' _ _ s1 q1 => ?_)
      rw [hl']
      refine br_t rfl ?_
      refine Due_of s1 (fun _ g2 s2 q2 => hQ _) (fun hn => by cases hn)
    refine br_if (fun _ => br_if (fun hgt => ?_) (fun _ => j26 g1 s1)) (fun _ => j26 g1 s1)
    have hgt : c < B + l + A := by simpa using hgt
    rw [wrapu64]
    have hnd : (run (B + l) A true sl).due (B + l + A - 1) = false := by rw [due_run (by omega) (by omega) (by omega)]; simp; omega
    refine Due_of s1 (fun _ g2 s2 q2 => br_f rfl (j26 g2 s2)) (fun hn => by rw [hnd] at hn; cases hn)
  have loop : ∀ (j i : Nat) (c l sl : Int) (g : Heap), i + j = 200 → 0 ≤ l → B + l ≤ c → c ≤ 16777215 + 5000 * (i : Int) → Keeps none_ h0 g → St tb m xb (run (B + l) A true sl) g → I B A s (some ⟨tb, 0⟩) c l (i : Int) g := by
    intro j
    induction j with
    | zero =>
      intro i c l sl g hi hl hc0 hc1 kg sg
      refine H _ _ _ _ _ _ _ _ ?_
      unfold palisadelaw21_VtimerOnce.b7
      have f := fin c l sl g hl (by omega) hc0 (by omega) sg
      refine br_if (fun _ => br_f (by simp; omega) f) (fun _ => f)
    | succ j ih =>
      intro i c l sl g hi hl hc0 hc1 kg sg
      refine H _ _ _ _ _ _ _ _ ?_
      unfold palisadelaw21_VtimerOnce.b7
      have f := fin c l sl g hl (by omega) hc0 (by omega) sg
      refine br_if (fun hlt => br_t (by simp; omega) ?_) (fun _ => f)
      have hlt : i < s.len := by simpa using hlt
      obtain ⟨p, v, hp, hv⟩ := hs i hlt
      have rd : ∀ g', Keeps none_ h0 g' → g'.get p.b (p.o + i) = some (.int .u64 v) := by
        intro g' k
        have hk : h0.obj p.b ≠ none := by intro hn; unfold Heap.get at hv; rw [hn] at hv; cases hv
        rw [Heap.get_obj (k.same p.b hk (fun f => f))]; exact hv
      refine ix_of (by omega) (by omega) ?_
      rw [hp, der_some, Int.toNat_natCast, Nat.mul_one]
      refine rdI_of (rd g kg) ?_
      obtain ⟨n0, n1⟩ := andU_le v 4095 (by omega) (by omega)
      generalize ibits .and .u64 v 4095 = n at *
      refine Halt_of sg rfl (fun g1 s1 q1 => br_f rfl ?_)
      have kg1 := over _ _ kg q1
      have ewcn : IntKind.u64.wrap (c + n) = c + n := wrapu64
      rw [ewcn]
      refine Due_of s1 (fun _ g2 s2 q2 => br_f rfl ?_) (fun hn => by
        unfold Tm.due at hn
        have : (run (B + l) A true sl).halted = false := rfl
        simp at hn)
      have kg2 := kg1.trans q2
      unfold palisadelaw21_VtimerOnce.j12
      rw [ewcn]
      refine Go_of s2 rfl (fun g3 s3 q3 => br_f rfl ?_)
      have kg3 := over _ _ kg2 q3
      refine ix_of (by omega) (by omega) ?_
      rw [hp, der_some, Int.toNat_natCast, Nat.mul_one]
      refine rdI_of (rd g3 kg3) (nneg_of (by omega) ?_)
      obtain ⟨e0, e1⟩ := andU_le (shrI .u64 v 16) 255 (by omega) (by omega)
      generalize ibits .and .u64 (shrI .u64 v 16) 255 = e at *
      have ewc : IntKind.u64.wrap (c + n + e) = c + n + e := wrapu64
      have ewl : IntKind.u64.wrap (l + n) = l + n := wrapu64
      rw [ewc, ewl]
      -- where it goes on, its base is later by what was lost
      have hnow : (run (B + l) A true sl).now c = c - (B + l) := now_run (by omega) hc0 (by omega)
      have hbase : IntKind.u64.wrap (maxI (minI (c + n) top) ((run (B + l) A true sl).now c) - (run (B + l) A true sl).now c) = B + (l + n) := by
        rw [hnow]
        have e1 : minI (c + n) top = c + n := by unfold minI; rw [if_neg (by omega)]
        have e2 : maxI (c + n) (c - (B + l)) = c + n := by unfold maxI; rw [if_neg (by omega)]
        rw [e1, e2, wrapu64] <;> omega
      have s3 : St tb m xb (run (B + (l + n)) A true ((run (B + l) A true sl).now c)) g3 := by
        have := s3
        simp only at this
        rw [hbase] at this
        exact this
      have go17 : ∀ (g4 : Heap) (x : Tm) (r : Sl), St tb m xb x g4 → x.now (c + n + e) = c + n + e - (B + (l + n)) → Keeps none_ h0 g4 → ((r.len = 1) ↔ A ≤ c + n + e - (B + (l + n))) → (r.len = 1 → Held g4 r 1 [.int .i64 4]) → palisadelaw21_VtimerOnce.j20 I B A s (some ⟨tb, 0⟩) (c + n + e) (l + n) (i : Int) r Q g4 → palisadelaw21_VtimerOnce.j17 I B A s (some ⟨tb, 0⟩) (c + n + e) (l + n) (i : Int) r Q g4 := by
        intro g4 x r s4 hx kg4 hr hH hj
        unfold palisadelaw21_VtimerOnce.j17
        refine Now_of s4 (br_f rfl (br_f ?_ (br_f ?_ (br_if (fun h1 => ?_) (fun _ => hj)))))
        · rw [hx, wrapu64 (x := c + n + e - B), wrapu64]
          simp; omega
        · rw [hx]
          by_cases h1 : A ≤ c + n + e - (B + (l + n))
          · have := hr.2 h1
            simp [this, h1]
          · have h2 : ¬ r.len = 1 := fun h => h1 (hr.1 h)
            have h3 : (((r.len : Nat) : Int) == 1) = false := by simp; omega
            rw [h3]; simp; omega
        · have h1 : r.len = 1 := by
            have : (((r.len : Nat) : Int) == 1) = true := h1
            simp at this; omega
          have HH := hH h1
          obtain ⟨pr, hpr⟩ : ∃ pr, r.p = some pr := by
            cases hrp : r.p with
            | none => have := HH.nil hrp; omega
            | some pr => exact ⟨pr, rfl⟩
          refine ix_of (by omega) (by omega) ?_
          rw [hpr, der_some]
          exact rdI_of (HH.row pr hpr 0 _ rfl) (br_f rfl hj)
      have hdn : (run (B + (l + n)) A true ((run (B + l) A true sl).now c)).due (c + n + e) = decide (A ≤ c + n + e - (B + (l + n))) := due_run (by omega) (by omega) (by omega)
      refine Due_of s3 (fun hd g4 s4 q4 => ?_) (fun hd r g4 hl' HH _ s4 q4 => ?_)
      · have kg4 := kg3.trans q4
        rw [hdn] at hd
        have hd : ¬ A ≤ c + n + e - (B + (l + n)) := by simpa using hd
        refine go17 g4 _ _ s4 (now_run (by omega) (by omega) (by omega)) kg4 ⟨fun h => (by cases h), fun h => absurd h hd⟩ (fun h => (by cases h)) ?_
        unfold palisadelaw21_VtimerOnce.j20
        refine br_f rfl ?_
        unfold palisadelaw21_VtimerOnce.j8
        rw [wrap64]
        have := ih (i + 1) (c + n + e) (l + n) _ g4 (by omega) (by omega) (by omega) (by omega) kg4 s4
        simpa using this
      · have kg4 := over _ _ kg3 q4
        rw [hdn] at hd
        have hd : A ≤ c + n + e - (B + (l + n)) := by simpa using hd
        have s4 : St tb m xb (run (B + (l + n)) A false ((run (B + l) A true sl).now c)) g4 := s4
        refine go17 g4 _ r s4 (now_run (by omega) (by omega) (by omega)) kg4 ⟨fun _ => hd, fun _ => hl'⟩ (fun _ => HH) ?_
        unfold palisadelaw21_VtimerOnce.j20
        rw [hl']
        refine br_t rfl ?_
        refine Next_of s4 (fun _ g5 s5 q5 => br_t rfl ?_) (fun hset => by cases hset) rfl
        refine Due_of s5 (fun _ g6 s6 q6 => hQ _) (fun hn => by cases hn)
  have := loop 200 0 B 0 0 h5 rfl (by omega) (by omega) (by omega) k05 (by simpa [run] using s5)
  simpa using this

end Go.Vtimer

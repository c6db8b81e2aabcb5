/- RingFull: the plain law. -/
import Derived.Test.YtpebofbnkfpakaaDoorRingE
set_option linter.unusedSimpArgs false
set_option linter.unusedVariables false
set_option maxRecDepth 100000
namespace Go.Ring
open Go.Lift Go.Fn Go.Mem

/-- What was offered: i chains of n. -/
def offers (n i : Nat) : Nat → Int := fun j =>
  if j < 4 * i ∧ j % 4 = 0 then 64 else if j < 4 * i ∧ j % 4 = 1 then 1 else if 4 * n + 1 ≤ j ∧ j < 4 * n + 1 + i then ((j - (4 * n + 1) : Nat) : Int) else 0

theorem offers_succ {n i : Nat} (hi : i < n) (j : Nat) : upd (upd (upd (offers n i) (4 * i) 64) (4 * i + 1) 1) (4 * n + 1 + i) (i : Int) j = offers n (i + 1) j := by
  unfold upd offers
  split
  · subst j
    rw [if_neg (by omega), if_neg (by omega), if_pos (by omega)]
    congr 1; omega
  · split
    · rw [if_neg (by omega), if_pos (by omega)]
    · split
      · rw [if_pos (by omega)]
      · by_cases c1 : j < 4 * i ∧ j % 4 = 0
        · have d1 : j < 4 * (i + 1) ∧ j % 4 = 0 := by omega
          simp only [c1, d1, and_self, if_true]
        · have d1 : ¬ (j < 4 * (i + 1) ∧ j % 4 = 0) := by omega
          rw [if_neg c1, if_neg d1]
          by_cases c2 : j < 4 * i ∧ j % 4 = 1
          · have d2 : j < 4 * (i + 1) ∧ j % 4 = 1 := by omega
            rw [if_pos c2, if_pos d2]
          · have d2 : ¬ (j < 4 * (i + 1) ∧ j % 4 = 1) := by omega
            rw [if_neg c2, if_neg d2]
            by_cases c3 : 4 * n + 1 ≤ j ∧ j < 4 * n + 1 + i
            · rw [if_pos c3, if_pos (by omega)]
            · rw [if_neg c3, if_neg (by omega)]

section
variable {U U' : Ifc} {h0 : Heap} {x : Nat → Int}

theorem full_loops {pm bm rg e : Nat} (u : RU U U') (hgl : U.glob 1 = U'.glob 1) (hk8 : knownB x 8 = true) {h : Heap} (he : e < 4) (S : SM U' x pm bm rg 1024 0 (2 ^ e) 0 0 false (fun _ => 0) h) (more : Int) {Q : Bool → Heap → Prop} (hQ : ∀ h, Q true h) :
    palisadelaw23_RingFull.j7 U more ((2 ^ e : Nat) : Int) (some ⟨pm, 0⟩) (some ⟨rg, 0⟩) 0 Q h := by
  have hn8 : 2 ^ e ≤ 8 := by
    have := Nat.pow_le_pow_right (n := 2) (by omega) (show e ≤ 3 by omega)
    simpa using this
  have hn1 : 1 ≤ 2 ^ e := Nat.one_le_two_pow
  generalize 2 ^ e = n at *
  have wn : IntKind.u64.wrap (n : Int) = n := wrapu64
  have w32 : IntKind.u64.wrap (32 * (n : Int)) = ((8 * (4 * n) : Nat) : Int) := by rw [wrapu64]; omega
  unfold palisadelaw23_RingFull.j7
  intro I HI
  have key : ∀ (j i : Nat) (g : Heap), i + j = n → SM U' x pm bm rg 1024 0 n 0 0 false (offers n i) g → I more n (some ⟨pm, 0⟩) (some ⟨rg, 0⟩) (i : Int) g := by
    intro j
    induction j with
    | succ j ih =>
      intro i g hi S
      refine HI _ _ _ _ _ _ ?_
      unfold palisadelaw23_RingFull.b7
      refine br_t (by simp; omega) ?_
      have wi : IntKind.u64.wrap (i : Int) = i := wrapu64
      have a1 : IntKind.u64.wrap (32 * (i : Int)) = ((8 * (4 * i) : Nat) : Int) := by rw [wrapu64]; omega
      have a2 : IntKind.u64.wrap (((8 * (4 * i) : Nat) : Int) + 8) = ((8 * (4 * i + 1) : Nat) : Int) := by rw [wrapu64]; omega
      have a3 : IntKind.u64.wrap (IntKind.u64.wrap (((8 * (4 * n) : Nat) : Int) + 8) + IntKind.u64.wrap (8 * (i : Int))) = ((8 * (4 * n + 1 + i) : Nat) : Int) := by
        rw [wrapu64 (x := ((8 * (4 * n) : Nat) : Int) + 8), wrapu64 (x := 8 * (i : Int)), wrapu64]; omega
      rw [wi, wn, w32, a1, a2, a3]
      refine sm_store hgl S hk8 rfl (by omega) (by omega) (by omega) (fun g1 S1 _ => ?_)
      refine sm_store hgl S1 hk8 rfl (by omega) (by omega) (by omega) (fun g2 S2 _ => ?_)
      refine sm_store hgl S2 hk8 rfl (by omega) (by omega) (by omega) (fun g3 S3 _ => ?_)
      unfold palisadelaw23_RingFull.j8
      rw [wrap64]
      exact ih (i + 1) g3 (by omega) (S3.as (fun j _ => offers_succ (by omega) j))
    | zero =>
      intro i g hi S
      obtain rfl : i = n := by omega
      refine HI _ _ _ _ _ _ ?_
      unfold palisadelaw23_RingFull.b7
      refine br_f (by simp) ?_
      rw [wn, w32]
      refine sm_store hgl S hk8 rfl (by omega) (by omega) (by omega) (fun g1 S1 _ => ?_)
      clear HI
      unfold palisadelaw23_RingFull.j14
      intro I2 H2
      have hcnt : upd (offers i i) (4 * i) (i : Int) (0 + 4 * i) = i := by simp [upd]
      have key2 : ∀ (j t : Nat) (g : Heap), t + j = i → SM U' x pm bm rg 1024 0 i t 0 false (upd (offers i i) (4 * i) (i : Int)) g → I2 more i (some ⟨pm, 0⟩) (some ⟨rg, 0⟩) (t : Int) g := by
        intro j
        induction j with
        | succ j ih =>
          intro t g ht S
          refine H2 _ _ _ _ _ _ ?_
          unfold palisadelaw23_RingFull.b14
          refine br_t (by simp; omega) ?_
          have htm : t % i = t := Nat.mod_eq_of_lt (by omega)
          have hhead : upd (offers i i) (4 * i) (i : Int) (0 + 4 * i + 1 + t % i) = t := by
            unfold upd offers
            rw [htm, if_neg (by omega), if_neg (by omega), if_neg (by omega), if_pos (by omega)]
            congr 1; omega
          have ewr : IntKind.u64.wrap ((i : Int) - t) = (i : Int) - t := wrapu64
          refine sm_next u S (R := [⟨64, 1, false⟩]) hcnt (by omega) (fun bs hl hm _ _ => ⟨?_, by simp; omega⟩) (fun c => by omega) (fun _ c => by rw [ewr] at c; omega) (fun _ _ s g1 Hs S1 k1 => ?_) (by omega)
          · rw [hhead]
            have D : Desc x bs (0 + 4 * t) ⟨64, 1, false⟩ 0 false := by
              refine desc_of hl hm (by omega) ?_ ?_ ?_ ?_ (by decide) (by decide)
              · unfold upd offers; rw [if_neg (by omega), if_pos (by omega)]
              · unfold upd offers; rw [if_neg (by omega), if_neg (by omega), if_pos (by omega)]
              · unfold upd offers; rw [if_neg (by omega), if_neg (by omega), if_neg (by omega), if_neg (by omega)]; rfl
              · unfold upd offers; rw [if_neg (by omega), if_neg (by omega), if_neg (by omega), if_neg (by omega)]
            exact Link.last (by omega) D (fun q hq => by simp at hq) rfl
          · rw [hhead]
            refine al_wrL rfl (fun b5 g2 hb5 ho5 q2 => br_f rfl (br_f rfl (loc_I ho5 rfl (br_f (by simp) ?_))))
            unfold palisadelaw23_RingFull.j15
            rw [wrap64]
            exact ih (t + 1) g2 (by omega) (S1.keep0 q2)
        | zero =>
          intro t g ht S
          obtain rfl : t = i := by omega
          refine H2 _ _ _ _ _ _ ?_
          unfold palisadelaw23_RingFull.b14
          refine br_f (by simp) ?_
          refine sm_next u S (R := []) hcnt (by omega) (fun bs hl hm c => absurd rfl c) (fun _ g1 S1 _ => ?_) (fun c => absurd rfl c) (fun c => absurd rfl c) (by omega)
          refine al_wrL rfl (fun b5 g2 hb5 ho5 q2 => br_f rfl (br_f rfl ?_))
          have S2 := S1.keep0 q2
          clear H2
          unfold palisadelaw23_RingFull.j23
          intro I3 H3
          have key3 : ∀ (j r : Nat) (m : Nat → Int) (g : Heap), r + j = t → SM U' x pm bm rg 1024 0 t t r false m g → I3 more t (some ⟨pm, 0⟩) (some ⟨rg, 0⟩) (r : Int) g := by
            intro j
            induction j with
            | succ j ih =>
              intro r m g hr S
              refine H3 _ _ _ _ _ _ ?_
              unfold palisadelaw23_RingFull.b23
              refine br_t (by simp; omega) ?_
              refine sm_push u S hk8 (by omega) (by omega) (by omega) (by omega) (by omega) (fun g1 S1 _ => br_f rfl ?_)
              rw [wrap64]
              exact ih (r + 1) _ g1 (by omega) S1
            | zero =>
              intro r m g hr S
              obtain rfl : r = t := by omega
              refine H3 _ _ _ _ _ _ ?_
              unfold palisadelaw23_RingFull.b23
              refine br_f (by simp) ?_
              refine sm_push_none S rfl (by omega) (by omega) (br_f rfl ?_)
              obtain ⟨c0, c1⟩ := and64_le more 255 (by omega) (by omega)
              generalize ibits .and .i64 more 255 = c at *
              have ev : IntKind.u64.wrap (IntKind.i64.wrap (IntKind.i64.wrap (IntKind.i64.wrap (2 * (r : Int)) + 1) + c)) = 2 * r + 1 + c := by
                rw [wrap64 (x := 2 * (r : Int)), wrap64 (x := 2 * (r : Int) + 1), wrap64, wrapu64]
              have wn : IntKind.u64.wrap (r : Int) = r := wrapu64
              have w32 : IntKind.u64.wrap (32 * (r : Int)) = ((8 * (4 * r) : Nat) : Int) := by rw [wrapu64]; omega
              rw [ev, wn, w32]
              refine sm_store hgl S hk8 rfl (by omega) (by omega) (by omega) (fun g1 S1 _ => ?_)
              have ewr : IntKind.u64.wrap (2 * (r : Int) + 1 + c - r) = r + 1 + c := by rw [wrapu64]; omega
              have hc2 : upd m (4 * r) (2 * (r : Int) + 1 + c) (0 + 4 * r) = 2 * r + 1 + c := by simp [upd]
              refine sm_next u S1 (R := []) hc2 (by omega) (fun bs hl hm _ d => by rw [ewr] at d; omega) (fun c => by omega) (fun _ _ g2 S2 _ => ?_) (fun _ d => by rw [ewr] at d; omega) (by omega)
              refine al_wrL rfl (fun b6 g3 hb6 ho6 q3 => ?_)
              unfold palisadelaw23_RingFull.j31
              refine sm_told (S2.keep0 q3) (br_t rfl (br_t rfl (br_t rfl (br_t (by rw [wn]; simp) ?_))))
              rw [wn]
              simpa using hQ g3
          have := key3 t 0 _ g2 (by omega) S2
          simpa using this
      have := key2 i 0 g1 (by omega) S1
      simpa using this
  have := key n 0 h (by omega) (S.as (fun j _ => by unfold offers; rw [if_neg (by omega), if_neg (by omega), if_neg (by omega)]))
  simpa using this

theorem full (u : RU U U') (hgl : U.glob 1 = U'.glob 1) (w : Wid U' h0 x) (hk8 : knownB x 8 = true) (k more : Int) (Q : Bool → Heap → Prop) (hQ : ∀ h, Q true h) : palisadelaw23_RingFull U k more Q h0 := by
  unfold palisadelaw23_RingFull
  obtain ⟨e, he, hm⟩ := shl_cases3 k
  rw [hm]
  refine nneg_of (u64_range _).1 ?_
  refine Mem.New_of (by omega) (by omega) (fun pm bm h1 M hp hb k1 => ?_)
  refine new_of (by omega) (by decide) (by decide) (by decide) (fun rg h2 hr ho k2 => br_f rfl (br_f rfl (br_f rfl ?_)))
  unfold palisadelaw23_RingFull.j6
  have hn8 : 2 ^ e ≤ 8 := by
    have := Nat.pow_le_pow_right (n := 2) (by omega) (show e ≤ 3 by omega)
    simpa using this
  exact full_loops u hgl hk8 he (sm_new (F := 4) (ka := 0) w he M hp hb k1 hr ho k2 (by omega)) more hQ

end
end Go.Ring

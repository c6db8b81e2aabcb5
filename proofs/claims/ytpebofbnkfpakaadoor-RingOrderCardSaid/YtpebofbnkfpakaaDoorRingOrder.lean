/- RingOrder: the plain law. -/
import Derived.Test.YtpebofbnkfpakaaDoorRingE
set_option linter.unusedSimpArgs false
set_option linter.unusedVariables false
set_option maxRecDepth 100000
namespace Go.Ring
open Go.Lift Go.Fn Go.Mem

def put4 (m : Nat → Int) (K : Nat) (a l f nx : Int) : Nat → Int := upd (upd (upd (upd m K a) (K + 1) l) (K + 2) f) (K + 3) nx

def lend (pm : Nat) : List V := [.ptr (some ⟨pm, 0⟩)]

section
variable {U U' : Ifc} {h0 : Heap} {x : Nat → Int} {pm bm rg b3 n t g : Nat} {m : Nat → Int} {h : Heap}

theorem prd0 {s : Sl} {l : List Part} {p : Ptr} {n : Nat} {r : Part} (H : Held h s 3 (parts l)) (hp : s.p = some p) (hn : l[n]? = some r) {κ : Int → Prop} (hk : κ r.at_) : rdI .u64 ((p.add (n * 3)).add 0) κ h :=
  rdI_of (by have := H.row p hp (n * 3 + 0) _ (by rw [parts_get hn (by omega)]; rfl); simpa [Ptr.add, Nat.add_assoc] using this) hk

theorem put_of (hgl : U.glob 1 = U'.glob 1) (hk8 : knownB x 8 = true) (S : SM U' x pm bm rg 2048 1 n t g false m h) (ho : h.obj b3 = some (.cells (lend pm) false)) (hb : b3 ≠ bm) {d : Nat} (hd : d < n) (hn8 : n ≤ 8) {a l f nx : Int}
    (ha : 0 ≤ a ∧ a ≤ 1000) (hl : 0 ≤ l ∧ l ≤ 1000) (hf : 0 ≤ f ∧ f ≤ 1000) (hnx : 0 ≤ nx ∧ nx ≤ 1000) {Q : Heap → Prop}
    (hq : ∀ h', SM U' x pm bm rg 2048 1 n t g false (put4 m (1 + 4 * d) a l f nx) h' → Keeps (· = bm) h h' → Q h') : palisadelaw23_RingOrder_c1 U (d : Int) a l f nx ⟨b3, 0⟩ Q h := by
  unfold palisadelaw23_RingOrder_c1
  have wd_ : IntKind.u64.wrap (d : Int) = d := wrapu64
  have e0 : IntKind.u64.wrap (8 + IntKind.u64.wrap (32 * (d : Int))) = ((8 * (1 + 4 * d) : Nat) : Int) := by
    rw [wrapu64 (x := 32 * (d : Int)), wrapu64]; omega
  have e1 : IntKind.u64.wrap (((8 * (1 + 4 * d) : Nat) : Int) + 8) = ((8 * (1 + 4 * d + 1) : Nat) : Int) := by rw [wrapu64]; omega
  have e2 : IntKind.u64.wrap (((8 * (1 + 4 * d) : Nat) : Int) + 16) = ((8 * (1 + 4 * d + 2) : Nat) : Int) := by rw [wrapu64]; omega
  have e3 : IntKind.u64.wrap (((8 * (1 + 4 * d) : Nat) : Int) + 24) = ((8 * (1 + 4 * d + 3) : Nat) : Int) := by rw [wrapu64]; omega
  rw [wd_, e0, e1, e2, e3]
  refine loc_P ho rfl (sm_store hgl S hk8 rfl (by omega) (by omega) (by omega) (fun h1 S1 k1 => ?_))
  have ho := k1.obj ho hb
  refine loc_P ho rfl (sm_store hgl S1 hk8 rfl (by omega) (by omega) (by omega) (fun h2 S2 k2 => ?_))
  have ho := k2.obj ho hb
  refine loc_P ho rfl (sm_store hgl S2 hk8 rfl (by omega) (by omega) (by omega) (fun h3 S3 k3 => ?_))
  have ho := k3.obj ho hb
  refine loc_P ho rfl (sm_store hgl S3 hk8 rfl (by omega) (by omega) (by omega) (fun h4 S4 k4 => ?_))
  exact hq h4 S4 (((k1.trans k2).trans k3).trans k4)

/-- The memory when a chain was offered. -/
def offered (m : Nat → Int) (n i : Nat) (long : Int) (two : Bool) : Nat → Int :=
  let m1 := put4 m (1 + 4 * (i % n)) i long (if two then 1 else 0) (((i % n + 1) % n : Nat) : Int)
  let m2 := if two then put4 m1 (1 + 4 * ((i % n + 1) % n)) ((i + 1 : Nat) : Int) 7 2 0 else m1
  upd (upd m2 (1 + 4 * n + 1 + i % n) ((i % n : Nat) : Int)) (1 + 4 * n) ((i + 1 : Nat) : Int)

def chainOf (i : Nat) (long : Int) (two : Bool) : List Part := if two then [⟨(i : Int), long, false⟩, ⟨((i + 1 : Nat) : Int), 7, true⟩] else [⟨(i : Int), long, false⟩]

theorem offered_head {i : Nat} {long : Int} {two : Bool} : offered m n i long two (1 + 4 * n + 1 + i % n) = ((i % n : Nat) : Int) := by
  unfold offered
  simp only [upd]
  rw [if_neg (by omega)]; simp

theorem next_ne {n i : Nat} (hn : 1 < n) : (i % n + 1) % n ≠ i % n := by
  have hi : i % n < n := Nat.mod_lt _ (by omega)
  intro e
  by_cases hc : i % n + 1 = n
  · rw [hc, Nat.mod_self] at e; omega
  · rw [Nat.mod_eq_of_lt (by omega)] at e; omega

theorem offered_link {N : Nat} {bs : List UInt8} {i : Nat} {long : Int} {two : Bool} (hN : N = 2048) (hn1 : 1 ≤ n) (hn8 : n ≤ 8) (h2 : two = true → 1 < n) (hl : 1 ≤ long ∧ long ≤ 256) (hi : i ≤ 200) (hb : bs.length = N) (hm : ∀ j, 8 * j + 8 ≤ N → wd x bs j = offered m n i long two j) :
    Link x bs 1 n (chainOf i long two) ((i % n : Nat) : Int) [] ∧ (chainOf i long two).length ≤ n := by
  have hin : i % n < n := Nat.mod_lt _ (by omega)
  have hjn : (i % n + 1) % n < n := Nat.mod_lt _ (by omega)
  cases two
  · refine ⟨?_, by simp [chainOf]; omega⟩
    have D : Desc x bs (1 + 4 * (i % n)) ⟨(i : Int), long, false⟩ (((i % n + 1) % n : Nat) : Int) false := by
      refine desc_of hb hm (by omega) ?_ ?_ ?_ ?_ ⟨by show 1 ≤ long; omega, by show long ≤ 4096; omega⟩ ⟨by show (0 : Int) ≤ i; omega, by show (i : Int) ≤ 1099511627776 - long; omega⟩ <;> simp only [offered, put4, upd, Bool.false_eq_true, if_false] <;>
      repeat (first | rw [if_pos (by omega)] | rw [if_neg (by omega)])
      all_goals rfl
    exact Link.last hin D (fun q hq => by simp at hq) rfl
  · have hne := next_ne (i := i) (h2 rfl)
    have h2 := h2 rfl
    refine ⟨?_, by simp [chainOf]; omega⟩
    generalize hj : (i % n + 1) % n = j at *
    have D : Desc x bs (1 + 4 * (i % n)) ⟨(i : Int), long, false⟩ (j : Int) true := by
      refine desc_of hb hm (by omega) ?_ ?_ ?_ ?_ ⟨by show 1 ≤ long; omega, by show long ≤ 4096; omega⟩ ⟨by show (0 : Int) ≤ i; omega, by show (i : Int) ≤ 1099511627776 - long; omega⟩ <;> simp only [offered, put4, upd, hj, if_true] <;>
      repeat (first | rw [if_pos (by omega)] | rw [if_neg (by omega)])
      all_goals rfl
    have D2 : Desc x bs (1 + 4 * j) ⟨((i + 1 : Nat) : Int), 7, true⟩ 0 false := by
      refine desc_of hb hm (by omega) ?_ ?_ ?_ ?_ ⟨by show (1 : Int) ≤ 7; omega, by show (7 : Int) ≤ 4096; omega⟩ ⟨by show (0 : Int) ≤ ((i + 1 : Nat) : Int); omega, by show ((i + 1 : Nat) : Int) ≤ 1099511627776 - 7; omega⟩ <;> simp only [offered, put4, upd, hj, if_true] <;>
      repeat (first | rw [if_pos (by omega)] | rw [if_neg (by omega)])
      all_goals rfl
    refine Link.more hin D (fun q hq => by simp at hq) (Link.last hjn D2 (fun q hq hw => rfl) rfl)

theorem order_step {I9 : Sl → Int → Ptr → Option Ptr → Int → Int → Int → Heap → Prop} {a : Sl} {off back : Int} {Q : Bool → Heap → Prop} {i : Nat} {long : Int} {two : Bool}
    (u : RU U U') (hgl : U.glob 1 = U'.glob 1) (hk8 : knownB x 8 = true) (S : SM U' x pm bm rg 2048 1 n i i false m h) (ho : h.obj b3 = some (.cells (lend pm) false)) (hbm : b3 ≠ bm) (hbr : b3 ≠ rg) (hn1 : 1 ≤ n) (hn8 : n ≤ 8) (hi : i < 200)
    (hl : 1 ≤ long ∧ long ≤ 256) (h2 : two = true → 1 < n) (hoff : off = ((8 * (1 + 4 * n) : Nat) : Int)) (hback : back = ((8 * (1 + 5 * n + 1) : Nat) : Int))
    (hq : ∀ m' h', SM U' x pm bm rg 2048 1 n (i + 1) (i + 1) false m' h' → h'.obj b3 = some (.cells (lend pm) false) → Keeps (fun z => z = rg ∨ z = bm) h h' → I9 a n ⟨b3, 0⟩ (some ⟨rg, 0⟩) off back ((i + 1 : Nat) : Int) h') :
    palisadelaw23_RingOrder.j14 U I9 a n ⟨b3, 0⟩ (some ⟨rg, 0⟩) off back (i : Int) ((i % n : Nat) : Int) long two Q h := by
  have hin : i % n < n := Nat.mod_lt _ (by omega)
  have hjn : (i % n + 1) % n < n := Nat.mod_lt _ (by omega)
  have wi : IntKind.u64.wrap (i : Int) = i := wrapu64
  have wi1 : IntKind.u64.wrap (IntKind.i64.wrap ((i : Int) + 1)) = ((i + 1 : Nat) : Int) := by rw [wrap64, wrapu64]; omega
  have wl : IntKind.u64.wrap long = long := wrapu64
  have wh : IntKind.u64.wrap ((i % n : Nat) : Int) = ((i % n : Nat) : Int) := wrapu64
  have wnx : (IntKind.i64.wrap (((i % n : Nat) : Int) + 1)).tmod (n : Int) = (((i % n + 1) % n : Nat) : Int) := by
    rw [wrap64, Int.tmod_eq_emod_of_nonneg (by omega)]; rfl
  have wnx2 : IntKind.u64.wrap (((i % n + 1) % n : Nat) : Int) = (((i % n + 1) % n : Nat) : Int) := wrapu64
  have etm : (i : Int).tmod (n : Int) = ((i % n : Nat) : Int) := by rw [Int.tmod_eq_emod_of_nonneg (by omega)]; rfl
  have noff : n ≠ 0 := by omega
  -- what is offered is taken
  have taken : ∀ h1, SM U' x pm bm rg 2048 1 n i i false (if two then put4 (put4 m (1 + 4 * (i % n)) i long (if two then 1 else 0) (((i % n + 1) % n : Nat) : Int)) (1 + 4 * ((i % n + 1) % n)) ((i + 1 : Nat) : Int) 7 2 0 else put4 m (1 + 4 * (i % n)) i long (if two then 1 else 0) (((i % n + 1) % n : Nat) : Int)) h1 →
      Keeps (· = bm) h h1 → palisadelaw23_RingOrder.j22 U I9 a n ⟨b3, 0⟩ (some ⟨rg, 0⟩) off back (i : Int) ((i % n : Nat) : Int) long two Q h1 := by
    intro h1 S1 k1
    have ho := k1.obj ho hbm
    unfold palisadelaw23_RingOrder.j22
    have e1 : IntKind.u64.wrap (IntKind.u64.wrap (off + 8) + IntKind.u64.wrap (8 * IntKind.u64.wrap ((i : Int).tmod (n : Int)))) = ((8 * (1 + 4 * n + 1 + i % n) : Nat) : Int) := by
      rw [etm, wh, hoff, wrapu64 (x := 8 * ((i % n : Nat) : Int)), wrapu64 (x := ((8 * (1 + 4 * n) : Nat) : Int) + 8), wrapu64]; omega
    rw [e1, wh, wi1]
    refine loc_P ho rfl (nz_of (by omega) (sm_store hgl S1 hk8 rfl (by omega) (by omega) (by omega) (fun g2 S2 k2 => ?_)))
    have ho := k2.obj ho hbm
    refine loc_P ho rfl (sm_store hgl S2 hk8 hoff (by omega) (by omega) (by omega) (fun g3 S3 k3 => ?_))
    have ho := k3.obj ho hbm
    have S3 : SM U' x pm bm rg 2048 1 n i i false (offered m n i long two) g3 := S3
    have ecnt : offered m n i long two (1 + 4 * n) = ((i + 1 : Nat) : Int) := by simp [offered, upd]
    have ew : IntKind.u64.wrap (((i + 1 : Nat) : Int) - i) = 1 := by rw [wrapu64]; omega
    refine loc_P ho rfl (sm_next u S3 (R := chainOf i long two) ecnt (by omega) (fun bs hb hm _ _ => ?_) (fun c => by omega) (fun _ d => by rw [ew] at d; omega) (fun _ _ s g4 Hs S4 k4 => ?_) (by omega))
    · rw [offered_head]
      exact offered_link rfl hn1 hn8 h2 hl (by omega) hb hm
    rw [offered_head]
    have ho := k4.obj ho hbr
    refine al_wrL rfl (fun b5 g5 hb5 ho5 k5 => ?_)
    have ho := k5.obj ho (fun f => f)
    have Hs := Hs.keeps k5 (fun _ _ f => f)
    have S5 := S4.keep0 k5
    have hsl := Held.plen Hs
    -- the rest of the round
    have rest : palisadelaw23_RingOrder.j27 U I9 a n ⟨b3, 0⟩ (some ⟨rg, 0⟩) off back (i : Int) ((i % n : Nat) : Int) long Q g5 := by
      unfold palisadelaw23_RingOrder.j27
      refine loc_P ho rfl (sm_next u S5 (R := []) ecnt (by omega) (fun bs hb hm c => absurd rfl c) (fun _ g6 S6 k6 => ?_) (fun c => absurd rfl c) (fun c => absurd rfl c) (by omega))
      have ho := k6.obj ho (fun f => f)
      refine al_wrL rfl (fun b6 g7 hb6 ho6 k7 => br_f rfl (br_f rfl ?_))
      have ho := k7.obj ho (fun f => f)
      refine loc_P ho rfl (sm_push u (S6.keep0 k7) hk8 (by omega) (by omega) (by omega) (by omega) (by omega) (fun g8 S8 k8 => br_f rfl ?_))
      have ho := k8.obj ho (fun c => c.elim hbr hbm)
      refine loc_P ho rfl (sm_push_none S8 rfl (by omega) (by omega) (br_f rfl ?_))
      unfold palisadelaw23_RingOrder.j32
      have e2 : IntKind.u64.wrap (IntKind.u64.wrap (back + 8) + IntKind.u64.wrap (16 * IntKind.u64.wrap ((i : Int).tmod (n : Int)))) = ((8 * (1 + 5 * n + 2 + 2 * (i % n)) : Nat) : Int) := by
        rw [etm, wh, hback, wrapu64 (x := 16 * ((i % n : Nat) : Int)), wrapu64 (x := ((8 * (1 + 5 * n + 1) : Nat) : Int) + 8), wrapu64]; omega
      have e3 : IntKind.u64.wrap (IntKind.u64.wrap (back + 16) + IntKind.u64.wrap (16 * IntKind.u64.wrap ((i : Int).tmod (n : Int)))) = ((8 * (1 + 5 * n + 2 + 2 * (i % n) + 1) : Nat) : Int) := by
        rw [etm, wh, hback, wrapu64 (x := 16 * ((i % n : Nat) : Int)), wrapu64 (x := ((8 * (1 + 5 * n + 1) : Nat) : Int) + 16), wrapu64]; omega
      rw [e2, e3]
      refine loc_P ho rfl (sm_load hgl S8 hback (by omega) (fun g9 S9 k9 => ?_))
      have ho := k9.obj ho (fun f => f)
      refine loc_P ho rfl (nz_of (by omega) (sm_load hgl S9 rfl (by omega) (fun g10 S10 k10 => ?_)))
      have ho := k10.obj ho (fun f => f)
      refine loc_P ho rfl (nz_of (by omega) (sm_load hgl S10 rfl (by omega) (fun g11 S11 k11 => ?_)))
      have ho := k11.obj ho (fun f => f)
      unfold palisadelaw23_RingOrder.j35
      refine br_f ?_ (br_f ?_ (br_f ?_ ?_))
      · rw [wi1]; simp [upd]
      · rw [wh]
        have : upd (upd (upd (offered m n i long two) (1 + 5 * n + 2 + 2 * (i % n)) ((i % n : Nat) : Int)) (1 + 5 * n + 2 + 2 * (i % n) + 1) long) (1 + 5 * n + 1) ((i + 1 : Nat) : Int) (1 + 5 * n + 2 + 2 * (i % n)) = ((i % n : Nat) : Int) := by
          simp only [upd]
          rw [if_neg (by omega), if_neg (by omega)]; simp
        rw [this]; simp
      · rw [wl]
        have : upd (upd (upd (offered m n i long two) (1 + 5 * n + 2 + 2 * (i % n)) ((i % n : Nat) : Int)) (1 + 5 * n + 2 + 2 * (i % n) + 1) long) (1 + 5 * n + 1) ((i + 1 : Nat) : Int) (1 + 5 * n + 2 + 2 * (i % n) + 1) = long := by
          simp only [upd]
          rw [if_neg (by omega)]; simp
        rw [this]; simp
      · unfold palisadelaw23_RingOrder.j10
        have ew : IntKind.i64.wrap ((i : Int) + 1) = ((i + 1 : Nat) : Int) := by rw [wrap64]; omega
        rw [ew]
        refine hq _ g11 S11 ho ?_
        have w1 : ∀ {p q : Heap}, Keeps none_ p q → Keeps (fun z => z = rg ∨ z = bm) p q := fun k => k.mono (fun _ f => f.elim)
        have w2 : ∀ {p q : Heap}, Keeps (· = bm) p q → Keeps (fun z => z = rg ∨ z = bm) p q := fun k => k.mono (fun _ f => .inr f)
        have w3 : ∀ {p q : Heap}, Keeps (· = rg) p q → Keeps (fun z => z = rg ∨ z = bm) p q := fun k => k.mono (fun _ f => .inl f)
        exact (((((((((w2 k1).trans (w2 k2)).trans (w2 k3)).trans (w3 k4)).trans (w1 k5)).trans (w1 k6)).trans (w1 k7)).trans k8).trans ((w1 k9).trans (w1 k10))).trans (w1 k11)
    unfold palisadelaw23_RingOrder.j25
    refine br_f rfl (br_f rfl (loc_I ho5 rfl (br_f (by simp) (loc_Sl ho5 rfl ?_))))
    cases two
    · have hlen : s.len = 1 := by rw [hsl]; rfl
      obtain ⟨p, hp⟩ := Held.psome Hs (n := 0) (by simp [chainOf])
      have h0 : (chainOf i long false)[0]? = some ⟨(i : Int), long, false⟩ := rfl
      refine br_f (by rw [hlen]; rfl) (loc_Sl ho5 rfl (ix_of (by omega) (by rw [hlen]; decide) ?_))
      rw [hp, der_some]
      refine prd0 Hs hp h0 (prd1 Hs hp h0 (prd2 Hs hp h0 (br_f (by rw [wi]; simp [eqL]) (loc_Sl ho5 rfl (br_f (by rw [hlen]; rfl) (br_f rfl rest))))))
    · have hlen : s.len = 2 := by rw [hsl]; rfl
      obtain ⟨p, hp⟩ := Held.psome Hs (n := 0) (by simp [chainOf])
      have h0 : (chainOf i long true)[0]? = some ⟨(i : Int), long, false⟩ := rfl
      have h1 : (chainOf i long true)[1]? = some ⟨((i + 1 : Nat) : Int), 7, true⟩ := rfl
      refine br_f (by rw [hlen]; rfl) (loc_Sl ho5 rfl (ix_of (by omega) (by rw [hlen]; decide) ?_))
      rw [hp, der_some]
      refine prd0 Hs hp h0 (prd1 Hs hp h0 (prd2 Hs hp h0 (br_f (by rw [wi]; simp [eqL]) (loc_Sl ho5 rfl (br_f (by rw [hlen]; rfl) (br_t rfl (loc_Sl ho5 rfl (ix_of (by omega) (by rw [hlen]; decide) ?_))))))))
      rw [hp, der_some]
      refine prd0 Hs hp h1 (prd1 Hs hp h1 (prd2 Hs hp h1 (br_f (by rw [wi1]; simp [eqL]) rest)))
  have j17 : ∀ fl_, fl_ = (if two then (1 : Int) else 0) → palisadelaw23_RingOrder.j17 U I9 a n ⟨b3, 0⟩ (some ⟨rg, 0⟩) off back (i : Int) ((i % n : Nat) : Int) long two fl_ Q h := by
    intro fl_ hfl
    subst hfl
    unfold palisadelaw23_RingOrder.j17
    rw [wnx, wi, wl, wnx2, wi1]
    refine nz_of (by omega) (put_of hgl hk8 S ho hbm hin hn8 (by omega) (by omega) (by split <;> omega) (by omega) (fun h1 S1 k1 => ?_))
    cases two
    · exact br_f rfl (taken h1 S1 k1)
    · refine br_t rfl (put_of hgl hk8 S1 (k1.obj ho hbm) hbm hjn hn8 (by omega) (by omega) (by omega) (by omega) (fun h2 S2 k2 => ?_))
      exact taken h2 S2 (k1.trans k2)
  unfold palisadelaw23_RingOrder.j14
  cases two
  · exact br_f rfl (j17 0 rfl)
  · exact br_t rfl (j17 1 rfl)

theorem order (u : RU U U') (hgl : U.glob 1 = U'.glob 1) (w : Wid U' h0 x) (hk8 : knownB x 8 = true) (k : Int) (a : Sl) (ha : ∀ i, i < a.len → ∃ p v, a.p = some p ∧ h0.get p.b (p.o + i) = some (.int .i64 v)) (Q : Bool → Heap → Prop) (hQ : ∀ h, Q true h) : palisadelaw23_RingOrder U k a Q h0 := by
  unfold palisadelaw23_RingOrder
  obtain ⟨e, he, hm⟩ := shl_cases3 k
  rw [hm]
  refine nneg_of (u64_range _).1 ?_
  refine Mem.New_of (by omega) (by omega) (fun pm bm h1 M hp hb k1 => ?_)
  refine al_of (fun b3 h2 hb3 ho3 k2 => loc_wr ho3 rfl (fun h3 ho3 k3 => ?_))
  have ho3 : h3.obj b3 = some (.cells (lend pm) false) := ho3
  have hb3' : h0.obj b3 = none := fresh_of k1 hb3
  have k13 : Keeps none_ h1 h3 := k2.widen' k3 hb3
  refine new_of (by omega) (by decide) (by decide) (by decide) (fun rg h4 hr ho k4 => br_f rfl (br_f rfl (br_f rfl (loc_P (k4.obj ho3 (fun f => f)) rfl (br_f rfl ?_)))))
  have hr1 : h1.obj rg = none := fresh_of k13 hr
  have hbr : b3 ≠ rg := Heap.ne_of ho3 hr
  have hbm : b3 ≠ bm := fun e => M.known2 (e ▸ hb3)
  have k03 := k1.trans k13
  have k04 := k03.trans k4
  have hr0 : h0.obj rg = none := fresh_of k03 hr
  have hn8 : 2 ^ e ≤ 8 := by
    have := Nat.pow_le_pow_right (n := 2) (by omega) (show e ≤ 3 by omega)
    simpa using this
  have hn1 : 1 ≤ 2 ^ e := Nat.one_le_two_pow
  have S : SM U' x pm bm rg 2048 1 (2 ^ e) 0 0 false (fun _ => 0) h4 := sm_new (F := 8) (ka := 1) w he M hp hb k1 hr1 ho (k13.trans k4) (by omega)
  have ho3 := k4.obj ho3 (fun f => f)
  generalize 2 ^ e = n at *
  unfold palisadelaw23_RingOrder.j6
  have wn : IntKind.u64.wrap (n : Int) = n := wrapu64
  have e1 : IntKind.u64.wrap (8 + IntKind.u64.wrap (32 * (n : Int))) = ((8 * (1 + 4 * n) : Nat) : Int) := by rw [wrapu64 (x := 32 * (n : Int)), wrapu64]; omega
  have e2 : IntKind.u64.wrap (IntKind.u64.wrap (((8 * (1 + 4 * n) : Nat) : Int) + 8) + IntKind.u64.wrap (8 * (n : Int))) = ((8 * (1 + 5 * n + 1) : Nat) : Int) := by
    rw [wrapu64 (x := 8 * (n : Int)), wrapu64 (x := ((8 * (1 + 4 * n) : Nat) : Int) + 8), wrapu64]; omega
  rw [wn, e1, e2]
  unfold palisadelaw23_RingOrder.j9
  intro I HI
  have key : ∀ (j i : Nat) (m : Nat → Int) (g : Heap), i + j = a.len → i ≤ 200 → SM U' x pm bm rg 2048 1 n i i false m g → g.obj b3 = some (.cells (lend pm) false) → Keeps none_ h0 g → I a n ⟨b3, 0⟩ (some ⟨rg, 0⟩) ((8 * (1 + 4 * n) : Nat) : Int) ((8 * (1 + 5 * n + 1) : Nat) : Int) (i : Int) g := by
    intro j
    induction j with
    | zero =>
      intro i m g hij _ S ho k
      refine HI _ _ _ _ _ _ _ _ ?_
      unfold palisadelaw23_RingOrder.b9
      exact br_f (by simp; omega) (hQ _)
    | succ j ih =>
      intro i m g hij hi S ho k
      refine HI _ _ _ _ _ _ _ _ ?_
      unfold palisadelaw23_RingOrder.b9
      refine br_t (by simp; omega) (br_if (fun hlt => ?_) (fun _ => hQ _))
      have hlt : i < 200 := by simp at hlt; omega
      obtain ⟨p, v, hp, hv⟩ := ha i (by omega)
      have hpk : h0.obj p.b ≠ none := by
        intro e
        simp [Heap.get, e] at hv
      have hv : g.get p.b (p.o + i) = some (.int .i64 v) := (Heap.get_obj (k.same _ hpk (fun f => f)) _).trans hv
      have etm : (i : Int).tmod (n : Int) = ((i % n : Nat) : Int) := by rw [Int.tmod_eq_emod_of_nonneg (by omega)]; rfl
      obtain ⟨c0, c1⟩ := and64_le v 255 (by omega) (by omega)
      refine nz_of (by omega) (ix_of (by omega) (by omega) ?_)
      rw [hp, der_some, Int.toNat_natCast]
      have hv1 : g.get (p.add (i * 1)).b (p.add (i * 1)).o = some (.int .i64 v) := by rw [Nat.mul_one]; exact hv
      refine rdI_of hv1 ?_
      rw [etm, wrap64]
      have fin : ∀ two : Bool, (two = true → 1 < n) → palisadelaw23_RingOrder.j14 U I a n ⟨b3, 0⟩ (some ⟨rg, 0⟩) ((8 * (1 + 4 * n) : Nat) : Int) ((8 * (1 + 5 * n + 1) : Nat) : Int) (i : Int) ((i % n : Nat) : Int) (1 + ibits .and .i64 v 255) two Q g := by
        intro two h2
        refine order_step u hgl hk8 S ho hbm hbr hn1 hn8 hlt (by omega) h2 rfl rfl (fun m' g' S' ho' k' => ?_)
        refine ih (i + 1) m' g' (by omega) (by omega) S' ho' ⟨fun z hz _ => ?_, fun z hz => k'.known z (k.known z hz)⟩
        rw [k'.same z (k.known z hz) (by rintro (rfl | rfl); exact hz hr0; exact hz hb)]
        exact k.same z hz (fun f => f)
      refine br_if (fun hgt => ?_) (fun _ => fin false (fun c => by cases c))
      refine ix_of (by omega) (by omega) ?_
      rw [der_some, Int.toNat_natCast]
      exact rdI_of hv1 (fin _ (fun _ => by simp at hgt; omega))
  have := key a.len 0 _ h4 (by omega) (by omega) S ho3 k04
  simpa using this

end
end Go.Ring

/- VtimerApart: one's timer is not another's. -/
import Derived.Test.YtgigbjieppllgaaVtimerD
set_option linter.unusedSimpArgs false
set_option linter.unusedVariables false
set_option maxRecDepth 100000
namespace Go.Vtimer
open Go.Lift Go.Fn

theorem and255 (x : Int) : 0 ≤ ibits .and .u64 x 255 ∧ ibits .and .u64 x 255 ≤ 255 := by
  have hle : (BitVec.ofInt 64 x &&& BitVec.ofInt 64 255).toNat ≤ 255 := by
    rw [BitVec.toNat_and]; exact Nat.and_le_right
  have : ibits .and .u64 x 255 = IntKind.u64.wrap ((BitVec.ofInt 64 x &&& BitVec.ofInt 64 255).toNat : Int) := rfl
  rw [this, wrapu64]
  omega

theorem over {h0 g g' : Heap} {S : Nat → Prop} (k : Keeps none_ h0 g) (k' : Keeps S g g') (hS : ∀ z, S z → h0.obj z = none) : Keeps none_ h0 g' :=
  ⟨fun z hz _ => by rw [k'.same z (k.known z hz) (fun e => hz (hS z e))]; exact k.same z hz (fun f => f), fun z hz => k'.known z (k.known z hz)⟩

theorem fresh0 {h0 g : Heap} (k : Keeps none_ h0 g) {b : Nat} (hb : g.obj b = none) : h0.obj b = none := by
  cases hx : h0.obj b with
  | none => rfl
  | some z => exact absurd hb (k.known b (by rw [hx]; simp))

/-- Who is told at a moment. -/
def told (n : Nat) (gone c : Int) (A : Nat → Int) (i : Nat) : Bool := (i : Int) != gone && A i == c

theorem range_lt (n : Nat) (p : Nat → Bool) : (((List.range' 0 n).filter p).map (fun i : Nat => (i : Int))).Pairwise (· < ·) := by
  rw [List.pairwise_map]
  have h : ((List.range' 0 n).filter p).Pairwise (· < ·) := (List.pairwise_lt_range' (s := 0) (n := n) (step := 1)).sublist List.filter_sublist
  exact h.imp (fun hlt => by omega)

theorem lists_eq {R W : List Int} (h1 : R.Nodup) (h2 : R.Pairwise (· ≤ ·)) (h3 : W.Pairwise (· < ·)) (hm : ∀ a, a ∈ R ↔ a ∈ W) : R = W := by
  have hw : W.Nodup := h3.imp (fun h e => by omega)
  exact List.Perm.eq_of_pairwise (le := (· ≤ ·)) (fun a b _ _ h h' => by omega) h2 (h3.imp (fun h => by omega)) ((List.perm_ext_iff_of_nodup h1 hw).2 hm)

theorem gone_nat {x : Int} {n : Nat} (hn : 0 < n) (hn2 : n ≤ 40) : ∃ G : Nat, G < n ∧ (IntKind.i64.wrap (x.tmod n + n)).tmod n = (G : Int) := by
  have h1 : x.tmod n < n := Int.tmod_lt_of_pos x (by omega)
  have h2 : -(n : Int) < x.tmod n := by
    rcases (by omega : x < 0 ∨ 0 ≤ x) with hx | hx
    · have := Int.tmod_lt_of_pos (-x) (b := n) (by omega)
      rw [Int.neg_tmod] at this
      omega
    · have := Int.tmod_nonneg (n : Int) hx
      omega
  rw [wrap64 (x := x.tmod n + n)]
  have h3 : 0 ≤ (x.tmod n + n).tmod n := Int.tmod_nonneg _ (by omega)
  have h4 : (x.tmod n + n).tmod n < n := Int.tmod_lt_of_pos _ (by omega)
  exact ⟨((x.tmod n + n).tmod n).toNat, by omega, by omega⟩

theorem apart (s : Sl) (a2 : Int) (h0 : Heap) (hs : ∀ i, i < s.len → ∃ p v, s.p = some p ∧ h0.get p.b (p.o + i) = some (.int .u64 v)) (Q : Bool → Heap → Prop) (hQ : ∀ h, Q true h) : palisadelaw21_VtimerApart s a2 Q h0 := by
  obtain ⟨vv, hvv⟩ : ∃ vv : Nat → Int, ∀ i, i < s.len → ∃ p, s.p = some p ∧ h0.get p.b (p.o + i) = some (.int .u64 (vv i)) := by
    refine ⟨fun i => if h : i < s.len then (hs i h).choose_spec.choose else 0, fun i hi => ⟨(hs i hi).choose, ?_⟩⟩
    have := (hs i hi).choose_spec.choose_spec
    simp only [hi, dif_pos]
    exact this
  let A : Nat → Int := fun i => ibits .and .u64 (vv i) 255
  have hA : ∀ i, 0 ≤ A i ∧ A i ≤ 255 := fun i => and255 (vv i)
  have rd : ∀ (i : Nat) (g : Heap) (κ : Int → Prop), i < s.len → Keeps none_ h0 g → κ (vv i) → der s.p (fun p => rdI .u64 (p.add (i * 1)) κ g) := by
    intro i g κ hi k hk
    obtain ⟨p, hp, hv⟩ := hvv i hi
    rw [hp, der_some]
    have hb : h0.obj p.b ≠ none := by intro hn; unfold Heap.get at hv; rw [hn] at hv; cases hv
    refine rdI_of (x := vv i) ?_ hk
    rw [Nat.mul_one]
    show g.get p.b (p.o + i) = _
    rw [Heap.get_obj (k.same p.b hb (fun f => f))]
    exact hv
  unfold palisadelaw21_VtimerApart
  have hn : ∃ n : Nat, minI ((s.len : Nat) : Int) 40 = (n : Int) ∧ n ≤ s.len ∧ n ≤ 40 := by
    unfold minI
    by_cases h : (40 : Int) < ((s.len : Nat) : Int)
    · rw [if_pos h]; exact ⟨40, rfl, by omega, by omega⟩
    · rw [if_neg h]; exact ⟨s.len, rfl, by omega, by omega⟩
  obtain ⟨n, en, hns, hn40⟩ := hn
  rw [en]
  unfold vtimer_New
  refine alM_of (fun m h1 hm M1 k1 => al_of (fun tb h2 htb ho2 k2 => br_f rfl ?_))
  have T0 : Ts tb m [] h2 := ⟨ho2, M1.keeps k2 (fun f => f), fun e he => (by cases he), List.nodup_nil, List.nodup_nil, fun e he => (by cases he)⟩
  have k02 := k1.trans k2
  -- the clocks
  have clocks : ∀ (gone : Int) (E : List En) (g : Heap), Ts tb m E g → Keeps none_ h0 g → (∀ e ∈ E, h0.obj e.b = none) → (∀ i : Nat, i ∈ E.map En.id ↔ i < n ∧ (i : Int) ≠ gone) → E.length ≤ 100 → (∀ e ∈ E, e.set = true ∧ e.at_ = A e.id) → palisadelaw21_VtimerApart.j15 s (some ⟨tb, 0⟩) n gone Q g := by
    intro gone E g T kg hfe hids hlen hE
    unfold palisadelaw21_VtimerApart.j15 palisadelaw21_VtimerApart.j16
    intro I H
    have loop : ∀ (j c : Nat) (E : List En) (g : Heap), c + j = 256 → Ts tb m E g → Keeps none_ h0 g → (∀ e ∈ E, h0.obj e.b = none) → (∀ i : Nat, i ∈ E.map En.id ↔ i < n ∧ (i : Int) ≠ gone) → E.length ≤ 100 → (∀ e ∈ E, e.set = decide ((c : Int) ≤ A e.id) ∧ e.at_ = A e.id) → I s (some ⟨tb, 0⟩) n gone (c : Int) g := by
      intro j
      induction j with
      | zero =>
        intro c E g hc T kg hfe hids hlen hE
        refine H _ _ _ _ _ _ ?_
        unfold palisadelaw21_VtimerApart.b16
        refine br_f (by simp; omega) (Next_none T (fun e he => ?_) (fun h' => hQ _))
        rw [(hE e he).1]
        have := hA e.id
        exact decide_eq_false (by omega)
      | succ j ih =>
        intro c E g hc T kg hfe hids hlen hE
        refine H _ _ _ _ _ _ ?_
        unfold palisadelaw21_VtimerApart.b16
        refine br_t (by simp; omega) (Due_of T hlen ⟨by omega, by omega⟩ (fun r R g1 hR1 hR2 hR3 hH T1 k1 => ?_))
        have kg1 := over kg k1 (fun z hz => by obtain ⟨e, he, rfl⟩ := hz; exact hfe e he)
        have hdue : ∀ e ∈ E, e.due (c : Int) = decide (A e.id = (c : Int)) := fun e he => by
          unfold En.due
          rw [(hE e he).1, (hE e he).2, Bool.eq_iff_iff]
          simp only [Bool.and_eq_true, decide_eq_true_eq]
          omega
        have hRW : R = ((List.range' 0 n).filter (told n gone c A)).map (fun i : Nat => (i : Int)) := by
          refine lists_eq hR1 hR2 (range_lt n _) (fun a => ?_)
          rw [hR3 a, List.mem_map]
          constructor
          · rintro ⟨e, he, rfl, hd⟩
            rw [hdue e he] at hd
            have h1 := (hids e.id).1 (List.mem_map.2 ⟨e, he, rfl⟩)
            refine ⟨e.id, List.mem_filter.2 ⟨by rw [List.mem_range'_1]; omega, ?_⟩, rfl⟩
            unfold told
            simp only [Bool.and_eq_true, bne_iff_ne, ne_eq, beq_iff_eq]
            exact ⟨h1.2, by simpa using hd⟩
          · rintro ⟨i, hi, rfl⟩
            obtain ⟨h1, h2⟩ := List.mem_filter.1 hi
            rw [List.mem_range'_1] at h1
            unfold told at h2
            simp only [Bool.and_eq_true, bne_iff_ne, ne_eq, beq_iff_eq] at h2
            obtain ⟨e, he, hei⟩ := List.mem_map.1 ((hids i).2 ⟨by omega, h2.1⟩)
            refine ⟨e, he, by rw [hei], ?_⟩
            rw [hdue e he, hei]
            simpa using h2.2
        have hRn : R.length ≤ n := by
          rw [hRW, List.length_map]
          have := List.length_filter_le (told n gone (c : Int) A) (List.range' 0 n)
          rw [List.length_range'] at this
          exact this
        have hrl : r.len = R.length := by have := hH.len; simp at this; omega
        -- who was told is looked through
        unfold palisadelaw21_VtimerApart.j21
        intro J HJ
        have inner : ∀ (d i k : Nat), i + d = n → k ≤ R.length → R.drop k = ((List.range' i (n - i)).filter (told n gone c A)).map (fun i : Nat => (i : Int)) → J s (some ⟨tb, 0⟩) n gone (c : Int) r (k : Int) (i : Int) g1 := by
          intro d
          induction d with
          | zero =>
            intro i k hi hk hd
            refine HJ _ _ _ _ _ _ _ _ _ ?_
            unfold palisadelaw21_VtimerApart.b21
            have e0 : n - i = 0 := by omega
            rw [e0] at hd
            have hkl : k = R.length := by
              have := congrArg List.length hd
              simp at this
              omega
            refine br_f (by simp; omega) (br_f (by rw [hrl, hkl]; simp) ?_)
            have ew : IntKind.u64.wrap ((c : Int) + 1) = ((c + 1 : Nat) : Int) := by rw [wrapu64]; rfl
            rw [ew]
            refine ih (c + 1) _ g1 (by omega) T1 kg1 (fun e he => ?_) (fun i => ?_) (by simpa using hlen) (fun e he => ?_)
            · obtain ⟨x, hx, rfl⟩ := List.mem_map.1 he
              split
              · exact hfe x hx
              · exact hfe x hx
            · rw [← hids i]
              have : (E.map fun e => if e.due (c : Int) then e.off else e).map En.id = E.map En.id := by
                rw [List.map_map]
                refine List.map_congr_left (fun x _ => ?_)
                show En.id (if x.due (c : Int) then x.off else x) = En.id x
                split <;> rfl
              rw [this]
            · obtain ⟨x, hx, rfl⟩ := List.mem_map.1 he
              have hd := hdue x hx
              obtain ⟨q1, q2⟩ := hE x hx
              by_cases hdx : x.due (c : Int) = true
              · rw [if_pos hdx]
                rw [hd] at hdx
                have hdx : A x.id = (c : Int) := by simpa using hdx
                refine ⟨?_, q2⟩
                show false = decide (((c + 1 : Nat) : Int) ≤ A x.id)
                exact (decide_eq_false (by omega)).symm
              · rw [if_neg hdx]
                rw [hd] at hdx
                have hdx : ¬ A x.id = (c : Int) := by simpa using hdx
                refine ⟨?_, q2⟩
                rw [q1, Bool.eq_iff_iff]
                simp only [decide_eq_true_eq]
                omega
          | succ d ihd =>
            intro i k hi hk hd
            refine HJ _ _ _ _ _ _ _ _ _ ?_
            unfold palisadelaw21_VtimerApart.b21
            have er : List.range' i (n - i) = i :: List.range' (i + 1) (n - (i + 1)) := by
              have : n - i = (n - (i + 1)) + 1 := by omega
              rw [this, List.range'_succ]
            rw [er] at hd
            have skip : told n gone c A i = false → palisadelaw21_VtimerApart.j22 I J s (some ⟨tb, 0⟩) n gone (c : Int) r (k : Int) (i : Int) Q g1 := by
              intro ht
              unfold palisadelaw21_VtimerApart.j22
              rw [wrap64]
              rw [List.filter_cons_of_neg (by simp [ht])] at hd
              have := ihd (i + 1) k (by omega) hk hd
              simpa using this
            refine br_t (by simp; omega) (br_if (fun hg => ix_of (by omega) (by omega) ?_) (fun hg => skip (by unfold told; rw [hg]; rfl)))
            rw [Int.toNat_natCast]
            refine rd i g1 _ (by omega) kg1 ?_
            refine br_if (fun ha => ?_) (fun ha => skip (by unfold told; rw [show (A i == (c : Int)) = false from ha, Bool.and_false]))
            have ht : told n gone c A i = true := by unfold told; rw [hg]; exact ha
            rw [List.filter_cons_of_pos ht, List.map_cons] at hd
            have hkl : k < R.length := by
              rcases Nat.lt_or_ge k R.length with h | h
              · exact h
              · rw [List.drop_eq_nil_of_le h] at hd; cases hd
            have hget : R[k]? = some (i : Int) := by
              have := congrArg (fun l => l[0]?) hd
              rw [List.getElem?_drop] at this
              simpa using this
            refine br_f (by rw [hrl]; simp; omega) (ix_of (by omega) (by rw [hrl]; omega) ?_)
            rw [Int.toNat_natCast]
            obtain ⟨p, hp⟩ : ∃ p, r.p = some p := by
              cases hp : r.p with
              | none => have := hH.nil hp; omega
              | some p => exact ⟨p, rfl⟩
            rw [hp, der_some]
            refine rdI_of (x := (i : Int)) (by rw [Nat.mul_one]; exact hH.row p hp k _ (by rw [List.getElem?_map, hget]; rfl)) (br_f (bne_self_eq_false _) ?_)
            unfold palisadelaw21_VtimerApart.j26 palisadelaw21_VtimerApart.j22
            rw [wrap64 (x := (k : Int) + 1), wrap64]
            have hd2 : R.drop (k + 1) = ((List.range' (i + 1) (n - (i + 1))).filter (told n gone c A)).map (fun i : Nat => (i : Int)) := by
              have := congrArg List.tail hd
              rw [List.tail_drop] at this
              exact this
            have := ihd (i + 1) (k + 1) (by omega) (by omega) hd2
            simpa using this
        have := inner n 0 0 (by omega) (by omega) (by rw [List.drop_zero, Nat.sub_zero]; exact hRW)
        simpa using this
    have := loop 256 0 E g rfl T kg hfe hids hlen (fun e he => ⟨by rw [(hE e he).1]; have := hA e.id; exact (decide_eq_true (by omega)).symm, (hE e he).2⟩)
    simpa using this
  -- all begin
  unfold palisadelaw21_VtimerApart.j6
  intro I H
  have begins : ∀ (j i : Nat) (E : List En) (g : Heap), i + j = n → Ts tb m E g → Keeps none_ h0 g → (∀ e ∈ E, h0.obj e.b = none) → E.map En.id = List.range i → (∀ e ∈ E, e.set = true ∧ e.at_ = A e.id) → I s a2 (some ⟨tb, 0⟩) n (i : Int) g := by
    intro j
    induction j with
    | zero =>
      intro i E g hi T kg hfe hids hE
      obtain rfl : n = i := by omega
      refine H _ _ _ _ _ _ ?_
      unfold palisadelaw21_VtimerApart.b6
      have hlen : E.length = n := by have := congrArg List.length hids; simpa using this
      refine br_f (by simp) (br_if (fun hp => ?_) (fun hp => ?_))
      · have hp : 0 < n := by simpa using hp
        obtain ⟨G, hG, eG⟩ := gone_nat (x := a2) hp hn40
        refine nz_of (by omega) (nz_of (by omega) ?_)
        rw [eG]
        obtain ⟨e, he, hei⟩ := List.mem_map.1 (show G ∈ E.map En.id by rw [hids]; exact List.mem_range.2 hG)
        subst hei
        refine End_of T he (fun g1 T1 k1 => br_f rfl ?_)
        have hm1 : ∀ i : Nat, i ∈ (E.filter (fun x => x.id != e.id)).map En.id ↔ i < n ∧ (i : Int) ≠ (e.id : Int) := by
          intro i'
          rw [List.mem_map]
          constructor
          · rintro ⟨x, hx, rfl⟩
            obtain ⟨h1, h2⟩ := List.mem_filter.1 hx
            have : x.id ∈ E.map En.id := List.mem_map.2 ⟨x, h1, rfl⟩
            rw [hids, List.mem_range] at this
            have h3 : x.id ≠ e.id := by simpa using h2
            exact ⟨by omega, by omega⟩
          · rintro ⟨h1, h2⟩
            obtain ⟨x, hx, hxi⟩ := List.mem_map.1 (show i' ∈ E.map En.id by rw [hids]; exact List.mem_range.2 (by omega))
            refine ⟨x, List.mem_filter.2 ⟨hx, ?_⟩, hxi⟩
            have h3 : x.id ≠ e.id := by omega
            simpa using h3
        refine End_none T1 (fun c => ((hm1 e.id).1 c).2 rfl) (br_f rfl ?_)
        refine clocks (e.id : Int) _ g1 T1 (over kg k1 (fun z hz => hz ▸ fresh0 (Keeps.refl _ _) hm)) (fun x hx => hfe x (List.mem_filter.1 hx).1) hm1 (Nat.le_trans (List.length_filter_le _ _) (by omega)) (fun x hx => hE x (List.mem_filter.1 hx).1)
      · have hp : n = 0 := by simpa using hp
        refine clocks (-1) E g T kg hfe (fun i' => ?_) (by omega) hE
        rw [hids, List.mem_range]
        omega
    | succ j ih =>
      intro i E g hi T kg hfe hids hE
      refine H _ _ _ _ _ _ ?_
      unfold palisadelaw21_VtimerApart.b6
      have hlen : E.length = i := by have := congrArg List.length hids; simpa using this
      have hni : i ∉ E.map En.id := by rw [hids, List.mem_range]; omega
      refine br_t (by simp; omega) (Begin_of T hni (by omega) (fun b g1 T1 hb k1 => br_f rfl (ix_of (by omega) (by omega) ?_)))
      have kg1 := over kg k1 (fun z hz => hz ▸ fresh0 (Keeps.refl _ _) hm)
      rw [Int.toNat_natCast]
      refine rd i g1 _ (by omega) kg1 ?_
      have he1 : (⟨i, b, false, 0⟩ : En) ∈ E ++ [⟨i, b, false, 0⟩] := by simp
      have hb0 := fresh0 kg hb
      refine Set_of T1 he1 (a := A i) ⟨(hA i).1, by have := (hA i).2; omega⟩ (fun g2 T2 k2 => br_f rfl ?_)
      rw [wrap64]
      have := ih (i + 1) _ g2 (by omega) T2 (over kg1 k2 (fun z hz => hz ▸ hb0)) (fun x hx => ?_) ?_ (fun x hx => ?_)
      · simpa using this
      · obtain ⟨y, hy, rfl⟩ := List.mem_map.1 hx
        split
        · exact hb0
        · rcases List.mem_append.1 hy with hy | hy
          · exact hfe y hy
          · rw [List.mem_singleton.1 hy]; exact hb0
      · rw [List.map_map, List.range_succ, ← hids]
        have : ∀ y ∈ E ++ [(⟨i, b, false, 0⟩ : En)], (En.id ∘ fun x => if x.id = i then ({ id := i, b := b, set := true, at_ := A i } : En) else x) y = En.id y := by
          intro y _
          show En.id (if y.id = i then ({ id := i, b := b, set := true, at_ := A i } : En) else y) = En.id y
          split
          · rename_i h; exact h.symm
          · rfl
        rw [List.map_congr_left this, List.map_append]
        rfl
      · obtain ⟨y, hy, rfl⟩ := List.mem_map.1 hx
        by_cases hyi : y.id = i
        · rw [if_pos hyi]; exact ⟨rfl, rfl⟩
        · rw [if_neg hyi]
          rcases List.mem_append.1 hy with hy | hy
          · exact hE y hy
          · exact absurd (by rw [List.mem_singleton.1 hy]) hyi
  have := begins n 0 [] h2 (by omega) T0 k02 (fun e he => by cases he) rfl (fun e he => by cases he)
  simpa using this

end Go.Vtimer

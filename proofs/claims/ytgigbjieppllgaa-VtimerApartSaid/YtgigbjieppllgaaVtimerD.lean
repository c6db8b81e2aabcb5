/- Timers of many virtual processors: which are due, and which is next. -/
import Derived.Test.YtgigbjieppllgaaVtimerC
set_option linter.unusedSimpArgs false
set_option linter.unusedVariables false
set_option maxRecDepth 100000
namespace Go.Vtimer
open Go.Lift Go.Fn

theorem le_trans_b (a b c : Int) (h1 : decide (a ≤ b) = true) (h2 : decide (b ≤ c) = true) : decide (a ≤ c) = true := by
  simp at *; omega
theorem le_total_b (a b : Int) : (decide (a ≤ b) || decide (b ≤ a)) = true := by
  simp; omega

section
variable {tb m : Nat} {E : List En} {h h' : Heap}

theorem mark_none {c : Int} {E : List En} : E.map (mark c []) = E := by
  have : ∀ e ∈ E, mark c [] e = e := fun e _ => by unfold mark; simp
  rw [List.map_congr_left this, List.map_id']

theorem mark_not {c : Int} {done : List Int} {e x : En} (hx : x.id = e.id → x = e) (hd : e.due c = false) : mark c (done ++ [(e.id : Int)]) x = mark c done x := by
  unfold mark
  by_cases hi : x.id = e.id
  · rw [hx hi, hd]; rfl
  · have : (done ++ [(e.id : Int)]).contains (x.id : Int) = done.contains (x.id : Int) := by
      have h2 : ¬ (x.id : Int) = (e.id : Int) := by omega
      simp [h2]
    rw [this]

theorem mark_one {c : Int} {done : List Int} {e x : En} (hx : x.id = e.id → x = e) (hd : e.due c = true) : mark c (done ++ [(e.id : Int)]) x = if (mark c done x).id = e.id then e.off else mark c done x := by
  rw [mark_id]
  by_cases hi : x.id = e.id
  · rw [if_pos hi, hx hi]
    unfold mark
    rw [hd]; simp
  · rw [if_neg hi]
    unfold mark
    have : (done ++ [(e.id : Int)]).contains (x.id : Int) = done.contains (x.id : Int) := by
      have h2 : ¬ (x.id : Int) = (e.id : Int) := by omega
      simp [h2]
    rw [this]

theorem mark_ids {c : Int} {done : List Int} {E : List En} : (E.map (mark c done)).map En.kv = E.map En.kv := by
  rw [List.map_map]
  refine List.map_congr_left (fun x _ => ?_)
  show En.kv (mark c done x) = En.kv x
  unfold En.kv; rw [mark_id, mark_b]

theorem Due_of (T : Ts tb m E h) (hE : E.length ≤ 100) {c : Int} (hc : 0 ≤ c ∧ c ≤ 1000) {Q : Sl → Heap → Prop}
    (hq : ∀ (s : Sl) (R : List Int) (h' : Heap), R.Nodup → R.Pairwise (· ≤ ·) → (∀ a : Int, a ∈ R ↔ ∃ e ∈ E, a = e.id ∧ e.due c = true) → Held h' s 1 (R.map (V.int .i64)) → Ts tb m (E.map fun e => if e.due c then e.off else e) h' → Keeps (fun z => ∃ e ∈ E, z = e.b) h h' → Q s h') : vtimer_Timers_Due (some ⟨tb, 0⟩) c Q h := by
  unfold vtimer_Timers_Due
  refine br_f rfl ?_
  rw [der_some]
  refine loc_M T.t rfl (range_of T.m (fun it g1 hit I1 k1 => ?_))
  have hith : h.obj it = none := hit
  have nit : tb ≠ it := Heap.ne_of T.t hit
  have nix : ∀ e ∈ E, e.b ≠ it := fun e he => Heap.ne_of (T.x e he) hit
  have nim : it ≠ m := T.m.ne hit
  have keys := keys_nodup T.ids
  unfold vtimer_Timers_Due.j5
  intro I H
  -- the way on, with what was found
  have key : ∀ (j : Nat) (done : List Int) (s : Sl) (D : List Int) (g : Heap), done.length + j = E.length → done.Nodup → (∀ a ∈ done, ∃ e ∈ E, a = (e.id : Int)) → IterAt g it m .i64 (E.map En.kv) done → Ts tb m (E.map (mark c done)) g → Keeps (fun z => (∃ e ∈ E, z = e.b) ∨ z = it) h g → Ac h g it s D → D.Nodup → D.length ≤ done.length → (∀ a, a ∈ D ↔ a ∈ done ∧ ∃ e ∈ E, a = (e.id : Int) ∧ e.due c = true) → I c s ⟨it, 0⟩ g := by
    intro j
    induction j with
    | zero =>
      intro done s D g hj hdn hds Ig Tg kg hA hDn hDl hD
      refine H _ _ _ _ ?_
      unfold vtimer_Timers_Due.b5
      refine ⟨rfl, next_of keys Ig (fun hall => ?_) (fun a v hav hnd => ?_)⟩
      · have hmark : E.map (mark c done) = E.map fun e => if e.due c then e.off else e := by
          refine List.map_congr_left (fun e he => ?_)
          have : done.contains (e.id : Int) = true := by simpa using hall (e.id : Int) _ (List.mem_map.2 ⟨e, he, rfl⟩)
          unfold mark
          rw [this, Bool.and_true]
        have hD' : ∀ a, a ∈ D ↔ ∃ e ∈ E, a = (e.id : Int) ∧ e.due c = true := fun a => by
          rw [hD a]
          exact ⟨fun h => h.2, fun h => ⟨by obtain ⟨e, he, rfl, _⟩ := h; exact hall (e.id : Int) _ (List.mem_map.2 ⟨e, he, rfl⟩), h⟩⟩
        unfold slices_Sort_int_int
        rcases hA with ⟨rfl, rfl⟩ | ⟨b, O, hb, hbi⟩
        · unfold sortI
          rw [if_pos rfl]
          refine hq _ [] g List.nodup_nil List.Pairwise.nil hD' ⟨rfl, fun p hp => (by cases hp), fun _ => rfl⟩ (hmark ▸ Tg) ⟨fun z hz hn => kg.same z hz (fun e => e.elim hn (fun e => hz (e ▸ hith))), kg.known⟩
        · refine sort_own O (by omega) (fun g2 O2 k2 => ?_)
          have hperm := List.mergeSort_perm D (fun x y => decide (x ≤ y))
          have hsort := List.pairwise_mergeSort le_trans_b le_total_b D
          refine hq s _ g2 (hperm.nodup_iff.2 hDn) (hsort.imp (fun h => by simpa using h)) (fun a => by rw [hperm.mem_iff]; exact hD' a) O2.held ?_ ?_
          · rw [← hmark]
            refine Tg.keep k2 (fun e => ?_) (fun e => ?_) (fun x hx e => ?_)
            · have := T.t; rw [e, hb] at this; cases this
            · obtain ⟨bs, cc, ho, _⟩ := T.m; rw [e, hb] at ho; cases ho
            · obtain ⟨y, hy, rfl⟩ := List.mem_map.1 hx
              rw [mark_b] at e
              have := T.x y hy; rw [e, hb] at this; cases this
          · exact ⟨fun z hz hn => by
              rw [k2.same z (kg.known z hz) (fun e => hz (e ▸ hb))]
              exact kg.same z hz (fun e => e.elim hn (fun e => hz (e ▸ hith))), fun z hz => k2.known z (kg.known z hz)⟩
      · exfalso
        obtain ⟨e, he, hev⟩ := List.mem_map.1 hav
        cases hev
        have hsub : ((e.id : Int) :: done).length ≤ (E.map (fun e => (e.id : Int))).length := List.Nodup.length_le_of_subset (List.nodup_cons.2 ⟨hnd, hdn⟩) (fun b hb => by
          rcases List.mem_cons.1 hb with rfl | hb
          · exact List.mem_map.2 ⟨e, he, rfl⟩
          · obtain ⟨e', he', rfl⟩ := hds b hb
            exact List.mem_map.2 ⟨e', he', rfl⟩)
        simp only [List.length_cons, List.length_map] at hsub
        omega
    | succ j ih =>
      intro done s D g hj hdn hds Ig Tg kg hA hDn hDl hD
      refine H _ _ _ _ ?_
      unfold vtimer_Timers_Due.b5
      refine ⟨rfl, next_of keys Ig (fun hall => ?_) (fun a v hav hnd g2 I2 k2 => ?_)⟩
      · exfalso
        have hkn : (E.map (fun e => (e.id : Int))).Nodup := by have := keys; unfold IKeys at this; rw [keys_kv] at this; exact this
        have hsub : (E.map (fun e => (e.id : Int))).length ≤ done.length := List.Nodup.length_le_of_subset hkn (fun b hb => by
          obtain ⟨e, he, rfl⟩ := List.mem_map.1 hb
          exact hall (e.id : Int) _ (List.mem_map.2 ⟨e, he, rfl⟩))
        simp only [List.length_map] at hsub
        omega
      · obtain ⟨e, he, hev⟩ := List.mem_map.1 hav
        cases hev
        have T2 : Ts tb m (E.map (mark c done)) g2 := Tg.keep k2 nit nim.symm (fun x hx => by
          obtain ⟨y, hy, rfl⟩ := List.mem_map.1 hx
          rw [mark_b]; exact nix y hy)
        have kg2 : Keeps (fun z => (∃ e ∈ E, z = e.b) ∨ z = it) h g2 := kg.trans (k2.mono (fun z e => .inr e))
        have hA2 : Ac h g2 it s D := by
          rcases hA with hA | ⟨b, O, hb, hbi⟩
          · exact .inl hA
          · obtain ⟨rest, ho, hr⟩ := O.obj
            exact .inr ⟨b, ⟨O.p, O.cap, O.len, rest, k2.obj ho hbi, hr⟩, hb, hbi⟩
        refine ⟨rfl, entry_of keys I2 hav ?_⟩
        refine asI_of ?_
        rw [asP_p, der_some]
        have hmk : mark c done e = e := by unfold mark; have : done.contains (e.id : Int) = false := by simpa using hnd
                                           rw [this, Bool.and_false]; rfl
        have hxe : g2.obj e.b = some (.cells e.cells false) := by
          have := T2.x (mark c done e) (List.mem_map.2 ⟨e, he, rfl⟩)
          rw [hmk] at this; exact this
        have hsame : ∀ x ∈ E, x.id = e.id → x = e := fun x hx hi => same_id T.ids hx he hi
        have hdn2 : (done ++ [(e.id : Int)]).Nodup := by
          rw [List.nodup_append]
          exact ⟨hdn, by simp, fun a ha b hb => by rw [List.mem_singleton.1 hb]; exact fun c => hnd (c ▸ ha)⟩
        have hds2 : ∀ a ∈ done ++ [(e.id : Int)], ∃ e ∈ E, a = (e.id : Int) := fun a ha => by
          rcases List.mem_append.1 ha with ha | ha
          · exact hds a ha
          · rw [List.mem_singleton.1 ha]; exact ⟨e, he, rfl⟩
        have no : e.due c = false → I c s ⟨it, 0⟩ g2 := by
          intro hd
          refine ih (done ++ [(e.id : Int)]) s D g2 (by simp; omega) hdn2 hds2 I2 ?_ kg2 hA2 hDn (by simp; omega) (fun a => ?_)
          · rw [List.map_congr_left (fun x hx => mark_not (hsame x hx) hd)]; exact T2
          · rw [hD a, List.mem_append, List.mem_singleton]
            constructor
            · rintro ⟨h1, h2⟩; exact ⟨.inl h1, h2⟩
            · rintro ⟨h1, h2⟩
              refine ⟨h1.resolve_right (fun c' => ?_), h2⟩
              obtain ⟨x, hx, h3, h4⟩ := h2
              rw [hsame x hx (by omega), hd] at h4; cases h4
        have e0 : e.cells[0 + 3]? = some (.bool e.set) := rfl
        refine loc_B hxe e0 (br_if (fun hs => ?_) (fun hs => no (by unfold En.due; rw [hs]; rfl)))
        rw [der_some]
        refine loc_B hxe (x := false) rfl (br_t rfl ?_)
        rw [der_some]
        refine loc_I hxe (x := e.at_) rfl (now0 hxe hc ⟨⟨(get_cells hxe _).trans rfl, trivial⟩, ?_⟩)
        refine br_if (fun hd => ?_) (fun hd => no (by unfold En.due; rw [hs, hd]; rfl))
        have hdue : e.due c = true := by unfold En.due; rw [hs, hd]; rfl
        unfold vtimer_Timers_Due.j8
        rw [der_some]
        refine loc_wr hxe rfl (fun g3 ho3 k3 => ?_)
        have T3 : Ts tb m (E.map (mark c (done ++ [(e.id : Int)]))) g3 := by
          have h1 := T2.upd (e := e) (e' := e.off) (by have := List.mem_map.2 ⟨e, he, hmk⟩; exact this) rfl rfl k3 ho3
          rw [List.map_map] at h1
          rw [List.map_congr_left (fun x hx => mark_one (done := done) (hsame x hx) hdue)]
          exact h1
        refine al_of (fun b2 g4 hb2 ho4 k4 => ?_)
        have T4 := T3.keep0 k4
        have I4 := (I2.keeps k3 (fun c => nix e he c.symm) (T.m.cells (T.x e he))).keeps k4 (fun f => f) (fun f => f)
        refine rdN_held (vs := [.int .i64 (e.id : Int)]) rfl (fun j v hv => by rw [get_cells ho4, Nat.zero_add]; exact hv) ?_
        have kg4 : Keeps (fun z => (∃ e ∈ E, z = e.b) ∨ z = it) h g4 := (kg2.trans (k3.mono (fun z c => .inl ⟨e, he, c⟩))).trans (k4.mono (fun _ f => f.elim))
        have fresh : ∀ b, g4.obj b = none → h.obj b = none ∧ b ≠ it := fun b hb => by
          refine ⟨?_, fun c => ?_⟩
          · cases hx : h.obj b with
            | none => rfl
            | some z => exact absurd hb (kg4.known b (by rw [hx]; simp))
          · obtain ⟨bs, cc, seen, ho, _⟩ := I4
            rw [← c, hb] at ho; cases ho
        have fin : ∀ (s' : Sl) (g5 : Heap) (b5 : Nat), OwnF g5 s' ((D ++ [(e.id : Int)]).map (V.int .i64)) b5 → h.obj b5 = none → b5 ≠ it → (∀ z, g4.obj z ≠ none → z ≠ b5 → g5.obj z = g4.obj z) → (∀ z, g4.obj z ≠ none → g5.obj z ≠ none) → I c s' ⟨it, 0⟩ g5 := by
          intro s' g5 b5 O5 hb5 hbi5 hs5 hkn5
          have k5 : Keeps (· = b5) g4 g5 := ⟨fun z hz hn => hs5 z hz hn, fun z hz => hkn5 z hz⟩
          have hnE : ∀ x ∈ E, x.b ≠ b5 := fun x hx c => by have := T.x x hx; rw [c, hb5] at this; cases this
          refine ih (done ++ [(e.id : Int)]) s' (D ++ [(e.id : Int)]) g5 (by simp; omega) hdn2 hds2 (I4.keeps k5 (fun c => hbi5 c.symm) (fun c => ?_)) (T4.keep k5 (fun c => ?_) (fun c => ?_) (fun x hx c => ?_)) ?_ (.inr ⟨b5, O5, hb5, hbi5⟩) ?_ (by simp; omega) (fun a => ?_)
          · obtain ⟨bs, cc, ho, _⟩ := T.m; rw [c, hb5] at ho; cases ho
          · have := T.t; rw [c, hb5] at this; cases this
          · obtain ⟨bs, cc, ho, _⟩ := T.m; rw [c, hb5] at ho; cases ho
          · obtain ⟨y, hy, rfl⟩ := List.mem_map.1 hx
            rw [mark_b] at c; exact hnE y hy c
          · exact ⟨fun z hz hn => by
              rw [k5.same z (kg4.known z hz) (fun c => hz (c ▸ hb5))]; exact kg4.same z hz hn, fun z hz => k5.known z (kg4.known z hz)⟩
          · rw [List.nodup_append]
            exact ⟨hDn, by simp, fun a ha b hb => by rw [List.mem_singleton.1 hb]; exact fun c' => hnd ((hD (e.id : Int)).1 (c' ▸ ha)).1⟩
          · rw [List.mem_append, List.mem_append, List.mem_singleton, hD a]
            constructor
            · rintro (⟨h1, h2⟩ | rfl)
              · exact ⟨.inl h1, h2⟩
              · exact ⟨.inr rfl, e, he, rfl, hdue⟩
            · rintro ⟨h1 | h1, h2⟩
              · exact .inl ⟨h1, h2⟩
              · exact .inr h1
        rcases hA2 with ⟨rfl, rfl⟩ | ⟨b, O, hb, hbi⟩
        · refine appF_nil (by decide) (fun s' g5 b5 O5 hb5 k5 => ?_)
          obtain ⟨f1, f2⟩ := fresh b5 hb5
          exact fin s' g5 b5 O5 f1 f2 (fun z hz _ => k5.same z hz (fun f => f)) (fun z hz => k5.known z hz)
        · have O4 : OwnF g4 s (D.map (V.int .i64)) b := by
            obtain ⟨rest, ho, hr⟩ := O.obj
            exact ⟨O.p, O.cap, O.len, rest, k4.obj (k3.obj ho (fun c => by have c : b = e.b := c; have := T.x e he; rw [← c, hb] at this; cases this)) (fun f => f), hr⟩
          refine appF_own O4 (by decide) (by have := O.len; simp at this; omega) (fun s' g5 b5 O5 hb5 => ?_)
          rw [← List.map_singleton, ← List.map_append] at O5
          rcases hb5 with ⟨rfl, k5⟩ | ⟨hb5, k5⟩
          · exact fin s' g5 b5 O5 hb hbi (fun z hz hn => k5.same z hz hn) (fun z hz => k5.known z hz)
          · obtain ⟨f1, f2⟩ := fresh b5 hb5
            exact fin s' g5 b5 O5 f1 f2 (fun z hz hn => k5.same z hz (fun f => f)) (fun z hz => k5.known z hz)
  have := key E.length [] ⟨none, 0, 0⟩ [] g1 (by simp) List.nodup_nil (fun a ha => by cases ha) I1 (by rw [mark_none]; exact T.keep0 k1) (k1.mono (fun _ f => f.elim)) (.inl ⟨rfl, rfl⟩) List.nodup_nil (by simp) (fun a => by simp)
  exact this

theorem Next_none (T : Ts tb m E h) (hs : ∀ e ∈ E, e.set = false) {Q : Int → Bool → Heap → Prop} (hq : ∀ h', Q 0 false h') : vtimer_Timers_Next (some ⟨tb, 0⟩) Q h := by
  unfold vtimer_Timers_Next
  refine br_f rfl ?_
  rw [der_some]
  refine loc_M T.t rfl (range_of T.m (fun it g1 hit I1 k1 => ?_))
  have nit : tb ≠ it := Heap.ne_of T.t hit
  have nix : ∀ e ∈ E, e.b ≠ it := fun e he => Heap.ne_of (T.x e he) hit
  have nim : it ≠ m := T.m.ne hit
  have keys := keys_nodup T.ids
  unfold vtimer_Timers_Next.j5
  intro I H
  have key : ∀ (j : Nat) (done : List Int) (g : Heap), done.length + j = E.length → done.Nodup → (∀ a ∈ done, ∃ e ∈ E, a = (e.id : Int)) → IterAt g it m .i64 (E.map En.kv) done → Ts tb m E g → I 0 false ⟨it, 0⟩ g := by
    intro j
    induction j with
    | zero =>
      intro done g hj hdn hds Ig Tg
      refine H _ _ _ _ ?_
      unfold vtimer_Timers_Next.b5
      refine ⟨rfl, next_of keys Ig (fun hall => hq _) (fun a v hav hnd => ?_)⟩
      exfalso
      obtain ⟨e, he, hev⟩ := List.mem_map.1 hav
      cases hev
      have hsub : ((e.id : Int) :: done).length ≤ (E.map (fun e => (e.id : Int))).length := List.Nodup.length_le_of_subset (List.nodup_cons.2 ⟨hnd, hdn⟩) (fun b hb => by
        rcases List.mem_cons.1 hb with rfl | hb
        · exact List.mem_map.2 ⟨e, he, rfl⟩
        · obtain ⟨e', he', rfl⟩ := hds b hb
          exact List.mem_map.2 ⟨e', he', rfl⟩)
      simp only [List.length_cons, List.length_map] at hsub
      omega
    | succ j ih =>
      intro done g hj hdn hds Ig Tg
      refine H _ _ _ _ ?_
      unfold vtimer_Timers_Next.b5
      refine ⟨rfl, next_of keys Ig (fun hall => hq _) (fun a v hav hnd g2 I2 k2 => ?_)⟩
      obtain ⟨e, he, hev⟩ := List.mem_map.1 hav
      cases hev
      have T2 : Ts tb m E g2 := Tg.keep k2 nit nim.symm nix
      have hxe := T2.x e he
      refine ⟨rfl, entry_of keys I2 hav ?_⟩
      refine asI_of ?_
      rw [asP_p, der_some]
      refine loc_I hxe (x := 0) rfl ?_
      rw [der_some]
      refine loc_I hxe (x := e.at_) rfl ?_
      rw [der_some]
      refine loc_B hxe (x := e.set) rfl (br_f (hs e he) ?_)
      refine ih (done ++ [(e.id : Int)]) g2 (by simp; omega) ?_ (fun a ha => ?_) I2 T2
      · rw [List.nodup_append]
        exact ⟨hdn, by simp, fun a ha b hb => by rw [List.mem_singleton.1 hb]; exact fun c => hnd (c ▸ ha)⟩
      · rcases List.mem_append.1 ha with ha | ha
        · exact hds a ha
        · rw [List.mem_singleton.1 ha]; exact ⟨e, he, rfl⟩
  exact key E.length [] g1 (by simp) List.nodup_nil (fun a ha => by cases ha) I1 (T.keep0 k1)

end
end Go.Vtimer

/- Timers of many virtual processors, none of which is halted. -/
import Derived.Test.YtgigbjieppllgaaStKit
import Derived.Test.YtgigbjieppllgaaLiftY
import Derived.Test.YtgigbjieppllgaaFa
import Derived.Test.YtgigbjieppllgaaNumKit
set_option linter.unusedSimpArgs false
set_option linter.unusedVariables false
set_option maxRecDepth 100000
namespace Go.Vtimer
open Go.Lift Go.Fn

/-- One's timer: its number, its block, whether it is set, and when. -/
structure En where
  id : Nat
  b : Nat
  set : Bool
  at_ : Int

def En.cells (e : En) : List V := [.int .u64 0, .bool false, .int .u64 0, .bool e.set, .int .u64 e.at_]
def En.kv (e : En) : Int × V := ((e.id : Int), .ptr (some ⟨e.b, 0⟩))
def En.off (e : En) : En := { e with set := false }
def En.due (e : En) (c : Int) : Bool := e.set && decide (c ≥ e.at_)

structure Ts (tb m : Nat) (E : List En) (h : Heap) : Prop where
  t : h.obj tb = some (.cells [.map (some m)] false)
  m : MapAt h m .i64 (E.map En.kv)
  x : ∀ e ∈ E, h.obj e.b = some (.cells e.cells false)
  ids : (E.map En.id).Nodup
  bs : (E.map En.b).Nodup
  ne : ∀ e ∈ E, e.b ≠ tb

theorem ifind_mem {a : Int} {v : V} : ∀ {l : List (Int × V)}, IKeys l → (a, v) ∈ l → ifind a l = some v
  | [], _, h => by cases h
  | (a', v') :: l, hn, h => by
    unfold IKeys at hn
    rw [List.map_cons, List.nodup_cons] at hn
    unfold ifind
    rcases List.mem_cons.1 h with e | h
    · cases e; rw [if_pos rfl]
    · have hne : a ≠ a' := fun e => hn.1 (e ▸ List.mem_map.2 ⟨_, h, rfl⟩)
      rw [if_neg hne]
      exact ifind_mem hn.2 h

theorem iput_new {a : Int} {v : V} : ∀ {l : List (Int × V)}, a ∉ l.map (·.1) → iput a v l = l ++ [(a, v)]
  | [], _ => rfl
  | (a', v') :: l, h => by
    rw [List.map_cons, List.mem_cons] at h
    unfold iput
    rw [if_neg (fun e => h (.inl e)), iput_new (fun hm => h (.inr hm))]
    rfl

theorem idel_none {a : Int} : ∀ {l : List (Int × V)}, a ∉ l.map (·.1) → idel a l = l
  | [], _ => rfl
  | (a', v') :: l, h => by
    rw [List.map_cons, List.mem_cons] at h
    unfold idel
    rw [if_neg (fun e => h (.inl e)), idel_none (fun hm => h (.inr hm))]

theorem keys_kv {E : List En} : (E.map En.kv).map (·.1) = E.map (fun e => (e.id : Int)) := by rw [List.map_map]; rfl

theorem key_mem {E : List En} {i : Nat} : (i : Int) ∈ (E.map En.kv).map (·.1) ↔ i ∈ E.map En.id := by
  rw [keys_kv]
  constructor
  · intro h
    obtain ⟨e, he, h1⟩ := List.mem_map.1 h
    exact List.mem_map.2 ⟨e, he, by omega⟩
  · intro h
    obtain ⟨e, he, h1⟩ := List.mem_map.1 h
    exact List.mem_map.2 ⟨e, he, by omega⟩

theorem keys_nodup {E : List En} (h : (E.map En.id).Nodup) : IKeys (E.map En.kv) := by
  unfold IKeys
  rw [keys_kv]
  unfold List.Nodup at h ⊢
  rw [List.pairwise_map] at h ⊢
  exact h.imp (fun hne e => hne (by omega))

theorem idel_kv {i : Nat} : ∀ {E : List En}, (E.map En.id).Nodup → idel (i : Int) (E.map En.kv) = (E.filter (fun e => e.id != i)).map En.kv
  | [], _ => rfl
  | e :: E, hn => by
    rw [List.map_cons, List.nodup_cons] at hn
    rw [List.map_cons]
    show idel (i : Int) (((e.id : Int), _) :: E.map En.kv) = _
    unfold idel
    by_cases h : (i : Int) = (e.id : Int)
    · have h' : e.id = i := by omega
      rw [if_pos h, List.filter_cons_of_neg (by simp [h'])]
      have : E.filter (fun e => e.id != i) = E := List.filter_eq_self.2 (fun x hx => by
        have : x.id ≠ i := fun c => hn.1 (h' ▸ c ▸ List.mem_map.2 ⟨x, hx, rfl⟩)
        simpa using this)
      rw [this]
    · have h' : e.id ≠ i := by omega
      rw [if_neg h, List.filter_cons_of_pos (by simpa using h'), List.map_cons, idel_kv hn.2]
      rfl

theorem same_id {E : List En} (h : (E.map En.id).Nodup) {x y : En} (hx : x ∈ E) (hy : y ∈ E) (e : x.id = y.id) : x = y := by
  induction E with
  | nil => cases hx
  | cons z E ih =>
    rw [List.map_cons, List.nodup_cons] at h
    rcases List.mem_cons.1 hx with rfl | hx'
    · rcases List.mem_cons.1 hy with rfl | hy'
      · rfl
      · exact absurd (e ▸ List.mem_map.2 ⟨y, hy', rfl⟩) h.1
    · rcases List.mem_cons.1 hy with rfl | hy'
      · exact absurd (e ▸ List.mem_map.2 ⟨x, hx', rfl⟩) h.1
      · exact ih h.2 hx' hy'

theorem same_b {E : List En} (h : (E.map En.b).Nodup) {x y : En} (hx : x ∈ E) (hy : y ∈ E) (e : x.b = y.b) : x = y := by
  induction E with
  | nil => cases hx
  | cons z E ih =>
    rw [List.map_cons, List.nodup_cons] at h
    rcases List.mem_cons.1 hx with rfl | hx'
    · rcases List.mem_cons.1 hy with rfl | hy'
      · rfl
      · exact absurd (e ▸ List.mem_map.2 ⟨y, hy', rfl⟩) h.1
    · rcases List.mem_cons.1 hy with rfl | hy'
      · exact absurd (e ▸ List.mem_map.2 ⟨x, hx', rfl⟩) h.1
      · exact ih h.2 hx' hy'

section
variable {tb m : Nat} {E : List En} {h h' : Heap}

theorem Ts.keep0 (T : Ts tb m E h) (k : Keeps none_ h h') : Ts tb m E h' :=
  ⟨k.obj T.t (fun f => f), T.m.keeps k (fun f => f), fun e he => k.obj (T.x e he) (fun f => f), T.ids, T.bs, T.ne⟩

theorem Ts.keep {S : Nat → Prop} (T : Ts tb m E h) (k : Keeps S h h') (h1 : ¬ S tb) (h2 : ¬ S m) (h3 : ∀ e ∈ E, ¬ S e.b) : Ts tb m E h' :=
  ⟨k.obj T.t h1, T.m.keeps k h2, fun e he => k.obj (T.x e he) (h3 e he), T.ids, T.bs, T.ne⟩

/-- One's timer is changed. -/
theorem Ts.upd (T : Ts tb m E h) {e e' : En} (he : e ∈ E) (hid : e'.id = e.id) (hb : e'.b = e.b) (k : Keeps (· = e.b) h h') (hx : h'.obj e.b = some (.cells e'.cells false)) : Ts tb m (E.map (fun x => if x.id = e.id then e' else x)) h' := by
  have hkv : (E.map (fun x => if x.id = e.id then e' else x)).map En.kv = E.map En.kv := by
    rw [List.map_map]
    refine List.map_congr_left (fun x hx => ?_)
    show En.kv (if x.id = e.id then e' else x) = En.kv x
    by_cases c : x.id = e.id
    · rw [if_pos c, same_id T.ids hx he c]; unfold En.kv; rw [hid, hb]
    · rw [if_neg c]
  have hids : (E.map (fun x => if x.id = e.id then e' else x)).map En.id = E.map En.id := by
    rw [List.map_map]
    refine List.map_congr_left (fun x hx => ?_)
    show En.id (if x.id = e.id then e' else x) = En.id x
    by_cases c : x.id = e.id
    · rw [if_pos c, hid, c]
    · rw [if_neg c]
  have hbs : (E.map (fun x => if x.id = e.id then e' else x)).map En.b = E.map En.b := by
    rw [List.map_map]
    refine List.map_congr_left (fun x hx => ?_)
    show En.b (if x.id = e.id then e' else x) = En.b x
    by_cases c : x.id = e.id
    · rw [if_pos c, hb, same_id T.ids hx he c]
    · rw [if_neg c]
  refine ⟨k.obj T.t (fun c => T.ne e he c.symm), ?_, fun y hy => ?_, by rw [hids]; exact T.ids, by rw [hbs]; exact T.bs, fun y hy => ?_⟩
  · rw [hkv]; exact T.m.keeps k (T.m.cells (T.x e he))
  · obtain ⟨x, hx', rfl⟩ := List.mem_map.1 hy
    by_cases c : x.id = e.id
    · rw [if_pos c, hb]; exact hx
    · rw [if_neg c]
      exact k.obj (T.x x hx') (fun cb => c (by rw [same_b T.bs hx' he cb]))
  · obtain ⟨x, hx', rfl⟩ := List.mem_map.1 hy
    by_cases c : x.id = e.id
    · rw [if_pos c, hb]; exact T.ne e he
    · rw [if_neg c]; exact T.ne x hx'

theorem asP_p {p : Option Ptr} {κ : Option Ptr → Prop} : asP (.ptr p) κ = κ p := rfl

theorem there_of (T : Ts tb m E h) {e : En} (he : e ∈ E) {Q : Option Ptr → Int → Heap → Prop} (hq : Q (some ⟨e.b, 0⟩) 0 h) : vtimer_Timers_of (some ⟨tb, 0⟩) e.id Q h := by
  unfold vtimer_Timers_of
  refine br_f rfl ?_
  rw [der_some]
  refine loc_M T.t rfl (br_f rfl ?_)
  rw [der_some]
  refine loc_M T.t rfl (mapGet_of T.m ?_)
  rw [ifind_mem (keys_nodup T.ids) (List.mem_map.2 ⟨e, he, rfl⟩ : ((e.id : Int), V.ptr (some ⟨e.b, 0⟩)) ∈ E.map En.kv)]
  exact hq

theorem gone_of (T : Ts tb m E h) {i : Nat} (hi : i ∉ E.map En.id) {Q : Option Ptr → Int → Heap → Prop} (hq : Q none 14 h) : vtimer_Timers_of (some ⟨tb, 0⟩) i Q h := by
  unfold vtimer_Timers_of
  refine br_f rfl ?_
  rw [der_some]
  refine loc_M T.t rfl (br_f rfl ?_)
  rw [der_some]
  refine loc_M T.t rfl (mapGet_of T.m ?_)
  rw [ifind_none (fun c => hi (key_mem.1 c))]
  exact hq

theorem Begin_of (T : Ts tb m E h) {i : Nat} (hi : i ∉ E.map En.id) (hl : E.length < 64) {Q : Int → Heap → Prop}
    (hq : ∀ b h', Ts tb m (E ++ [⟨i, b, false, 0⟩]) h' → h.obj b = none → Keeps (· = m) h h' → Q 0 h') : vtimer_Timers_Begin (some ⟨tb, 0⟩) i 0 Q h := by
  unfold vtimer_Timers_Begin
  refine gone_of T hi (br_f rfl (br_f rfl ?_))
  rw [der_some]
  refine loc_M T.t rfl (mapLen_of T.m (br_f (by simp; omega) ?_))
  rw [der_some]
  refine loc_M T.t rfl (al_of (fun b h1 hb ho k1 => ?_))
  have T1 := T.keep0 k1
  refine mapPut_of T1.m (fun h2 M2 k2 => ?_)
  unfold vtimer_Timers_Begin.j9
  have hbm : b ≠ m := fun c => T1.m.cells ho c.symm
  refine hq b h2 ⟨k2.obj T1.t (fun c => T1.m.cells T1.t c.symm), ?_, fun e he => ?_, ?_, ?_, fun e he => ?_⟩ hb ⟨fun z hz hn => ?_, fun z hz => k2.known z (k1.known z hz)⟩
  · rw [iput_new (fun c => hi (key_mem.1 c))] at M2
    rw [List.map_append]; exact M2
  · rcases List.mem_append.1 he with he | he
    · exact k2.obj (T1.x e he) (fun c => T1.m.cells (T1.x e he) c.symm)
    · rw [List.mem_singleton.1 he]; exact k2.obj ho hbm
  · rw [List.map_append, List.map_singleton, List.nodup_append]
    exact ⟨T.ids, by simp, fun a ha b hb => by rw [List.mem_singleton.1 hb]; exact fun c => hi (by rw [c] at ha; exact ha)⟩
  · rw [List.map_append, List.map_singleton, List.nodup_append]
    refine ⟨T.bs, by simp, fun a ha b' hb' => ?_⟩
    rw [List.mem_singleton.1 hb']
    obtain ⟨e, he, rfl⟩ := List.mem_map.1 ha
    intro c
    have := T.x e he
    rw [c, hb] at this
    cases this
  · rcases List.mem_append.1 he with he | he
    · exact T.ne e he
    · rw [List.mem_singleton.1 he]
      intro c
      have := T.t
      rw [← c, hb] at this
      cases this
  · rw [k2.same z (k1.known z hz) hn]
    exact k1.same z hz (fun f => f)

theorem Set_of (T : Ts tb m E h) {e : En} (he : e ∈ E) {a : Int} (ha : 0 ≤ a ∧ a ≤ 1000) {Q : Int → Heap → Prop}
    (hq : ∀ h', Ts tb m (E.map (fun x => if x.id = e.id then { e with set := true, at_ := a } else x)) h' → Keeps (· = e.b) h h' → Q 0 h') : vtimer_Timers_Set (some ⟨tb, 0⟩) e.id a Q h := by
  unfold vtimer_Timers_Set
  refine there_of T he (br_t rfl ?_)
  rw [der_some]
  refine loc_wr (T.x e he) rfl (fun h1 ho1 k1 => ?_)
  rw [der_some]
  refine loc_wr ho1 rfl (fun h2 ho2 k2 => hq h2 (T.upd (e' := { e with set := true, at_ := a }) he rfl rfl (k1.trans k2) ?_) (k1.trans k2))
  have : minI a 4611686018427387904 = a := by unfold minI; rw [if_neg (by omega)]
  rw [this] at ho2
  exact ho2

theorem End_of (T : Ts tb m E h) {e : En} (he : e ∈ E) {Q : Int → Heap → Prop}
    (hq : ∀ h', Ts tb m (E.filter (fun x => x.id != e.id)) h' → Keeps (· = m) h h' → Q 0 h') : vtimer_Timers_End (some ⟨tb, 0⟩) e.id Q h := by
  unfold vtimer_Timers_End
  refine there_of T he (br_t rfl ?_)
  rw [der_some]
  refine loc_M T.t rfl (mapDel_of T.m (fun h1 M1 k1 => hq h1 ?_ k1))
  rw [idel_kv T.ids] at M1
  have sub : (E.filter (fun x => x.id != e.id)).Sublist E := List.filter_sublist
  exact ⟨k1.obj T.t (fun c => T.m.cells T.t c.symm), M1, fun x hx => k1.obj (T.x x (sub.subset hx)) (fun c => T.m.cells (T.x x (sub.subset hx)) c.symm), T.ids.sublist (sub.map _), T.bs.sublist (sub.map _), fun x hx => T.ne x (sub.subset hx)⟩

theorem End_none (T : Ts tb m E h) {i : Nat} (hi : i ∉ E.map En.id) {Q : Int → Heap → Prop} (hq : Q 14 h) : vtimer_Timers_End (some ⟨tb, 0⟩) i Q h := by
  unfold vtimer_Timers_End
  exact gone_of T hi (br_f rfl hq)

/-- A slice of one's own, into which may be stored. -/
structure OwnF (h : Heap) (s : Sl) (vs : List V) (b : Nat) : Prop where
  p : s.p = some ⟨b, 0⟩
  cap : s.len ≤ s.cap
  len : vs.length = s.len
  obj : ∃ rest, h.obj b = some (.cells (vs ++ rest) false) ∧ rest.length = s.cap - s.len

theorem OwnF.held {s : Sl} {vs : List V} {b : Nat} (O : OwnF h s vs b) : Held h s 1 vs := by
  obtain ⟨rest, ho, hr⟩ := O.obj
  exact Own.held (b := b) ⟨O.p, O.cap, by rw [O.len]; omega, rest, false, ho, by rw [hr]; omega⟩

theorem appF_nil {v z : V} {bytes : Nat} {κ : Sl → Heap → Prop} (hb : bytes ≤ 8) (hk : ∀ s' h' b', OwnF h' s' [v] b' → h.obj b' = none → Keeps none_ h h' → κ s' h') : appS 1 bytes [z] ⟨none, 0, 0⟩ [v] 1 κ h := by
  unfold appS
  rw [if_neg (by simp)]
  refine ⟨by show (0 + 1) * bytes ≤ _; omega, by decide, rfl, ?_⟩
  intro c hc b' hb'
  refine hk _ _ b' ?_ hb' (Keeps.new hb' _)
  exact ⟨rfl, hc, rfl, flatRep (c - (0 + 1)) [z], by simp [Heap.new], by rw [flatRep_length]; simp⟩

theorem appF_own {s : Sl} {vs : List V} {b : Nat} {v z : V} {bytes : Nat} {κ : Sl → Heap → Prop} (O : OwnF h s vs b) (hb : bytes ≤ 8) (hl : s.len ≤ 1000) (hk : ∀ s' h' b', OwnF h' s' (vs ++ [v]) b' → (b' = b ∧ Keeps (· = b) h h') ∨ (h.obj b' = none ∧ Keeps none_ h h') → κ s' h') : appS 1 bytes [z] s [v] 1 κ h := by
  obtain ⟨rest, ho, hr⟩ := O.obj
  have hlen := O.len
  unfold appS
  by_cases hc : s.len + 1 ≤ s.cap
  · rw [if_pos hc, O.p]
    simp only
    refine wrL_of (b := b) (o := 0 + s.len * 1) ho (by simp; omega) ?_
    intro h' ho' hk'
    refine hk _ h' b ?_ (.inl ⟨rfl, hk'⟩)
    refine ⟨rfl, hc, by simp [hlen], rest.drop 1, ?_, ?_⟩
    · rw [ho']
      congr 2
      unfold splice
      rw [Nat.add_zero, Nat.zero_add, Nat.mul_one, ← hlen, List.take_left, List.drop_append]
      simp
    · simp only [List.length_drop, hr]; omega
  · rw [if_neg hc]
    have : (s.len + 1) * bytes ≤ 1001 * 8 := Nat.mul_le_mul (by omega) hb
    refine ⟨by omega, by omega, ?_⟩
    rw [O.p]
    refine rdN_held (by rw [hlen]; omega) (O.held.row _ O.p) ?_
    intro c hcc b' hb'
    refine hk _ _ b' ?_ (.inr ⟨hb', Keeps.new hb' _⟩)
    exact ⟨rfl, hcc, by simp [hlen], flatRep (c - (s.len + 1)) [z], by simp [Heap.new], by rw [flatRep_length]; simp⟩

/-- The sort of a slice of one's own. -/
theorem sort_own {s : Sl} {D : List Int} {b : Nat} (O : OwnF h s (D.map (V.int .i64)) b) (hl : D.length ≤ 1000) {κ : Heap → Prop} (hk : ∀ h', OwnF h' s ((D.mergeSort fun x y => decide (x ≤ y)).map (V.int .i64)) b → Keeps (· = b) h h' → κ h') : sortI s κ h := by
  obtain ⟨rest, ho, hr⟩ := O.obj
  have hlen : D.length = s.len := by have := O.len; simpa using this
  unfold sortI
  by_cases h0 : s.len = 0
  · rw [if_pos h0]
    have : D = [] := List.length_eq_zero_iff.1 (by omega)
    subst this
    exact hk h (by simpa using O) (Keeps.refl _ _)
  · rw [if_neg h0]
    refine ⟨⟨b, 0⟩, _, O.p, ho, D, hlen, by omega, by simp; omega, ?_, ?_⟩
    · rw [List.drop_zero, List.take_append_of_le_length (by simp; omega), List.take_of_length_le (by simp; omega)]
    · refine hk _ ⟨O.p, O.cap, by simp [hlen], rest, ?_, hr⟩ (Keeps.setO ho)
      simp only [Heap.setO, if_true]
      congr 2
      unfold spl
      rw [List.take_zero, List.nil_append, List.drop_append]
      simp

/-- What Due has told when it has seen some. -/
def Ac (h g : Heap) (it : Nat) (s : Sl) (D : List Int) : Prop := (s = ⟨none, 0, 0⟩ ∧ D = []) ∨ ∃ b, OwnF g s (D.map (V.int .i64)) b ∧ h.obj b = none ∧ b ≠ it

def mark (c : Int) (done : List Int) (e : En) : En := if e.due c && done.contains (e.id : Int) then e.off else e

theorem mark_id (c : Int) (done : List Int) (e : En) : (mark c done e).id = e.id := by unfold mark; split <;> rfl
theorem mark_b (c : Int) (done : List Int) (e : En) : (mark c done e).b = e.b := by unfold mark; split <;> rfl

theorem now0 {e : En} (ho : h.obj e.b = some (.cells e.cells false)) {c : Int} (hc : 0 ≤ c ∧ c ≤ 1000) {Q : Int → Heap → Prop} (hq : Q c h) : vtimer_timer_now (some ⟨e.b, 0⟩) c Q h := by
  unfold vtimer_timer_now
  rw [der_some]
  refine loc_B ho rfl (br_f rfl ?_)
  rw [der_some]
  refine loc_I ho rfl ?_
  rw [der_some]
  refine loc_I ho rfl ⟨⟨(get_cells ho _).trans rfl, trivial⟩, ⟨(get_cells ho _).trans rfl, trivial⟩, ⟨(get_cells ho _).trans rfl, trivial⟩, ?_⟩
  have : IntKind.u64.wrap (maxI (minI c 4611686018427387904) 0 - 0) = c := by
    have e1 : minI c 4611686018427387904 = c := by unfold minI; rw [if_neg (by omega)]
    have e2 : maxI c 0 = c := by unfold maxI; split <;> omega
    rw [e1, e2, wrapu64] <;> omega
  rw [this]
  exact hq

end
end Go.Vtimer

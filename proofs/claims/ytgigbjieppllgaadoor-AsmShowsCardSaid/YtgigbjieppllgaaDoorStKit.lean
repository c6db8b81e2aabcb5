/- The memory as a list of blocks that are known: reading, writing and laying blocks by the list. -/
import Derived.Test.YtgigbjieppllgaaDoorSeqKit
set_option linter.unusedSimpArgs false
set_option linter.unusedVariables false
set_option maxRecDepth 100000
namespace Go.Lift

/-- The blocks of L are as listed; what stood at h0 and is not in W stands as it stood. -/
structure St (h0 : Heap) (W : Nat → Prop) (L : List (Nat × HO)) (h : Heap) : Prop where
  nodup : (L.map (·.1)).Nodup
  objs : ∀ b x, (b, x) ∈ L → h.obj b = some x
  new : ∀ b x, (b, x) ∈ L → h0.obj b = none ∨ W b
  keeps : Keeps W h0 h

section
variable {h0 h h' : Heap} {W : Nat → Prop} {L : List (Nat × HO)} {i b o : Nat} {l : List V} {m : Bool}

theorem i0 {α : Type} {x0 : α} {L : List α} : (x0 :: L)[0]? = some x0 := rfl
theorem i1 {α : Type} {x0 x1 : α} {L : List α} : (x0 :: x1 :: L)[1]? = some x1 := rfl
theorem i2 {α : Type} {x0 x1 x2 : α} {L : List α} : (x0 :: x1 :: x2 :: L)[2]? = some x2 := rfl
theorem i3 {α : Type} {x0 x1 x2 x3 : α} {L : List α} : (x0 :: x1 :: x2 :: x3 :: L)[3]? = some x3 := rfl
theorem i4 {α : Type} {x0 x1 x2 x3 x4 : α} {L : List α} : (x0 :: x1 :: x2 :: x3 :: x4 :: L)[4]? = some x4 := rfl
theorem i5 {α : Type} {x0 x1 x2 x3 x4 x5 : α} {L : List α} : (x0 :: x1 :: x2 :: x3 :: x4 :: x5 :: L)[5]? = some x5 := rfl
theorem i6 {α : Type} {x0 x1 x2 x3 x4 x5 x6 : α} {L : List α} : (x0 :: x1 :: x2 :: x3 :: x4 :: x5 :: x6 :: L)[6]? = some x6 := rfl
theorem i7 {α : Type} {x0 x1 x2 x3 x4 x5 x6 x7 : α} {L : List α} : (x0 :: x1 :: x2 :: x3 :: x4 :: x5 :: x6 :: x7 :: L)[7]? = some x7 := rfl
theorem i8 {α : Type} {x0 x1 x2 x3 x4 x5 x6 x7 x8 : α} {L : List α} : (x0 :: x1 :: x2 :: x3 :: x4 :: x5 :: x6 :: x7 :: x8 :: L)[8]? = some x8 := rfl
theorem i9 {α : Type} {x0 x1 x2 x3 x4 x5 x6 x7 x8 x9 : α} {L : List α} : (x0 :: x1 :: x2 :: x3 :: x4 :: x5 :: x6 :: x7 :: x8 :: x9 :: L)[9]? = some x9 := rfl

theorem i10 {α : Type} {x0 x1 x2 x3 x4 x5 x6 x7 x8 x9 x10 : α} {L : List α} : (x0 :: x1 :: x2 :: x3 :: x4 :: x5 :: x6 :: x7 :: x8 :: x9 :: x10 :: L)[10]? = some x10 := rfl
theorem i11 {α : Type} {x0 x1 x2 x3 x4 x5 x6 x7 x8 x9 x10 x11 : α} {L : List α} : (x0 :: x1 :: x2 :: x3 :: x4 :: x5 :: x6 :: x7 :: x8 :: x9 :: x10 :: x11 :: L)[11]? = some x11 := rfl
theorem i12 {α : Type} {x0 x1 x2 x3 x4 x5 x6 x7 x8 x9 x10 x11 x12 : α} {L : List α} : (x0 :: x1 :: x2 :: x3 :: x4 :: x5 :: x6 :: x7 :: x8 :: x9 :: x10 :: x11 :: x12 :: L)[12]? = some x12 := rfl
theorem i13 {α : Type} {x0 x1 x2 x3 x4 x5 x6 x7 x8 x9 x10 x11 x12 x13 : α} {L : List α} : (x0 :: x1 :: x2 :: x3 :: x4 :: x5 :: x6 :: x7 :: x8 :: x9 :: x10 :: x11 :: x12 :: x13 :: L)[13]? = some x13 := rfl
theorem i14 {α : Type} {x0 x1 x2 x3 x4 x5 x6 x7 x8 x9 x10 x11 x12 x13 x14 : α} {L : List α} : (x0 :: x1 :: x2 :: x3 :: x4 :: x5 :: x6 :: x7 :: x8 :: x9 :: x10 :: x11 :: x12 :: x13 :: x14 :: L)[14]? = some x14 := rfl
theorem i15 {α : Type} {x0 x1 x2 x3 x4 x5 x6 x7 x8 x9 x10 x11 x12 x13 x14 x15 : α} {L : List α} : (x0 :: x1 :: x2 :: x3 :: x4 :: x5 :: x6 :: x7 :: x8 :: x9 :: x10 :: x11 :: x12 :: x13 :: x14 :: x15 :: L)[15]? = some x15 := rfl

theorem St.start (h : Heap) (W : Nat → Prop) : St h W [] h := ⟨List.nodup_nil, fun _ _ h => (by cases h), fun _ _ h => (by cases h), Keeps.refl _ _⟩

theorem St.obj {x : HO} (S : St h0 W L h) (hi : L[i]? = some (b, x)) : h.obj b = some x := S.objs b x (List.mem_of_getElem? hi)

theorem nodup_get {L : List (Nat × HO)} (n : (L.map (·.1)).Nodup) {i j : Nat} {p q : Nat × HO} (hp : L[i]? = some p) (hq : L[j]? = some q) (hij : i ≠ j) : p.1 ≠ q.1 := by
  have hi : i < L.length := by
    rcases Nat.lt_or_ge i L.length with h | h
    · exact h
    · rw [List.getElem?_eq_none h] at hp; cases hp
  have hj : j < L.length := by
    rcases Nat.lt_or_ge j L.length with h | h
    · exact h
    · rw [List.getElem?_eq_none h] at hq; cases hq
  intro e
  rw [List.getElem?_eq_getElem hi] at hp
  rw [List.getElem?_eq_getElem hj] at hq
  cases hp; cases hq
  have := (List.getElem_inj (xs := L.map (·.1)) (i := i) (j := j) (h₀ := by simpa using hi) (h₁ := by simpa using hj) n).1 (by simpa using e)
  exact hij this

/-- Two blocks of the list are two. -/
theorem St.ne {x y : HO} {j c : Nat} (S : St h0 W L h) (hi : L[i]? = some (b, x)) (hj : L[j]? = some (c, y)) (hij : i ≠ j) : b ≠ c := nodup_get S.nodup hi hj hij

theorem St.rI {k : IntKind} {p : Ptr} {x : Int} {κ : Int → Prop} (S : St h0 W L h) (hi : L[i]? = some (p.b, .cells l m)) (hx : l[p.o]? = some (.int k x)) (hk : κ x) : rdI k p κ h := rdI_of ((get_cells (S.obj hi) _).trans hx) hk
theorem St.rB {p : Ptr} {x : Bool} {κ : Bool → Prop} (S : St h0 W L h) (hi : L[i]? = some (p.b, .cells l m)) (hx : l[p.o]? = some (.bool x)) (hk : κ x) : rdB p κ h := rdB_of ((get_cells (S.obj hi) _).trans hx) hk
theorem St.rS {p : Ptr} {x : List UInt8} {κ : List UInt8 → Prop} (S : St h0 W L h) (hi : L[i]? = some (p.b, .cells l m)) (hx : l[p.o]? = some (.str x)) (hk : κ x) : rdStr p κ h := rdStr_of ((get_cells (S.obj hi) _).trans hx) hk
theorem St.rP {p : Ptr} {x : Option Ptr} {κ : Option Ptr → Prop} (S : St h0 W L h) (hi : L[i]? = some (p.b, .cells l m)) (hx : l[p.o]? = some (.ptr x)) (hk : κ x) : rdP p κ h := rdP_of ((get_cells (S.obj hi) _).trans hx) hk
theorem St.rSl {p : Ptr} {x : Sl} {κ : Sl → Prop} (S : St h0 W L h) (hi : L[i]? = some (p.b, .cells l m)) (hx : l[p.o]? = some (.sl x)) (hk : κ x) : rdSl p κ h := rdSl_of ((get_cells (S.obj hi) _).trans hx) hk
theorem St.rM {p : Ptr} {x : Option Nat} {κ : Option Nat → Prop} (S : St h0 W L h) (hi : L[i]? = some (p.b, .cells l m)) (hx : l[p.o]? = some (.map x)) (hk : κ x) : rdM p κ h := rdM_of ((get_cells (S.obj hi) _).trans hx) hk
theorem St.rV {p : Ptr} {x : V} {κ : V → Prop} (S : St h0 W L h) (hi : L[i]? = some (p.b, .cells l m)) (hx : l[p.o]? = some x) (hk : κ x) : rdV p κ h := rdV_of ((get_cells (S.obj hi) _).trans hx) hk
theorem St.rN {n : Nat} {p : Ptr} {κ : List V → Prop} (S : St h0 W L h) (hi : L[i]? = some (p.b, .cells l m)) (hl : p.o + n ≤ l.length) (hk : κ ((l.drop p.o).take n)) : rdN n p κ h := by
  refine rdN_held (by simp; omega) (fun j v hv => ?_) hk
  rw [get_cells (S.obj hi)]
  have hj : j < n := by
    rcases Nat.lt_or_ge j n with h | h
    · exact h
    · rw [List.getElem?_eq_none (by simp; omega)] at hv; cases hv
  rw [List.getElem?_take_of_lt hj, List.getElem?_drop] at hv
  exact hv
theorem St.ck1 {p : Ptr} {v : V} (S : St h0 W L h) (hi : L[i]? = some (p.b, .cells l m)) (hx : l[p.o]? = some v) : ck p [v] 0 h := ⟨(get_cells (S.obj hi) _).trans hx, trivial⟩

theorem ck_cells {p : Ptr} (ho : h.obj p.b = some (.cells l m)) : ∀ (vs : List V) (k : Nat), (l.drop (p.o + k)).take vs.length = vs → ck p vs k h
  | [], _, _ => trivial
  | v :: vs, k, e => by
    have hlt : p.o + k < l.length := by
      rcases Nat.lt_or_ge (p.o + k) l.length with h1 | h1
      · exact h1
      · rw [List.drop_eq_nil_of_le h1] at e; simp at e
    rw [List.drop_eq_getElem_cons hlt] at e
    simp only [List.length_cons, List.take_succ_cons, List.cons.injEq] at e
    exact ⟨(get_cells ho _).trans ((List.getElem?_eq_getElem hlt).trans (by rw [e.1])), ck_cells ho vs (k + 1) e.2⟩
theorem St.ckL {p : Ptr} {vs : List V} (S : St h0 W L h) (hi : L[i]? = some (p.b, .cells l m)) (hx : (l.drop (p.o + 0)).take vs.length = vs) : ck p vs 0 h := ck_cells (S.obj hi) vs 0 hx

theorem St.ckA {p : Ptr} {vs : List V} {A : Prop} (S : St h0 W L h) (hi : L[i]? = some (p.b, .cells l m)) (hx : (l.drop (p.o + 0)).take vs.length = vs) (ha : A) : ck p vs 0 h ∧ A := ⟨S.ckL hi hx, ha⟩

/-- The list behind a change of one block. -/
theorem St.put {x y : HO} (S : St h0 W L h) (hi : L[i]? = some (b, x)) (hy : h'.obj b = some y) (k : Keeps (· = b) h h') : St h0 W (L.set i (b, y)) h' := by
  have hil : i < L.length := by
    rcases Nat.lt_or_ge i L.length with h | h
    · exact h
    · rw [List.getElem?_eq_none h] at hi; cases hi
  have keys : (L.set i (b, y)).map (·.1) = L.map (·.1) := by
    rw [List.map_set]
    refine List.ext_getElem? (fun j => ?_)
    by_cases e : j = i
    · subst e
      rw [List.getElem?_set_self (by simpa using hil), List.getElem?_map, hi]; rfl
    · rw [List.getElem?_set_ne (fun h => e h.symm)]
  refine ⟨by rw [keys]; exact S.nodup, fun c z hc => ?_, fun c z hc => ?_, ⟨fun z hz hn => ?_, fun z hz => k.known z (S.keeps.known z hz)⟩⟩
  · obtain ⟨j, hj⟩ := List.mem_iff_getElem?.1 hc
    by_cases e : j = i
    · subst e
      rw [List.getElem?_set_self hil] at hj
      cases hj; exact hy
    · rw [List.getElem?_set_ne (fun h => e h.symm)] at hj
      have hcb : c ≠ b := S.ne hj hi e
      exact k.obj (S.obj hj) hcb
  · have : c ∈ (L.set i (b, y)).map (·.1) := List.mem_map.2 ⟨_, hc, rfl⟩
    rw [keys] at this
    obtain ⟨p, hp, rfl⟩ := List.mem_map.1 this
    exact S.new p.1 p.2 hp
  · have hzb : z ≠ b := by
      intro e
      subst e
      rcases S.new _ _ (List.mem_of_getElem? hi) with h | h
      · exact hz h
      · exact hn h
    rw [k.same z (S.keeps.known z hz) hzb]
    exact S.keeps.same z hz hn

theorem St.wr {p : Ptr} {u v : V} {κ : Heap → Prop} (S : St h0 W L h) (hi : L[i]? = some (p.b, .cells l m)) (hx : l[p.o]? = some u) (hk : ∀ h', St h0 W (L.set i (p.b, .cells (l.set p.o v) m)) h' → κ h') : wr p v κ h := by
  have hg : h.getW p.b p.o = some u := (getW_cells (S.obj hi) _).trans hx
  refine wr_of hg (hk _ (S.put hi ?_ (Keeps.set hg)))
  simp [Heap.set, S.obj hi, HO.set]

theorem St.wrL {p : Ptr} {vs : List V} {κ : Heap → Prop} (S : St h0 W L h) (hi : L[i]? = some (p.b, .cells l m)) (hl : p.o + vs.length ≤ l.length) (hk : ∀ h', St h0 W (L.set i (p.b, .cells (splice l p.o vs) m)) h' → κ h') : wrL vs p 0 κ h :=
  wrL_of (j := 0) (S.obj hi) (by omega) (fun h' ho k => hk h' (S.put hi (by simpa using ho) k))

theorem St.fresh {x : HO} {c : Nat} (S : St h0 W L h) (hc : h.obj c = none) : c ∉ L.map (·.1) := by
  intro hm
  obtain ⟨p, hp, rfl⟩ := List.mem_map.1 hm
  rw [S.objs p.1 p.2 hp] at hc; cases hc

theorem St.more {x : HO} {c : Nat} (S : St h0 W L h) (hc : h.obj c = none) (hx : h'.obj c = some x) (k : Keeps none_ h h') : St h0 W ((c, x) :: L) h' := by
  have hf := S.fresh (x := x) hc
  refine ⟨by simp only [List.map_cons, List.nodup_cons]; exact ⟨hf, S.nodup⟩, fun b y hb => ?_, fun b y hb => ?_, ⟨fun z hz hn => ?_, fun z hz => k.known z (S.keeps.known z hz)⟩⟩
  · rcases List.mem_cons.1 hb with e | hb
    · cases e; exact hx
    · exact k.obj (S.objs b y hb) (fun f => f)
  · rcases List.mem_cons.1 hb with e | hb
    · cases e
      left
      cases hh : h0.obj c with
      | none => rfl
      | some z => exact absurd hc (S.keeps.known c (by rw [hh]; simp))
    · exact S.new b y hb
  · rw [k.same z (S.keeps.known z hz) (fun f => f)]
    exact S.keeps.same z hz hn

theorem St.al {z : List V} {κ : Nat → Heap → Prop} (S : St h0 W L h) (hk : ∀ b h', St h0 W ((b, .cells z false) :: L) h' → κ b h') : al z κ h :=
  al_of (fun b h' hb ho k => hk b h' (S.more hb ho k))

theorem St.alM {ks : Sh} {κ : Nat → Heap → Prop} (S : St h0 W L h) (hk : ∀ b h', St h0 W ((b, .map ks [] [] 0) :: L) h' → κ b h') : alM ks κ h :=
  fun b hb => hk b _ (S.more hb Heap.new_obj (Keeps.new hb _))

theorem St.mapGet {ks : Sh} {k : V} {κ : Option V → Prop} {es : List (V × V)} {bs : List Nat} {c : Nat} (S : St h0 W L h) (hi : L[i]? = some (b, .map ks es bs c)) (hk : κ (mfind k es)) : mapGet ks (some b) k κ h := ⟨es, bs, c, S.obj hi, hk⟩
theorem St.mapPut {ks : Sh} {k v : V} {κ : Heap → Prop} {es : List (V × V)} {bs : List Nat} {c : Nat} (S : St h0 W L h) (hi : L[i]? = some (b, .map ks es bs c)) (hk : ∀ h', St h0 W (L.set i (b, putO ks es bs c k v)) h' → κ h') : mapPut ks (some b) k v κ h :=
  ⟨es, bs, c, S.obj hi, hk _ (S.put hi (by simp [Heap.setO]) (Keeps.setO (S.obj hi)))⟩
theorem St.mapLen {ks : Sh} {κ : Int → Prop} {es : List (V × V)} {bs : List Nat} {c : Nat} (S : St h0 W L h) (hi : L[i]? = some (b, .map ks es bs c)) (hk : κ es.length) : mapLen (some b) κ h := ⟨ks, es, bs, c, S.obj hi, hk⟩

/-- Nothing that is known was changed. -/
theorem St.keep (S : St h0 W L h) (k : Keeps none_ h h') : St h0 W L h' :=
  ⟨S.nodup, fun b x hb => k.obj (S.objs b x hb) (fun f => f), S.new, ⟨fun z hz hn => (k.same z (S.keeps.known z hz) (fun f => f)).trans (S.keeps.same z hz hn), fun z hz => k.known z (S.keeps.known z hz)⟩⟩

/-- What was changed is not listed, and may be changed. -/
theorem St.keepW {T : Nat → Prop} (S : St h0 W L h) (k : Keeps T h h') (hT : ∀ b x, (b, x) ∈ L → ¬ T b) (hW : ∀ z, T z → h0.obj z ≠ none → W z) : St h0 W L h' :=
  ⟨S.nodup, fun b x hb => k.obj (S.objs b x hb) (hT b x hb), S.new, ⟨fun z hz hn => (k.same z (S.keeps.known z hz) (fun t => hn (hW z t hz))).trans (S.keeps.same z hz hn), fun z hz => k.known z (S.keeps.known z hz)⟩⟩

theorem St.add {x : HO} {c : Nat} (S : St h0 W L h) (hx : h.obj c = some x) (hw : h0.obj c = none ∨ W c) (hn : c ∉ L.map (·.1)) : St h0 W ((c, x) :: L) h := by
  refine ⟨by simp only [List.map_cons, List.nodup_cons]; exact ⟨hn, S.nodup⟩, fun b y hb => ?_, fun b y hb => ?_, S.keeps⟩
  · rcases List.mem_cons.1 hb with e | hb
    · cases e; exact hx
    · exact S.objs b y hb
  · rcases List.mem_cons.1 hb with e | hb
    · cases e; exact hw
    · exact S.new b y hb

theorem St.more2 {x y : HO} {c d : Nat} (S : St h0 W L h) (hc : h.obj c = none) (hd : h.obj d = none) (hcd : c ≠ d) (hx : h'.obj c = some x) (hy : h'.obj d = some y) (k : Keeps none_ h h') : St h0 W ((c, x) :: (d, y) :: L) h' := by
  have S1 := S.more hd hy k
  refine S1.add hx ?_ ?_
  · left
    cases hh : h0.obj c with
    | none => rfl
    | some z => exact absurd hc (S.keeps.known c (by rw [hh]; simp))
  · simp only [List.map_cons, List.mem_cons, not_or]
    exact ⟨hcd, S.fresh (x := x) hc⟩

theorem St.sub {L' : List (Nat × HO)} (S : St h0 W L h) (hs : L'.Sublist L) : St h0 W L' h :=
  ⟨S.nodup.sublist (hs.map _), fun b x hb => S.objs b x (hs.subset hb), fun b x hb => S.new b x (hs.subset hb), S.keeps⟩
theorem St.tail {p : Nat × HO} (S : St h0 W (p :: L) h) : St h0 W L h := S.sub (List.sublist_cons_self _ _)

theorem St.mono {W' : Nat → Prop} (S : St h0 W L h) (hw : ∀ z, W z → W' z) : St h0 W' L h := ⟨S.nodup, S.objs, fun b x hb => (S.new b x hb).imp_right (hw b), S.keeps.mono hw⟩

/-- A list that is known at a heap goes on from there. -/
theorem St.base (S : St h0 W L h) : St h (fun z => ∃ x, (z, x) ∈ L) L h := ⟨S.nodup, S.objs, fun b x hb => .inr ⟨x, hb⟩, Keeps.refl _ _⟩
theorem St.back {L' : List (Nat × HO)} (S : St h0 W L h) (S' : St h (fun z => ∃ x, (z, x) ∈ L) L' h') : St h0 W L' h' := by
  refine ⟨S'.nodup, S'.objs, fun b x hb => ?_, ⟨fun z hz hn => ?_, fun z hz => S'.keeps.known z (S.keeps.known z hz)⟩⟩
  · rcases S'.new b x hb with h1 | ⟨y, hy⟩
    · left
      cases hh : h0.obj b with
      | none => rfl
      | some z => exact absurd h1 (S.keeps.known b (by rw [hh]; simp))
    · exact S.new b y hy
  · rw [S'.keeps.same z (S.keeps.known z hz)]
    · exact S.keeps.same z hz hn
    · rintro ⟨y, hy⟩
      rcases S.new z y hy with h | h
      · exact hz h
      · exact hn h

end

theorem St.pick1 {h0 h : Heap} {W : Nat → Prop} {L : List (Nat × HO)} {i : Nat} {e : Nat × HO} (S : St h0 W L h) (hi : L[i]? = some e) : St h0 W [e] h :=
  ⟨by simp, fun b x hb => by simp at hb; exact S.objs b x (by rw [hb]; exact List.mem_of_getElem? hi), fun b x hb => by simp at hb; exact S.new b x (by rw [hb]; exact List.mem_of_getElem? hi), S.keeps⟩

/-- Some of the blocks, in another order: is = the places. -/
theorem St.pick {h0 h : Heap} {W : Nat → Prop} {L L' : List (Nat × HO)} (S : St h0 W L h) (is : List Nat) (hn : is.Nodup) (hl : is.map (fun i => L[i]?) = L'.map some) : St h0 W L' h := by
  have hmem : ∀ p : Nat × HO, p ∈ L' → ∃ i : Nat, L[i]? = some p := by
    intro p hp
    have : some p ∈ L'.map some := List.mem_map.2 ⟨p, hp, rfl⟩
    rw [← hl] at this
    obtain ⟨i, _, e⟩ := List.mem_map.1 this
    exact ⟨i, e⟩
  have hlen : is.length = L'.length := by have := congrArg List.length hl; simpa using this
  refine ⟨?_, fun b x hb => ?_, fun b x hb => ?_, S.keeps⟩
  · rw [List.nodup_iff_pairwise_ne, List.pairwise_iff_getElem]
    intro a c ha hc hac
    simp only [List.length_map] at ha hc
    simp only [List.getElem_map]
    have g : ∀ (a : Nat) (ha : a < L'.length), L[is[a]'(by omega)]? = some L'[a] := by
      intro a ha
      have := congrArg (fun l => l[a]?) hl
      simp only [List.getElem?_map] at this
      rw [List.getElem?_eq_getElem (by omega), List.getElem?_eq_getElem ha] at this
      simpa using this
    have hne : is[a]'(by omega) ≠ is[c]'(by omega) := fun e => by
      have := (List.getElem_inj hn).1 e
      omega
    exact nodup_get S.nodup (g a ha) (g c hc) hne
  · obtain ⟨i, hi⟩ := hmem _ hb
    exact S.objs b x (List.mem_of_getElem? hi)
  · obtain ⟨i, hi⟩ := hmem _ hb
    exact S.new b x (List.mem_of_getElem? hi)

/-- The blocks of a list, each as it stands; they may be written. -/
def keysOf (A : List (Nat × HO)) : Nat → Prop := fun z => ∃ x, (z, x) ∈ A

/-- A call behind which the blocks A stand as A', and all else as it stood. is, js: the places of A, and of what is kept besides. -/
theorem St.call {h0 h h' : Heap} {W : Nat → Prop} {L A A' B : List (Nat × HO)} (S : St h0 W L h) (is js : List Nat) (hn : (is ++ js).Nodup) (hA : is.map (fun i => L[i]?) = A.map some) (hB : js.map (fun i => L[i]?) = B.map some) (S' : St h (keysOf A) A' h') : St h0 W (A' ++ B) h' := by
  have SAB : St h0 W (A ++ B) h := S.pick (is ++ js) hn (by rw [List.map_append, hA, hB, List.map_append])
  have hnd := SAB.nodup
  rw [List.map_append, List.nodup_append] at hnd
  obtain ⟨_, hB', hAB⟩ := hnd
  have notA : ∀ b x, (b, x) ∈ B → ¬ keysOf A b := by
    rintro b x hb ⟨y, hy⟩
    exact hAB b (List.mem_map.2 ⟨_, hy, rfl⟩) b (List.mem_map.2 ⟨_, hb, rfl⟩) rfl
  have objB : ∀ b x, (b, x) ∈ B → h.obj b = some x := fun b x hb => SAB.objs b x (List.mem_append.2 (.inr hb))
  refine ⟨?_, fun b x hb => ?_, fun b x hb => ?_, ⟨fun z hz hw => ?_, fun z hz => S'.keeps.known z (S.keeps.known z hz)⟩⟩
  · rw [List.map_append, List.nodup_append]
    refine ⟨S'.nodup, hB', ?_⟩
    intro a ha b hb e
    subst e
    obtain ⟨p, hp, rfl⟩ := List.mem_map.1 ha
    obtain ⟨q, hq, e⟩ := List.mem_map.1 hb
    rcases S'.new p.1 p.2 hp with h1 | h1
    · have := objB q.1 q.2 hq
      rw [e, h1] at this; cases this
    · exact notA q.1 q.2 hq (e ▸ h1)
  · rcases List.mem_append.1 hb with hb | hb
    · exact S'.objs b x hb
    · exact S'.keeps.obj (objB b x hb) (notA b x hb)
  · rcases List.mem_append.1 hb with hb | hb
    · rcases S'.new b x hb with h1 | ⟨y, hy⟩
      · left
        cases hh : h0.obj b with
        | none => rfl
        | some z => exact absurd h1 (S.keeps.known b (by rw [hh]; simp))
      · exact SAB.new b y (List.mem_append.2 (.inl hy))
    · exact SAB.new b x (List.mem_append.2 (.inr hb))
  · rw [S'.keeps.same z (S.keeps.known z hz) ?_]
    · exact S.keeps.same z hz hw
    · rintro ⟨y, hy⟩
      rcases SAB.new z y (List.mem_append.2 (.inl hy)) with h1 | h1
      · exact hz h1
      · exact hw h1

/-- A call of which the blocks come first in the list. -/
theorem St.frame {h0 h h' : Heap} {W : Nat → Prop} {A A' B : List (Nat × HO)} (S' : St h (keysOf A) A' h') (S : St h0 W (A ++ B) h) : St h0 W (A' ++ B) h' :=
  S.call (List.range A.length) ((List.range B.length).map (· + A.length)) (by
    rw [List.nodup_append]
    refine ⟨List.nodup_range, ?_, ?_⟩
    · rw [List.nodup_iff_pairwise_ne, List.pairwise_map]
      exact (List.nodup_iff_pairwise_ne.1 List.nodup_range).imp (fun h e => h (by omega))
    · intro a ha b hb e
      have h1 := List.mem_range.1 ha
      obtain ⟨c, _, rfl⟩ := List.mem_map.1 hb
      omega) (by
    refine List.ext_getElem? (fun i => ?_)
    rw [List.getElem?_map, List.getElem?_map]
    by_cases hi : i < A.length
    · rw [List.getElem?_range hi, Option.map_some, List.getElem?_append_left hi, List.getElem?_eq_getElem hi]; rfl
    · rw [List.getElem?_eq_none (by simp; omega), List.getElem?_eq_none (by omega)]; rfl) (by
    refine List.ext_getElem? (fun i => ?_)
    rw [List.getElem?_map, List.getElem?_map, List.getElem?_map]
    by_cases hi : i < B.length
    · rw [List.getElem?_range hi, Option.map_some, Option.map_some, List.getElem?_append_right (by omega), Nat.add_sub_cancel, List.getElem?_eq_getElem hi]; rfl
    · rw [List.getElem?_eq_none (by simp; omega), List.getElem?_eq_none (by omega)]; rfl) S'

/-- A call that lays blocks, and changes none. -/
theorem St.join {h0 h h' : Heap} {W : Nat → Prop} {A' B : List (Nat × HO)} (S' : St h none_ A' h') (S : St h0 W B h) : St h0 W (A' ++ B) h' :=
  St.frame (A := []) (S'.mono (fun z f => f.elim)) S

theorem St.notKey {h0 h : Heap} {W : Nat → Prop} {L : List (Nat × HO)} {z : Nat} (S : St h0 W L h) (hz : h0.obj z ≠ none) (hw : ¬ W z) : ¬ keysOf L z := by
  rintro ⟨x, hx⟩
  rcases S.new z x hx with h | h
  · exact hz h
  · exact hw h

theorem St.notA {h0 h : Heap} {W : Nat → Prop} {A B : List (Nat × HO)} {z : Nat} (S : St h0 W (A ++ B) h) (hz : h0.obj z ≠ none) (hw : ¬ W z) : ¬ keysOf A z :=
  fun ⟨x, hx⟩ => S.notKey hz hw ⟨x, List.mem_append.2 (.inl hx)⟩

/-- The blocks A, for a call. -/
theorem St.give {h0 h : Heap} {W : Nat → Prop} {L A : List (Nat × HO)} (S : St h0 W L h) (is : List Nat) (hn : is.Nodup) (hA : is.map (fun i => L[i]?) = A.map some) : St h (keysOf A) A h := (S.pick is hn hA).base

theorem St.head {h0 h : Heap} {W : Nat → Prop} {A B : List (Nat × HO)} (S : St h0 W (A ++ B) h) : St h (keysOf A) A h := (S.sub (List.sublist_append_left _ _)).base

/-- append where there is no room: it is copied. -/
theorem appS_full {h : Heap} {s : Sl} {sz bytes m : Nat} {z vs new : List V} {κ : Sl → Heap → Prop} (H : Held h s sz vs) (hc : s.cap < s.len + m) (hnew : new.length = m * sz) (hz : z.length = sz) (hb : (s.len + m) * bytes ≤ 140737488355328) (hm : s.len + m ≤ 9223372036854775807)
    (hk : ∀ s' h' b', Own h' s' sz (vs ++ new) b' → s'.len = s.len + m → h.obj b' = none → Keeps none_ h h' → κ s' h') : appS sz bytes z s new m κ h := by
  have hlen := H.len
  unfold appS
  rw [if_neg (by omega)]
  refine ⟨hb, hm, ?_⟩
  have fin : ∀ c, s.len + m ≤ c → al (vs ++ new ++ flatRep (c - (s.len + m)) z) (fun b h => κ ⟨some ⟨b, 0⟩, s.len + m, c⟩ h) h := by
    intro c hc
    refine al_of (fun b h' hb ho k => hk _ h' b ⟨rfl, hc, ?_, _, false, ho, ?_⟩ rfl hb k)
    · simp [hlen, hnew, Nat.add_mul]
    · rw [flatRep_length, hz]
  cases hp : s.p with
  | some p => exact rdN_held hlen (H.row p hp) fin
  | none =>
    have h0 := H.nil hp
    have : vs = [] := List.length_eq_zero_iff.1 (by rw [hlen, h0]; simp)
    subst this
    exact ⟨h0, fin⟩

theorem held_slp {h : Heap} {s : Sl} {sz n c : Nat} {vs : List V} (H : Held h s sz vs) : Held h ⟨slp s.p 0 0 n, s.len, c⟩ sz vs := by
  refine ⟨H.len, fun p hp i v hv => ?_, fun hp => H.nil ?_⟩
  · have hp : slp s.p 0 0 n = some p := hp
    unfold slp at hp
    split at hp
    · exact H.row p hp i v hv
    · cases hs : s.p with
      | none => rw [hs] at hp; cases hp
      | some q =>
        rw [hs] at hp; cases hp
        exact H.row q hs i v hv
  · have hp : slp s.p 0 0 n = none := hp
    unfold slp at hp
    split at hp
    · exact hp
    · cases hs : s.p with
      | none => rfl
      | some q => rw [hs] at hp; cases hp

/-! numbers that a loop counts -/
theorem w64_0 : IntKind.i64.wrap (0 + 1) = 1 := by decide
theorem w64_1 : IntKind.i64.wrap (1 + 1) = 2 := by decide
theorem w64_2 : IntKind.i64.wrap (2 + 1) = 3 := by decide
theorem w64_3 : IntKind.i64.wrap (3 + 1) = 4 := by decide
theorem w64_4 : IntKind.i64.wrap (4 + 1) = 5 := by decide
theorem w64_5 : IntKind.i64.wrap (5 + 1) = 6 := by decide
theorem w64_6 : IntKind.i64.wrap (6 + 1) = 7 := by decide
theorem w64_7 : IntKind.i64.wrap (7 + 1) = 8 := by decide
theorem w64_8 : IntKind.i64.wrap (8 + 1) = 9 := by decide
theorem w64_9 : IntKind.i64.wrap (9 + 1) = 10 := by decide
theorem w64_10 : IntKind.i64.wrap (10 + 1) = 11 := by decide
theorem w64_11 : IntKind.i64.wrap (11 + 1) = 12 := by decide
theorem w64_12 : IntKind.i64.wrap (12 + 1) = 13 := by decide
theorem w64_13 : IntKind.i64.wrap (13 + 1) = 14 := by decide
theorem w64_14 : IntKind.i64.wrap (14 + 1) = 15 := by decide
theorem w64_15 : IntKind.i64.wrap (15 + 1) = 16 := by decide
theorem w64_16 : IntKind.i64.wrap (16 + 1) = 17 := by decide
theorem w64_17 : IntKind.i64.wrap (17 + 1) = 18 := by decide
theorem w64_18 : IntKind.i64.wrap (18 + 1) = 19 := by decide
theorem w64_19 : IntKind.i64.wrap (19 + 1) = 20 := by decide

theorem exAnd {α : Type} {o : Option V} {f : α → V} {κ : α → Prop} {x : α} (h : o = some (f x)) (hk : κ x) : ∃ y, o = some (f y) ∧ κ y := ⟨x, h, hk⟩
theorem asI_of {k : IntKind} {x : Int} {κ : Int → Prop} (h : κ x) : asI k (.int k x) κ := by simpa [asI, chk] using h
theorem asB_of {x : Bool} {κ : Bool → Prop} (h : κ x) : asB (.bool x) κ := h
theorem asP_of {x : Option Ptr} {κ : Option Ptr → Prop} (h : κ x) : asP (.ptr x) κ := h
theorem asSl_of {x : Sl} {κ : Sl → Prop} (h : κ x) : asSl (.sl x) κ := h
theorem asStr_of {x : List UInt8} {κ : List UInt8 → Prop} (h : κ x) : asStr (.str x) κ := h
theorem asM_of {x : Option Nat} {κ : Option Nat → Prop} (h : κ x) : asM (.map x) κ := h
theorem asAggV_of {x : List V} {κ : List V → Prop} (h : κ x) : asAggV (.agg x) κ := h
theorem asTupV_of {x : List V} {κ : List V → Prop} (h : κ x) : asTupV (.tup x) κ := h
theorem asCons_of {v : V} {vs : List V} {κ : V → List V → Prop} (h : κ v vs) : asCons (v :: vs) κ := h
theorem asNil_of {A : Prop} (h : A) : asNil [] A := h
theorem der_of {p : Ptr} {κ : Ptr → Prop} (h : κ p) : der (some p) κ := h
theorem isNil_n {κ : Bool → Prop} (h : κ true) : isNil .nilif κ := h
theorem isNil_i {t : Nat} {v : V} {κ : Bool → Prop} (h : κ false) : isNil (.iface t v) κ := h
theorem nilC_i {t : Nat} {v : V} {κ : V → Prop} (h : κ (.iface t v)) : nilC (.iface t v) κ := h
theorem nilCU_i {I : Ifc} {t : Nat} {v : V} {κ : V → Prop} (h : κ (.iface t v)) : nilCU I (.iface t v) κ := h
theorem nilCU_f {I : Ifc} {f : Nat} {vs : List V} {κ : V → Prop} (h : κ (.fn f vs)) : nilCU I (.fn f vs) κ := h
theorem mthC_i {m : String} {t : Nat} {v : V} {κ : V → Prop} (h : κ (.mth m (.iface t v))) : mthC m (.iface t v) κ := h
theorem nilCU_m {I : Ifc} {m : String} {v : V} {κ : V → Prop} (ha : I.ahead v m = true) (h : κ (.mth m v)) : nilCU I (.mth m v) κ := by
  show chk _ _
  unfold chk
  rw [ha]; exact h

end Go.Lift

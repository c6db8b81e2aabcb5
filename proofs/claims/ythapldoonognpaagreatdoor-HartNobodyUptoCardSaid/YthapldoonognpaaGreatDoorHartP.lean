/- A hart's world from any state: the numbers, the words and the instructions that stand in the memory. -/
import Derived.Test.YthapldoonognpaaGreatDoorHartN
import Derived.Test.YthapldoonognpaaGreatDoorArgKit
set_option linter.unusedSimpArgs false
set_option linter.unusedVariables false
set_option maxRecDepth 100000
namespace Go.Hart
open Go.Lift Go.Fn Go.Mem

theorem wf_u32 {v : Int} (h : (Lit.int .u32 v).wf = true) : W32 v := by
  simpa [W32, Lit.wf, IntKind.min, IntKind.max, IntKind.signed, IntKind.bits] using h

theorem wfu64 {v : Int} (h : (Lit.int .u64 v).wf = true) : 0 ≤ v ∧ v ≤ 18446744073709551615 := by
  simpa [Lit.wf, IntKind.min, IntKind.max, IntKind.signed, IntKind.bits] using h

/-- A slice of words. -/
theorem words_of {h : Heap} {s : Sl} (f : s.len ≤ s.cap ∧ s.cap ≤ maxLen ∧ (s.p = none → s.cap = 0) ∧ ∀ p, s.p = some p → ∀ i, i < s.cap → ∃ cs, cs.length = 1 ∧ (∀ j, j < 1 → h.get p.b (p.o + i * 1 + j) = cs[j]?) ∧ Fits h (.int .u32) cs) :
    ∃ wl : List Int, Held h s 1 (wl.map (V.int .u32)) ∧ ∀ v ∈ wl, W32 v := by
  obtain ⟨hl, hi⟩ := ints_of f
  have key : ∀ n, n ≤ s.len → ∃ wl : List Int, wl.length = n ∧ (∀ v ∈ wl, W32 v) ∧ ∀ p, s.p = some p → ∀ i v, (wl.map (V.int .u32))[i]? = some v → h.get p.b (p.o + i) = some v := by
    intro n
    induction n with
    | zero => intro _; exact ⟨[], rfl, fun v hv => (by cases hv), fun p _ i v hv => (by simp at hv)⟩
    | succ n ih =>
      intro hn
      obtain ⟨wl, hx, hr0, hr⟩ := ih (by omega)
      obtain ⟨p, v, hp, hv, hw⟩ := hi n (by omega)
      refine ⟨wl ++ [v], by simp [hx], fun u hu => ?_, fun p' hp' i v' hv' => ?_⟩
      · rcases List.mem_append.1 hu with h | h
        · exact hr0 u h
        · rw [List.mem_singleton.1 h]; exact wf_u32 hw
      rw [hp] at hp'; cases hp'
      rw [List.map_append] at hv'
      rcases Nat.lt_or_ge i wl.length with h | h
      · rw [List.getElem?_append_left (by simpa using h)] at hv'; exact hr p hp i v' hv'
      · rw [List.getElem?_append_right (by simpa using h), List.length_map] at hv'
        have hin : i = n := by
          rcases Nat.lt_or_ge (i - wl.length) 1 with h1 | h1
          · omega
          · rw [List.getElem?_eq_none (by simpa using h1)] at hv'; cases hv'
        subst hin
        rw [hx, Nat.sub_self] at hv'
        simp at hv'
        subst hv'; exact hv
  obtain ⟨wl, hx, hr0, hr⟩ := key s.len (Nat.le_refl _)
  refine ⟨wl, ⟨by simp [hx], hr, fun hn => ?_⟩, hr0⟩
  have := f.2.2.1 hn
  have := f.1
  omega

/-- A slice of instructions. -/
structure InsAt (h : Heap) (s : Sl) : Prop where
  nil : s.p = none → s.len = 0
  row : ∀ p, s.p = some p → ∀ i, i < s.len → ∃ a b c d e : Int, h.get p.b (p.o + i * 5 + 0) = some (.int .i64 a) ∧ h.get p.b (p.o + i * 5 + 1) = some (.int .i64 b) ∧ h.get p.b (p.o + i * 5 + 2) = some (.int .i64 c) ∧ h.get p.b (p.o + i * 5 + 3) = some (.int .i64 d) ∧ h.get p.b (p.o + i * 5 + 4) = some (.int .i64 e)

/-- A slice of places and numbers. -/
structure PokeAt (h : Heap) (s : Sl) : Prop where
  size : s.len ≤ 9223372036854775807
  nil : s.p = none → s.len = 0
  row : ∀ p, s.p = some p → ∀ i, i < s.len → ∃ a v : Int, h.get p.b (p.o + i * 2 + 0) = some (.int .u64 a) ∧ h.get p.b (p.o + i * 2 + 1) = some (.int .u64 v) ∧ (0 ≤ v ∧ v ≤ 18446744073709551615)

theorem kept {h h' : Heap} (k : Keeps none_ h h') {b i : Nat} {v : V} (hg : h.get b i = some v) : h'.get b i = some v := by
  have : h.obj b ≠ none := fun e => by rw [Heap.get, e] at hg; simp at hg
  unfold Heap.get at hg ⊢
  rw [k.same b this (fun f => f)]
  exact hg

theorem InsAt.keep {h h' : Heap} {s : Sl} (I : InsAt h s) (k : Keeps none_ h h') : InsAt h' s :=
  ⟨I.nil, fun p hp i hi => by
    obtain ⟨a, b, c, d, e, h0, h1, h2, h3, h4⟩ := I.row p hp i hi
    exact ⟨a, b, c, d, e, kept k h0, kept k h1, kept k h2, kept k h3, kept k h4⟩⟩

theorem PokeAt.keep {h h' : Heap} {s : Sl} (I : PokeAt h s) (k : Keeps none_ h h') : PokeAt h' s :=
  ⟨I.size, I.nil, fun p hp i hi => by
    obtain ⟨a, b, h0, h1, h2⟩ := I.row p hp i hi
    exact ⟨a, b, kept k h0, kept k h1, h2⟩⟩

theorem ins_of {h : Heap} {s : Sl} (f : s.len ≤ s.cap ∧ s.cap ≤ maxLen ∧ (s.p = none → s.cap = 0) ∧ ∀ p, s.p = some p → ∀ i, i < s.cap → ∃ cs, cs.length = 5 ∧ (∀ j, j < 5 → h.get p.b (p.o + i * 5 + j) = cs[j]?) ∧ Fits h (.struct (.cons 0 1 (.int .i64) (.cons 1 1 (.int .i64) (.cons 2 1 (.int .i64) (.cons 3 1 (.int .i64) (.cons 4 1 (.int .i64) .nil)))))) cs) : InsAt h s := by
  obtain ⟨h1, h2, h3, h4⟩ := f
  refine ⟨fun hp => by have := h3 hp; omega, fun p hp i hi => ?_⟩
  obtain ⟨cs, hl, hg, F⟩ := h4 p hp i (by omega)
  match cs, hl with
  | [y0, y1, y2, y3, y4], _ =>
    obtain ⟨⟨a, e0, -⟩, ⟨b, e1, -⟩, ⟨c, e2, -⟩, ⟨d, e3, -⟩, ⟨e, e4, -⟩, -⟩ := F
    simp at e0 e1 e2 e3 e4
    subst e0 e1 e2 e3 e4
    exact ⟨a, b, c, d, e, hg 0 (by omega), hg 1 (by omega), hg 2 (by omega), hg 3 (by omega), hg 4 (by omega)⟩

theorem poke_of {h : Heap} {s : Sl} (f : s.len ≤ s.cap ∧ s.cap ≤ maxLen ∧ (s.p = none → s.cap = 0) ∧ ∀ p, s.p = some p → ∀ i, i < s.cap → ∃ cs, cs.length = 2 ∧ (∀ j, j < 2 → h.get p.b (p.o + i * 2 + j) = cs[j]?) ∧ Fits h (.struct (.cons 0 1 (.int .u64) (.cons 1 1 (.int .u64) .nil))) cs) : PokeAt h s := by
  obtain ⟨h1, h2, h3, h4⟩ := f
  refine ⟨Nat.le_trans h1 h2, fun hp => by have := h3 hp; omega, fun p hp i hi => ?_⟩
  obtain ⟨cs, hl, hg, F⟩ := h4 p hp i (by omega)
  match cs, hl with
  | [y0, y1], _ =>
    obtain ⟨⟨a, e0, -⟩, ⟨b, e1, hw⟩, -⟩ := F
    simp at e0 e1
    subst e0 e1
    exact ⟨a, b, hg 0 (by omega), hg 1 (by omega), wfu64 hw⟩

section
variable {U : Ifc} {x : Nat → Int} {h : Heap}

theorem wrapu_range (v : Int) : 0 ≤ IntKind.u64.wrap v ∧ IntKind.u64.wrap v ≤ 18446744073709551615 := by
  have e : IntKind.u64.wrap v = v % 18446744073709551616 := by simp [IntKind.wrap, IntKind.bits, IntKind.signed]
  rw [e]
  exact ⟨by omega, by omega⟩

/-- Both memories take a number, or refuse it. -/
theorem store2 (w : Wid U h x) {n : Nat} (hn : isW n) (hk : knownB x n = true) {gb fb pr br pm bm b1 : Nat} {gx fx : HO} {cs : List V} {rs bs : List UInt8} {mk2 mk : Bool} {g : Heap} (S : St h none_ (world gb fb pr br pm bm b1 gx fx rs bs mk2 mk cs) g) (hbs : bs.length = 3072) {a v a3 : Int} (ha : 0 ≤ a ∧ a ≤ 18446744073709551615) (hv : 0 ≤ v) (ew : a3 = ((n : Nat) : Int)) {Q : Int → Heap → Prop}
    (hq : ∀ e bs' mk' g', bs'.length = 3072 → St h none_ (world gb fb pr br pm bm b1 gx fx rs bs' mk2 mk' cs) g' → Keeps (· = bm) g g' → Q e g') : mem_Memory_Store U (some ⟨pm, 0⟩) a a3 v Q g := by
  refine StoreN_of (w.keeps S.keeps (fun f => f)) (rep_of S i4 i5 (by decide) hbs (by decide)) hn hk ha.1 ha.2 hv (fun _ hle g1 R1 k1 => ?_) (fun _ g1 k1 => ?_) ew
  · obtain ⟨mk', harr⟩ := R1.arr
    exact hq 0 _ mk' g1 (by rw [put_length (by rw [le_length]; omega), hbs]) (S.put i5 harr k1) k1
  · exact hq _ bs mk g1 hbs (S.keep k1) (k1.mono (fun _ f => f.elim))

theorem rstore2 {n : Nat} (hn : isW n) {gb fb pr br pm bm b1 : Nat} {gx fx : HO} {cs : List V} {rs bs : List UInt8} {mk2 mk : Bool} {g : Heap} (S : St h none_ (world gb fb pr br pm bm b1 gx fx rs bs mk2 mk cs) g) (hrs : rs.length = 3072) {a v a3 : Int} (ha : 0 ≤ a ∧ a ≤ 18446744073709551615) (hv : 0 ≤ v) (ew : a3 = ((n : Nat) : Int)) {Q : Int → Heap → Prop}
    (hq : ∀ e rs' mk' g', rs'.length = 3072 → St h none_ (world gb fb pr br pm bm b1 gx fx rs' bs mk' mk cs) g' → Keeps (· = br) g g' → Q e g') : palisaderef04_Memory_Store (some ⟨pr, 0⟩) a a3 v Q g := by
  refine rstore_of (rep_of S i2 i3 (by decide) hrs (by decide)) hn ha.1 ha.2 hv (fun e rs' g2 R2 hl2 k2 => ?_) ew
  obtain ⟨mk', harr⟩ := R2.arr
  exact hq e rs' mk' g2 (by omega) (S.put i3 harr k2) k2

theorem pokes_any (w : Wid U h x) (hk8 : knownB x 8 = true) {gb fb pr br pm bm b1 : Nat} {gx fx : HO} {cs : List V} {ps ws : Sl} (hcs : cs[32]? = some (.sl ps)) (hcw : cs[31]? = some (.sl ws)) (hP : PokeAt h ps)
    {rs bs : List UInt8} {mk2 mk : Bool} {g : Heap} (S : St h none_ (world gb fb pr br pm bm b1 gx fx rs bs mk2 mk cs) g) (hrs : rs.length = 3072) (hbs : bs.length = 3072)
    {Q : Option Ptr → Option Ptr → Option Ptr → Option Ptr → Bool → Heap → Prop}
    (hq : ∀ rs bs mk2 mk g', rs.length = 3072 → bs.length = 3072 → St h none_ (world gb fb pr br pm bm b1 gx fx rs bs mk2 mk cs) g' → palisadelaw09_both.j14 U ⟨b1, 0⟩ (some ⟨pm, 0⟩) (some ⟨pr, 0⟩) (some ⟨fb, 0⟩) (some ⟨gb, 0⟩) ws 0 Q g') :
    palisadelaw09_both.j7 U ⟨b1, 0⟩ (some ⟨pm, 0⟩) (some ⟨pr, 0⟩) (some ⟨fb, 0⟩) (some ⟨gb, 0⟩) 0 Q g := by
  unfold palisadelaw09_both.j7
  intro I HI
  have hsz := hP.size
  have key : ∀ (j i : Nat) (rs bs : List UInt8) (mk2 mk : Bool) (g : Heap), i + j = ps.len → rs.length = 3072 → bs.length = 3072 → St h none_ (world gb fb pr br pm bm b1 gx fx rs bs mk2 mk cs) g → I ⟨b1, 0⟩ (some ⟨pm, 0⟩) (some ⟨pr, 0⟩) (some ⟨fb, 0⟩) (some ⟨gb, 0⟩) (i : Int) g := by
    intro j
    induction j with
    | zero =>
      intro i rs bs mk2 mk g hi hrs hbs S
      refine HI _ _ _ _ _ _ _ ?_
      unfold palisadelaw09_both.b7
      exact S.rSl i6 (by simpa [Ptr.add] using hcs) (br_f (by simp; omega) (S.rSl i6 (by simpa [Ptr.add] using hcw) (hq rs bs mk2 mk g hrs hbs S)))
    | succ j ih =>
      intro i rs bs mk2 mk g hi hrs hbs S
      refine HI _ _ _ _ _ _ _ ?_
      unfold palisadelaw09_both.b7
      obtain ⟨p, hp⟩ : ∃ p, ps.p = some p := by
        cases hp : ps.p with
        | none => have := hP.nil hp; omega
        | some p => exact ⟨p, rfl⟩
      have row : ∀ g, Keeps none_ h g → ∃ a v : Int, (0 ≤ v ∧ v ≤ 18446744073709551615) ∧ (∀ {κ : Int → Prop}, κ a → rdI .u64 ((p.add (i * 2)).add 0) κ g) ∧ (∀ {κ : Int → Prop}, κ v → rdI .u64 ((p.add (i * 2)).add 1) κ g) := by
        intro g k
        obtain ⟨a, v, h0, h1, h2⟩ := (hP.keep k).row p hp i (by omega)
        exact ⟨a, v, h2, fun hk => rdI_of h0 hk, fun hk => rdI_of h1 hk⟩
      refine S.rSl i6 (by simpa [Ptr.add] using hcs) (br_t (by simp; omega) (S.rSl i6 (by simpa [Ptr.add] using hcs) (ix_of (by omega) (by omega) ?_)))
      rw [hp, der_some, Int.toNat_natCast]
      obtain ⟨a, v, hv, r0, r1⟩ := row g S.keeps
      refine r0 (nz_of (by decide) (nz_of (by decide) (S.rSl i6 (by simpa [Ptr.add] using hcs) (ix_of (by omega) (by omega) ?_))))
      rw [hp, der_some, Int.toNat_natCast]
      refine r1 (store2 w (n := 8) (.inr (.inr rfl)) hk8 S hbs (wrapu_range _) hv.1 rfl (fun e bs' mk' g1 hbs' S1 _ => ?_))
      clear r0 r1 S
      refine S1.rSl i6 (by simpa [Ptr.add] using hcs) (ix_of (by omega) (by omega) ?_)
      rw [hp, der_some, Int.toNat_natCast]
      obtain ⟨a', v', hv', -, r1⟩ := row g1 S1.keeps
      refine r1 (rstore2 (n := 8) (.inr (.inr rfl)) S1 hrs (wrapu_range _) hv'.1 rfl (fun e rs' mk2' g2 hrs' S2 _ => ?_))
      unfold palisadelaw09_both.j8
      rw [wrap64]
      have := ih (i + 1) rs' bs' mk2' mk' g2 (by omega) hrs' hbs' S2
      simpa using this
  have := key ps.len 0 rs bs mk2 mk g (by omega) hrs hbs S
  simpa using this

theorem words_any (w : Wid U h x) (hk4 : knownB x 4 = true) {gb fb pr br pm bm b1 : Nat} {gx fx : HO} {cs : List V} {pc : Int} (hcs : cs[16]? = some (.int .u64 pc)) {wl : List Int} (hwl : wl.length ≤ 9000000) (hr : ∀ v ∈ wl, W32 v)
    {s : Sl} {rs bs : List UInt8} {mk2 mk : Bool} {g : Heap} (S : St h none_ (world gb fb pr br pm bm b1 gx fx rs bs mk2 mk cs) g) (hrs : rs.length = 3072) (hbs : bs.length = 3072) (hW : Held g s 1 (wl.map (V.int .u32))) (hsb : ∀ p, s.p = some p → wl ≠ [] → p.b ≠ bm ∧ p.b ≠ br)
    {Q : Option Ptr → Option Ptr → Option Ptr → Option Ptr → Bool → Heap → Prop}
    (hq : ∀ rs bs mk2 mk g', St h none_ (world gb fb pr br pm bm b1 gx fx rs bs mk2 mk cs) g' → palisadelaw09_both.j25 U ⟨b1, 0⟩ (some ⟨pm, 0⟩) (some ⟨pr, 0⟩) (some ⟨fb, 0⟩) (some ⟨gb, 0⟩) 0 Q g') :
    palisadelaw09_both.j19 U ⟨b1, 0⟩ (some ⟨pm, 0⟩) (some ⟨pr, 0⟩) (some ⟨fb, 0⟩) (some ⟨gb, 0⟩) s 0 Q g := by
  unfold palisadelaw09_both.j19
  intro I HI
  have hlen : s.len = wl.length := by have := hW.len; simp at this; omega
  have key : ∀ (j i : Nat) (rs bs : List UInt8) (mk2 mk : Bool) (g : Heap), i + j = wl.length → rs.length = 3072 → bs.length = 3072 → St h none_ (world gb fb pr br pm bm b1 gx fx rs bs mk2 mk cs) g → Held g s 1 (wl.map (V.int .u32)) → I ⟨b1, 0⟩ (some ⟨pm, 0⟩) (some ⟨pr, 0⟩) (some ⟨fb, 0⟩) (some ⟨gb, 0⟩) s (i : Int) g := by
    intro j
    induction j with
    | zero =>
      intro i rs bs mk2 mk g hi hrs hbs S hW
      refine HI _ _ _ _ _ _ _ _ ?_
      unfold palisadelaw09_both.b19
      exact br_f (by simp; omega) (hq rs bs mk2 mk g S)
    | succ j ih =>
      intro i rs bs mk2 mk g hi hrs hbs S hW
      refine HI _ _ _ _ _ _ _ _ ?_
      unfold palisadelaw09_both.b19
      have hil : i < wl.length := by omega
      have hget : wl[i]? = some wl[i] := List.getElem?_eq_getElem hil
      obtain ⟨v0, v1⟩ := hr wl[i] (List.getElem_mem hil)
      obtain ⟨p, hp⟩ : ∃ p, s.p = some p := by
        cases hp : s.p with
        | none => have := hW.nil hp; omega
        | some p => exact ⟨p, rfl⟩
      have hne : wl ≠ [] := fun e => by rw [e] at hil; cases hil
      obtain ⟨hpm, hpr⟩ := hsb p hp hne
      have row : ∀ g, Held g s 1 (wl.map (V.int .u32)) → ∀ {κ : Int → Prop}, κ wl[i] → rdI .u32 (p.add (i * 1)) κ g := fun g H κ hk =>
        rdI_of (by have := H.row p hp i (.int .u32 wl[i]) (by rw [List.getElem?_map, hget]; rfl); rw [Nat.mul_one]; exact this) hk
      have ev : IntKind.u64.wrap wl[i] = wl[i] := wrapu64
      refine br_t (by simp; omega) (S.rI i6 (by simpa [Ptr.add] using hcs) (nz_of (by decide) (nz_of (by decide) (ix_of (by omega) (by omega) ?_))))
      rw [hp, der_some, Int.toNat_natCast]
      refine row g hW ?_
      rw [ev]
      refine store2 w (n := 4) (.inr (.inl rfl)) hk4 S hbs (wrapu_range _) v0 rfl (fun e bs' mk' g1 hbs' S1 k1 => ?_)
      have hW1 := hW.keeps k1 (fun q hq e => (hsb q hq hne).1 e)
      refine ix_of (by omega) (by omega) ?_
      rw [der_some, Int.toNat_natCast]
      refine row g1 hW1 ?_
      rw [ev]
      refine rstore2 (n := 4) (.inr (.inl rfl)) S1 hrs (wrapu_range _) v0 rfl (fun e rs' mk2' g2 hrs' S2 k2 => ?_)
      have hW2 := hW1.keeps k2 (fun q hq e => (hsb q hq hne).2 e)
      unfold palisadelaw09_both.j20
      rw [wrap64]
      have := ih (i + 1) rs' bs' mk2' mk' g2 (by omega) hrs' hbs' S2 hW2
      simpa using this
  have := key wl.length 0 rs bs mk2 mk g (by omega) hrs hbs S hW
  simpa using this

theorem ins_any {gb fb pr br pm bm b1 : Nat} {gx fx : HO} {cs : List V} {is : Sl} (hcs : cs[30]? = some (.sl is)) {wl : List Int} (hI : InsAt h is) (hsz : wl.length + is.len ≤ 9000000) (hr : ∀ v ∈ wl, W32 v)
    {ws : Sl} {rs bs : List UInt8} {mk2 mk : Bool} {g : Heap} (S : St h none_ (world gb fb pr br pm bm b1 gx fx rs bs mk2 mk cs) g) (hW : Held g ws 1 (wl.map (V.int .u32))) (hwb : ∀ p, ws.p = some p → wl ≠ [] → p.b ≠ bm ∧ p.b ≠ br) (hcap : ws.len ≤ ws.cap)
    {Q : Option Ptr → Option Ptr → Option Ptr → Option Ptr → Bool → Heap → Prop}
    (hq : ∀ (s : Sl) (wl : List Int) g', wl.length ≤ 9000000 → (∀ v ∈ wl, W32 v) → St h none_ (world gb fb pr br pm bm b1 gx fx rs bs mk2 mk cs) g' → Held g' s 1 (wl.map (V.int .u32)) → (∀ p, s.p = some p → wl ≠ [] → p.b ≠ bm ∧ p.b ≠ br) → palisadelaw09_both.j19 U ⟨b1, 0⟩ (some ⟨pm, 0⟩) (some ⟨pr, 0⟩) (some ⟨fb, 0⟩) (some ⟨gb, 0⟩) s 0 Q g') :
    palisadelaw09_both.j14 U ⟨b1, 0⟩ (some ⟨pm, 0⟩) (some ⟨pr, 0⟩) (some ⟨fb, 0⟩) (some ⟨gb, 0⟩) ws 0 Q g := by
  unfold palisadelaw09_both.j14
  intro I HI
  have key : ∀ (j i : Nat) (wl : List Int) (s : Sl) (g : Heap), i + j = is.len → wl.length + j ≤ 9000000 → (∀ v ∈ wl, W32 v) → St h none_ (world gb fb pr br pm bm b1 gx fx rs bs mk2 mk cs) g → Held g s 1 (wl.map (V.int .u32)) → (∀ p, s.p = some p → wl ≠ [] → p.b ≠ bm ∧ p.b ≠ br) → s.len ≤ s.cap → I ⟨b1, 0⟩ (some ⟨pm, 0⟩) (some ⟨pr, 0⟩) (some ⟨fb, 0⟩) (some ⟨gb, 0⟩) s (i : Int) g := by
    intro j
    induction j with
    | zero =>
      intro i wl s g hi hsz hr S hW hb hc
      refine HI _ _ _ _ _ _ _ _ ?_
      unfold palisadelaw09_both.b14
      exact S.rSl i6 (by simpa [Ptr.add] using hcs) (br_f (by simp; omega) (hq s wl g hsz hr S hW hb))
    | succ j ih =>
      intro i wl s g hi hsz hr S hW hb hc
      refine HI _ _ _ _ _ _ _ _ ?_
      unfold palisadelaw09_both.b14
      obtain ⟨p, hp⟩ : ∃ p, is.p = some p := by
        cases hp : is.p with
        | none => have := hI.nil hp; omega
        | some p => exact ⟨p, rfl⟩
      obtain ⟨a, b, c, d, e, r0, r1, r2, r3, r4⟩ := (hI.keep S.keeps).row p hp i (by omega)
      have hsl : s.len = wl.length := by have := hW.len; simp at this; omega
      refine S.rSl i6 (by simpa [Ptr.add] using hcs) (br_t (by simp; omega) (S.rSl i6 (by simpa [Ptr.add] using hcs) (ix_of (by omega) (by omega) ?_)))
      rw [hp, der_some, Int.toNat_natCast]
      refine rdI_of r0 (rdI_of r1 (rdI_of r2 (rdI_of r3 (rdI_of r4 (Encode_any (fun v er g0 hv k0 => ?_))))))
      have S := S.keep k0
      have hW := hW.keeps k0 (fun _ _ f => f)
      refine sb_of (by omega) (by omega) (sb_of (by omega) (by omega) ?_)
      rw [Int.toNat_natCast, Nat.sub_zero]
      refine al_of (fun b2 g1 hb2 ho2 k2 => ?_)
      refine rdN_held (vs := [V.int .u32 v]) rfl (fun j u hu => by rw [get_cells ho2, Nat.zero_add]; exact hu) ?_
      have hW1 := hW.keeps k2 (fun _ _ f => f)
      refine appS_full (held_slp (n := s.len) (c := s.len) hW1) (by show s.len < s.len + 1; omega) rfl rfl (by show (s.len + 1) * 4 ≤ _; omega) (by show s.len + 1 ≤ _; omega) (fun s' g2 b' O hl2 hb3 k3 => ?_)
      have S2 := (S.keep k2).keep k3
      unfold palisadelaw09_both.j15
      rw [wrap64]
      have e1 : wl.map (V.int .u32) ++ [V.int .u32 v] = (wl ++ [v]).map (V.int .u32) := by rw [List.map_append]; rfl
      rw [e1] at O
      have := ih (i + 1) (wl ++ [v]) s' g2 (by omega) (by simp; omega) (fun u hu => by
        rcases List.mem_append.1 hu with h | h
        · exact hr u h
        · rw [List.mem_singleton.1 h]; exact hv) S2 O.held (fun q hq _ => by
        rw [O.p] at hq; cases hq
        have hbg : g0.obj b' = none := Mem.fresh_of k2 hb3
        exact ⟨fun e => (by have := S.obj i5; rw [← e, hbg] at this; cases this), fun e => (by have := S.obj i3; rw [← e, hbg] at this; cases this)⟩) O.cap
      simpa using this
  have := key is.len 0 wl ws g (by omega) (by omega) hr S hW hwb hcap
  simpa using this

end
end Go.Hart

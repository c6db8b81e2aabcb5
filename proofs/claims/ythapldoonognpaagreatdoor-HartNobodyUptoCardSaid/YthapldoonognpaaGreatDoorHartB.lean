/- A hart's world, as the laws make it: without tables, and without numbers that stand in the memory at first. -/
import Derived.Test.YthapldoonognpaaGreatDoorHartA
set_option linter.unusedSimpArgs false
set_option linter.unusedVariables false
set_option maxRecDepth 100000
namespace Go.Hart
open Go.Lift Go.Fn Go.Mem

def fileC (c : List V) : List V := .bool true :: c
def flatC (pm : Nat) (is : Bool) (at_ : Int) : List V := [.ptr (some ⟨pm, 0⟩), .int .i64 (-1), .bool is, .int .u64 at_]
def memC (bm n : Nat) : List V := [.sl ⟨some ⟨bm, 0⟩, n, n⟩]

/-- Words are stored one behind the other. -/
def stw (bs : List UInt8) (a : Nat) : List Int → List UInt8
  | [] => bs
  | w :: ws => stw (put bs a (le 4 w.toNat)) (a + 4) ws

theorem stw_length : ∀ (ws : List Int) {bs : List UInt8} {a : Nat}, a + 4 * ws.length ≤ bs.length → (stw bs a ws).length = bs.length
  | [], _, _, _ => rfl
  | w :: ws, bs, a, h => by
    simp only [List.length_cons] at h
    have e : (put bs a (le 4 w.toNat)).length = bs.length := put_length (by rw [le_length]; omega)
    unfold stw
    rw [stw_length ws (by rw [e]; omega), e]

theorem stw_snoc : ∀ (ws : List Int) {bs : List UInt8} {a : Nat} {w : Int}, stw bs a (ws ++ [w]) = put (stw bs a ws) (a + 4 * ws.length) (le 4 w.toNat)
  | [], bs, a, w => by simp [stw]
  | v :: ws, bs, a, w => by
    simp only [List.cons_append, stw, List.length_cons]
    rw [stw_snoc ws]
    congr 1; omega

section
variable {U : Ifc} {x : Nat → Int} {h : Heap}

theorem rep_of {h0 g : Heap} {L : List (Nat × HO)} {W : Nat → Prop} (S : St h0 W L g) {i j pm bm : Nat} {bs : List UInt8} {mk : Bool} {n : Nat} (hi : L[i]? = some (pm, .cells (memC bm n) false)) (hj : L[j]? = some (bm, .cells (strCells bs) mk)) (hij : i ≠ j) (hn : bs.length = n) (hs : n ≤ 16777216) : Mem.Rep pm bm bs g :=
  ⟨by rw [hn]; exact S.obj hi, ⟨mk, S.obj hj⟩, S.ne hi hj hij, by omega⟩

theorem new_st {h0 g : Heap} {L : List (Nat × HO)} {W : Nat → Prop} (S : St h0 W L g) {n : Int} (h1 : 1 ≤ n) (h2 : n ≤ 65536) {Q : Option Ptr → Int → Heap → Prop}
    (hq : ∀ pm bm mk g', St h0 W ((pm, .cells (memC bm (n * 256).toNat) false) :: (bm, .cells (strCells (List.replicate (n * 256).toNat 0)) mk) :: L) g' → Q (some ⟨pm, 0⟩) 0 g') : mem_New n Q g := by
  refine Mem.New_of h1 h2 (fun pm bm g1 M hp hb k1 => ?_)
  obtain ⟨mk, harr⟩ := M.arr
  exact hq pm bm mk g1 (S.more2 hp hb M.ne (by have := M.cell; simpa [memC] using this) harr k1)

theorem rnew_st {h0 g : Heap} {L : List (Nat × HO)} {W : Nat → Prop} (S : St h0 W L g) {n : Int} (h1 : 1 ≤ n) (h2 : n ≤ 65536) {Q : Option Ptr → Int → Heap → Prop}
    (hq : ∀ pm bm mk g', St h0 W ((pm, .cells (memC bm (n * 256).toNat) false) :: (bm, .cells (strCells (List.replicate (n * 256).toNat 0)) mk) :: L) g' → Q (some ⟨pm, 0⟩) 0 g') : palisaderef04_New n Q g := new_st S h1 h2 hq

structure Ins where
  op : Int
  rd : Int
  a : Int
  b : Int
  imm : Int
def Ins.cells (i : Ins) : List V := [.int .i64 i.op, .int .i64 i.rd, .int .i64 i.a, .int .i64 i.b, .int .i64 i.imm]

theorem ins_get : ∀ {l : List Ins} {n : Nat} {r : Ins} {j : Nat}, l[n]? = some r → j < 5 → (l.flatMap Ins.cells)[n * 5 + j]? = r.cells[j]?
  | [], n, r, j, h, _ => by simp at h
  | i :: l, 0, r, j, h, hj => by
    simp at h; subst h
    rw [List.flatMap_cons, List.getElem?_append_left (by simp [Ins.cells]; omega)]
    congr 1; omega
  | i :: l, n + 1, r, j, h, hj => by
    simp at h
    rw [List.flatMap_cons, List.getElem?_append_right (by simp [Ins.cells]; omega), ← ins_get h hj]
    congr 1; simp [Ins.cells]; omega

def world (gb fb pr br pm bm b1 : Nat) (gx fx : HO) (rs bs : List UInt8) (mk2 mk : Bool) (cs : List V) : List (Nat × HO) :=
  [(gb, gx), (fb, fx), (pr, .cells (memC br 3072) false), (br, .cells (strCells rs) mk2), (pm, .cells (memC bm 3072) false), (bm, .cells (strCells bs) mk), (b1, .cells cs false)]

theorem words_loop (w : Wid U h x) (hk4 : knownB x 4 = true) {gb fb pr br pm bm b1 : Nat} {gx fx : HO} {cs : List V} {pc : Int} (hcs : cs[16]? = some (.int .u64 pc)) (hpc : 0 ≤ pc ∧ pc ≤ 2000) {wl : List Int} (hwl : wl.length ≤ 100) (hr : ∀ v ∈ wl, 0 ≤ v ∧ v ≤ 4294967295)
    {s : Sl} {rs bs : List UInt8} {mk2 mk : Bool} {g : Heap} (S : St h none_ (world gb fb pr br pm bm b1 gx fx rs bs mk2 mk cs) g) (hrs : rs.length = 3072) (hbs : bs.length = 3072) (hW : Held g s 1 (wl.map (V.int .u32))) (hsb : ∀ p, s.p = some p → p.b ≠ bm ∧ p.b ≠ br)
    {Q : Option Ptr → Option Ptr → Option Ptr → Option Ptr → Bool → Heap → Prop}
    (hq : ∀ rs mk2 mk g', St h none_ (world gb fb pr br pm bm b1 gx fx rs (stw bs (pc.toNat / 4 * 4) wl) mk2 mk cs) g' → palisadelaw09_both.j25 U ⟨b1, 0⟩ (some ⟨pm, 0⟩) (some ⟨pr, 0⟩) (some ⟨fb, 0⟩) (some ⟨gb, 0⟩) 0 Q g') :
    palisadelaw09_both.j19 U ⟨b1, 0⟩ (some ⟨pm, 0⟩) (some ⟨pr, 0⟩) (some ⟨fb, 0⟩) (some ⟨gb, 0⟩) s 0 Q g := by
  unfold palisadelaw09_both.j19
  intro I HI
  have hlen : s.len = wl.length := by have := hW.len; simp at this; omega
  have key : ∀ (j i : Nat) (rs : List UInt8) (mk2 mk : Bool) (g : Heap), i + j = wl.length → rs.length = 3072 → St h none_ (world gb fb pr br pm bm b1 gx fx rs (stw bs (pc.toNat / 4 * 4) (wl.take i)) mk2 mk cs) g → Held g s 1 (wl.map (V.int .u32)) → I ⟨b1, 0⟩ (some ⟨pm, 0⟩) (some ⟨pr, 0⟩) (some ⟨fb, 0⟩) (some ⟨gb, 0⟩) s (i : Int) g := by
    intro j
    induction j with
    | zero =>
      intro i rs mk2 mk g hi hrs S hW
      refine HI _ _ _ _ _ _ _ _ ?_
      unfold palisadelaw09_both.b19
      refine br_f (by simp; omega) ?_
      rw [List.take_of_length_le (by omega)] at S
      exact hq rs mk2 mk g S
    | succ j ih =>
      intro i rs mk2 mk g hi hrs S hW
      refine HI _ _ _ _ _ _ _ _ ?_
      unfold palisadelaw09_both.b19
      have hil : i < wl.length := by omega
      have hget : wl[i]? = some wl[i] := List.getElem?_eq_getElem hil
      obtain ⟨v0, v1⟩ := hr wl[i] (List.getElem_mem hil)
      obtain ⟨p, hp⟩ : ∃ p, s.p = some p := by
        cases hp : s.p with
        | none => have := hW.nil hp; omega
        | some p => exact ⟨p, rfl⟩
      obtain ⟨hpm, hpr⟩ := hsb p hp
      have row : ∀ g, Held g s 1 (wl.map (V.int .u32)) → ∀ {κ : Int → Prop}, κ wl[i] → rdI .u32 (p.add (i * 1)) κ g := fun g H κ hk =>
        rdI_of (by have := H.row p hp i (.int .u32 wl[i]) (by rw [List.getElem?_map, hget]; rfl); rw [Nat.mul_one]; exact this) hk
      have eaddr : IntKind.u64.wrap (IntKind.u64.wrap (IntKind.u64.wrap ((pc.tmod 3072).tdiv 4) * 4) + IntKind.u64.wrap (4 * IntKind.u64.wrap (i : Int))) = ((pc.toNat / 4 * 4 + 4 * i : Nat) : Int) := by
        have e1 : pc.tmod 3072 = pc := by rw [Int.tmod_eq_emod_of_nonneg (by omega)]; omega
        have e2 : pc.tdiv 4 = ((pc.toNat / 4 : Nat) : Int) := by rw [Int.tdiv_eq_ediv_of_nonneg (by omega)]; omega
        rw [e1, e2, wrapu64 (x := ((pc.toNat / 4 : Nat) : Int)), wrapu64 (x := ((pc.toNat / 4 : Nat) : Int) * 4), wrapu64 (x := (i : Int)), wrapu64 (x := 4 * (i : Int)), wrapu64]
        omega
      have ev : IntKind.u64.wrap wl[i] = wl[i] := wrapu64
      have hst : (stw bs (pc.toNat / 4 * 4) (wl.take i)).length = 3072 := by rw [stw_length _ (by simp; omega), hbs]
      refine br_t (by simp; omega) (S.rI i6 (by simpa [Ptr.add] using hcs) (nz_of (by decide) (nz_of (by decide) (ix_of (by omega) (by omega) ?_))))
      rw [hp, der_some, Int.toNat_natCast]
      refine row g hW ?_
      rw [eaddr, ev]
      refine StoreN_of (w.keeps S.keeps (fun f => f)) (rep_of S i4 i5 (by decide) hst (by decide)) (n := 4) (.inr (.inl rfl)) hk4 (by omega) (by omega) v0 (fun _ _ g1 R1 k1 => ?_) (fun hne => ?_) rfl
      case refine_2 =>
        exfalso
        apply hne
        unfold errN
        rw [hst, if_neg (by rw [Int.tmod_eq_emod_of_nonneg (by omega)]; omega), show lies 3072 ((pc.toNat / 4 * 4 + 4 * i : Nat) : Int) ((4 : Nat) : Int) = true by simp [lies]; omega]
        rfl
      obtain ⟨mk', harr⟩ := R1.arr
      have S1 := S.put i5 harr k1
      simp only [world, List.set] at S1
      have et : ((pc.toNat / 4 * 4 + 4 * i : Nat) : Int).toNat = pc.toNat / 4 * 4 + 4 * i := by omega
      have estw : put (stw bs (pc.toNat / 4 * 4) (wl.take i)) ((pc.toNat / 4 * 4 + 4 * i : Nat) : Int).toNat (le 4 wl[i].toNat) = stw bs (pc.toNat / 4 * 4) (wl.take (i + 1)) := by
        rw [et, List.take_add_one, hget, Option.toList_some, stw_snoc]
        congr 2; simp; omega
      rw [estw] at S1
      have hW1 := hW.keeps k1 (fun q hq e => (hsb q hq).1 e)
      refine ix_of (by omega) (by omega) ?_
      rw [der_some, Int.toNat_natCast]
      refine row g1 hW1 ?_
      rw [ev]
      refine rstore_of (rep_of S1 i2 i3 (by decide) hrs (by decide)) (n := 4) (.inr (.inl rfl)) (by omega) (by omega) v0 (fun e rs' g2 R2 hl2 k2 => ?_) rfl
      obtain ⟨mk2', harr2⟩ := R2.arr
      have S2 := S1.put i3 harr2 k2
      simp only [List.set] at S2
      have hW2 := hW1.keeps k2 (fun q hq e => (hsb q hq).2 e)
      unfold palisadelaw09_both.j20
      rw [wrap64]
      have := ih (i + 1) rs' mk2' mk' g2 (by omega) (by omega) S2 hW2
      simpa using this
  have := key wl.length 0 rs mk2 mk g (by omega) hrs S hW
  simpa using this

theorem ins_loop {gb fb pr br pm bm b1 : Nat} {gx fx : HO} {cs : List V} {is : Sl} (hcs : cs[30]? = some (.sl is)) {wl encs : List Int} {il : List Ins} (hI : Held h is 5 (il.flatMap Ins.cells)) (hsz : wl.length + il.length ≤ 100) (hel : encs.length = il.length)
    (hE : ∀ (i : Nat) ins v, il[i]? = some ins → encs[i]? = some v → ∃ e, ∀ (Q : Int → Int → Heap → Prop) g, (∀ g', Keeps none_ g g' → Q v e g') → palisaderef02_Encode ins.op ins.rd ins.a ins.b ins.imm Q g)
    {ws : Sl} {rs bs : List UInt8} {mk2 mk : Bool} {g : Heap} (S : St h none_ (world gb fb pr br pm bm b1 gx fx rs bs mk2 mk cs) g) (hW : Held g ws 1 (wl.map (V.int .u32))) (hwb : ∀ p, ws.p = some p → p.b ≠ bm ∧ p.b ≠ br) (hcap : ws.len ≤ ws.cap)
    {Q : Option Ptr → Option Ptr → Option Ptr → Option Ptr → Bool → Heap → Prop}
    (hq : ∀ s g', St h none_ (world gb fb pr br pm bm b1 gx fx rs bs mk2 mk cs) g' → Held g' s 1 ((wl ++ encs).map (V.int .u32)) → (∀ p, s.p = some p → p.b ≠ bm ∧ p.b ≠ br) → palisadelaw09_both.j19 U ⟨b1, 0⟩ (some ⟨pm, 0⟩) (some ⟨pr, 0⟩) (some ⟨fb, 0⟩) (some ⟨gb, 0⟩) s 0 Q g') :
    palisadelaw09_both.j14 U ⟨b1, 0⟩ (some ⟨pm, 0⟩) (some ⟨pr, 0⟩) (some ⟨fb, 0⟩) (some ⟨gb, 0⟩) ws 0 Q g := by
  unfold palisadelaw09_both.j14
  intro I HI
  have hlen : is.len = il.length := by
    have := hI.len
    have e : ∀ l : List Ins, (l.flatMap Ins.cells).length = l.length * 5 := by
      intro l
      induction l with
      | nil => rfl
      | cons a l ih => simp [List.flatMap_cons, ih, Ins.cells]; omega
    rw [e] at this; omega
  have key : ∀ (j i : Nat) (s : Sl) (g : Heap), i + j = il.length → St h none_ (world gb fb pr br pm bm b1 gx fx rs bs mk2 mk cs) g → Held g s 1 ((wl ++ encs.take i).map (V.int .u32)) → (∀ p, s.p = some p → p.b ≠ bm ∧ p.b ≠ br) → s.len ≤ s.cap → I ⟨b1, 0⟩ (some ⟨pm, 0⟩) (some ⟨pr, 0⟩) (some ⟨fb, 0⟩) (some ⟨gb, 0⟩) s (i : Int) g := by
    intro j
    induction j with
    | zero =>
      intro i s g hi S hW hb hc
      refine HI _ _ _ _ _ _ _ _ ?_
      unfold palisadelaw09_both.b14
      refine S.rSl i6 (by simpa [Ptr.add] using hcs) (br_f (by simp; omega) ?_)
      rw [List.take_of_length_le (by omega)] at hW
      exact hq s g S hW hb
    | succ j ih =>
      intro i s g hi S hW hb hc
      refine HI _ _ _ _ _ _ _ _ ?_
      unfold palisadelaw09_both.b14
      have hil : i < il.length := by omega
      have hget : il[i]? = some il[i] := List.getElem?_eq_getElem hil
      have hget2 : encs[i]? = some encs[i] := List.getElem?_eq_getElem (by omega)
      obtain ⟨e, henc⟩ := hE i _ _ hget hget2
      obtain ⟨p, hp⟩ : ∃ p, is.p = some p := by
        cases hp : is.p with
        | none => have := hI.nil hp; omega
        | some p => exact ⟨p, rfl⟩
      have Ig := hI.keeps S.keeps (fun _ _ f => f)
      have row : ∀ (k : Nat) (v : Int), k < 5 → (il[i]).cells[k]? = some (.int .i64 v) → ∀ {κ : Int → Prop}, κ v → rdI .i64 ((p.add (i * 5)).add k) κ g := fun k v hk hv κ hκ =>
        rdI_of (by have := Ig.row p hp (i * 5 + k) (.int .i64 v) (by rw [ins_get hget hk, hv]); rw [← Nat.add_assoc] at this; exact this) hκ
      have hsl : s.len = wl.length + i := by have := hW.len; simp at this; omega
      refine S.rSl i6 (by simpa [Ptr.add] using hcs) (br_t (by simp; omega) (S.rSl i6 (by simpa [Ptr.add] using hcs) (ix_of (by omega) (by omega) ?_)))
      rw [hp, der_some, Int.toNat_natCast]
      refine row 0 _ (by omega) rfl (row 1 _ (by omega) rfl (row 2 _ (by omega) rfl (row 3 _ (by omega) rfl (row 4 _ (by omega) rfl (henc _ _ (fun g0 k0 => ?_))))))
      have S := S.keep k0
      have hW := hW.keeps k0 (fun _ _ f => f)
      refine sb_of (by omega) (by omega) (sb_of (by omega) (by omega) ?_)
      rw [Int.toNat_natCast, Nat.sub_zero]
      refine al_of (fun b2 g1 hb2 ho2 k2 => ?_)
      refine rdN_held (vs := [V.int .u32 encs[i]]) rfl (fun j u hu => by rw [get_cells ho2, Nat.zero_add]; exact hu) ?_
      have hW1 := hW.keeps k2 (fun _ _ f => f)
      refine appS_full (held_slp (n := s.len) (c := s.len) hW1) (by show s.len < s.len + 1; omega) rfl rfl (by show (s.len + 1) * 4 ≤ _; omega) (by show s.len + 1 ≤ _; omega) (fun s' g2 b' O hl2 hb3 k3 => ?_)
      have S2 := (S.keep k2).keep k3
      unfold palisadelaw09_both.j15
      rw [wrap64]
      have e1 : (wl ++ encs.take i).map (V.int .u32) ++ [V.int .u32 encs[i]] = (wl ++ encs.take (i + 1)).map (V.int .u32) := by
        rw [List.take_add_one, hget2, Option.toList_some, ← List.append_assoc, List.map_append (l₁ := wl ++ encs.take i)]; rfl
      rw [e1] at O
      have := ih (i + 1) s' g2 (by omega) S2 O.held (fun q hq => by
        rw [O.p] at hq; cases hq
        have hbg : g0.obj b' = none := Mem.fresh_of k2 hb3
        exact ⟨fun e => (by have := S.obj i5; rw [← e, hbg] at this; cases this), fun e => (by have := S.obj i3; rw [← e, hbg] at this; cases this)⟩) O.cap
      simpa using this
  have := key il.length 0 ws g (by omega) S (by simpa using hW) hwb hcap
  simpa using this

theorem both_of (w : Wid U h x) (hk4 : knownB x 4 = true) {x0 x1 x2 x3 x4 x5 x6 x7 x8 x9 x10 x11 x12 x13 x14 x15 md : V} {pc : Int} {c0 c1 c2 c3 c4 c5 c6 c7 c8 c9 c10 c11 : Int} {is ws : Sl}
    {wl encs : List Int} {il : List Ins} (hpc : 0 ≤ pc ∧ pc ≤ 2000) (hI : Held h is 5 (il.flatMap Ins.cells)) (hW : Held h ws 1 (wl.map (V.int .u32))) (hcap : ws.len ≤ ws.cap) (hwb : ∀ p, ws.p = some p → h.obj p.b ≠ none) (hsz : wl.length + il.length ≤ 100) (hr : ∀ v ∈ wl ++ encs, 0 ≤ v ∧ v ≤ 4294967295) (hel : encs.length = il.length)
    (hE : ∀ (i : Nat) ins v, il[i]? = some ins → encs[i]? = some v → ∃ e, ∀ (Q : Int → Int → Heap → Prop) g, (∀ g', Keeps none_ g g' → Q v e g') → palisaderef02_Encode ins.op ins.rd ins.a ins.b ins.imm Q g)
    {Q : Option Ptr → Option Ptr → Option Ptr → Option Ptr → Bool → Heap → Prop}
    (hq : ∀ fb gb bb pb pm bm mk h', St h none_ [(bb, .cells (flatC pm false 0) false), (fb, .cells (fileC [.int .u64 c0, .int .u64 c1, .int .u64 c2, .int .u64 c3, .int .u64 c4, .int .u64 c5, .int .u64 c6, .int .u64 c7, .int .u64 c8, .int .u64 c9, .int .u64 c10, .int .u64 c11]) false), (pm, .cells (memC bm 3072) false), (bm, .cells (strCells (stw (List.replicate 3072 0) (pc.toNat / 4 * 4) (wl ++ encs))) mk)] h' →
      Q (some ⟨fb, 0⟩) gb (some ⟨bb, 0⟩) pb true h') :
    palisadelaw09_both U [x0, x1, x2, x3, x4, x5, x6, x7, x8, x9, x10, x11, x12, x13, x14, x15, .int .u64 pc, md, .int .u64 c0, .int .u64 c1, .int .u64 c2, .int .u64 c3, .int .u64 c4, .int .u64 c5, .int .u64 c6, .int .u64 c7, .int .u64 c8, .int .u64 c9, .int .u64 c10, .int .u64 c11, .sl is, .sl ws, .sl ⟨none, 0, 0⟩, .int .i64 (-1)] Q h := by
  unfold palisadelaw09_both
  refine ⟨rfl, ?_⟩
  have S := St.start h none_
  repeat (first | ((with_reducible first|apply St.rI|apply St.rB|apply St.rP|apply St.rSl|apply St.rV|apply St.rM|apply St.rS|apply St.rN|apply St.ckA);assumption;(first|exact i0|exact i1|exact i2|exact i3|exact i4|exact i5|exact i6|exact i7|exact i8|exact i9|exact i10|exact i11|exact i12|exact i13|exact i14|exact i15);(first|rfl|exact Nat.le_of_ble_eq_true rfl)) | with_reducible refine der_of ?_ | ((with_reducible refine br_t ?_ ?_);rfl) | ((with_reducible refine br_f ?_ ?_);rfl) | ((with_reducible refine br_t ?_ ?_);assumption) | ((with_reducible refine br_f ?_ ?_);assumption) | ((with_reducible first|apply St.wrL|apply St.wr);assumption;(first|exact i0|exact i1|exact i2|exact i3|exact i4|exact i5|exact i6|exact i7|exact i8|exact i9|exact i10|exact i11|exact i12|exact i13|exact i14|exact i15);(first|exact Nat.le_of_ble_eq_true rfl|rfl);intro g_ S_;simp only [Ptr.add, List.set, splice, List.take, List.drop, List.nil_append, List.append_nil, List.cons_append, List.length_cons, List.length_nil, Nat.zero_add, Nat.add_zero, Nat.reduceAdd, Nat.reduceMul, Nat.mul_one, Int.toNat_zero, Int.toNat_one, Int.reduceToNat] at S_) | ((with_reducible first|apply St.al|apply St.alM);assumption;intro b_ g_ S_) | ((with_reducible refine ix_of ?_ ?_ ?_);exact of_decide_eq_true rfl;exact of_decide_eq_true rfl) | ((with_reducible first|refine nz_of ?_ ?_|refine nneg_of ?_ ?_);exact of_decide_eq_true rfl) | ((with_reducible refine chk_of ?_ ?_);rfl) | (with_reducible first|apply asI_of|apply asB_of|apply asP_of|apply asSl_of|apply asAggV_of|apply asTupV_of|apply asCons_of|apply asNil_of|apply isNil_n|apply isNil_i|apply nilC_i|apply nilCU_i|apply nilCU_f|apply mthC_i) | ((with_reducible refine And.intro ?_ ?_);rfl) | ((with_reducible apply exAnd);rfl))
  refine new_st ‹_› (by decide) (by decide) (fun pm bm mk g1 S1 => ?_)
  refine rnew_st S1 (by decide) (by decide) (fun pr br mk2 g2 S2 => ?_)
  have e3072 : ((12 : Int) * 256).toNat = 3072 := by decide
  rw [e3072] at S2
  unfold csr_New palisaderef08_New
  ((with_reducible apply St.al); assumption; intro fb_ g_ S_)
  repeat (first | ((with_reducible first|apply St.rI|apply St.rB|apply St.rP|apply St.rSl|apply St.rV|apply St.rM|apply St.rS|apply St.rN|apply St.ckA);assumption;(first|exact i0|exact i1|exact i2|exact i3|exact i4|exact i5|exact i6|exact i7|exact i8|exact i9|exact i10|exact i11|exact i12|exact i13|exact i14|exact i15);(first|rfl|exact Nat.le_of_ble_eq_true rfl)) | with_reducible refine der_of ?_ | ((with_reducible refine br_t ?_ ?_);rfl) | ((with_reducible refine br_f ?_ ?_);rfl) | ((with_reducible refine br_t ?_ ?_);assumption) | ((with_reducible refine br_f ?_ ?_);assumption) | ((with_reducible first|apply St.wrL|apply St.wr);assumption;(first|exact i0|exact i1|exact i2|exact i3|exact i4|exact i5|exact i6|exact i7|exact i8|exact i9|exact i10|exact i11|exact i12|exact i13|exact i14|exact i15);(first|exact Nat.le_of_ble_eq_true rfl|rfl);intro g_ S_;simp only [Ptr.add, List.set, splice, List.take, List.drop, List.nil_append, List.append_nil, List.cons_append, List.length_cons, List.length_nil, Nat.zero_add, Nat.add_zero, Nat.reduceAdd, Nat.reduceMul, Nat.mul_one, Int.toNat_zero, Int.toNat_one, Int.reduceToNat] at S_) | ((with_reducible first|apply St.al|apply St.alM);assumption;intro b_ g_ S_) | ((with_reducible refine ix_of ?_ ?_ ?_);exact of_decide_eq_true rfl;exact of_decide_eq_true rfl) | ((with_reducible first|refine nz_of ?_ ?_|refine nneg_of ?_ ?_);exact of_decide_eq_true rfl) | ((with_reducible refine chk_of ?_ ?_);rfl) | (with_reducible first|apply asI_of|apply asB_of|apply asP_of|apply asSl_of|apply asAggV_of|apply asTupV_of|apply asCons_of|apply asNil_of|apply isNil_n|apply isNil_i|apply nilC_i|apply nilCU_i|apply nilCU_f|apply mthC_i) | ((with_reducible refine And.intro ?_ ?_);rfl) | ((with_reducible apply exAnd);rfl))
  unfold palisadelaw09_both.j6 palisadelaw09_both.j7
  intro I HI
  refine HI _ _ _ _ _ _ _ ?_
  clear HI
  unfold palisadelaw09_both.b7
  repeat (first | ((with_reducible first|apply St.rI|apply St.rB|apply St.rP|apply St.rSl|apply St.rV|apply St.rM|apply St.rS|apply St.rN|apply St.ckA);assumption;(first|exact i0|exact i1|exact i2|exact i3|exact i4|exact i5|exact i6|exact i7|exact i8|exact i9|exact i10|exact i11|exact i12|exact i13|exact i14|exact i15);(first|rfl|exact Nat.le_of_ble_eq_true rfl)) | with_reducible refine der_of ?_ | ((with_reducible refine br_t ?_ ?_);rfl) | ((with_reducible refine br_f ?_ ?_);rfl) | ((with_reducible refine br_t ?_ ?_);assumption) | ((with_reducible refine br_f ?_ ?_);assumption) | ((with_reducible first|apply St.wrL|apply St.wr);assumption;(first|exact i0|exact i1|exact i2|exact i3|exact i4|exact i5|exact i6|exact i7|exact i8|exact i9|exact i10|exact i11|exact i12|exact i13|exact i14|exact i15);(first|exact Nat.le_of_ble_eq_true rfl|rfl);intro g_ S_;simp only [Ptr.add, List.set, splice, List.take, List.drop, List.nil_append, List.append_nil, List.cons_append, List.length_cons, List.length_nil, Nat.zero_add, Nat.add_zero, Nat.reduceAdd, Nat.reduceMul, Nat.mul_one, Int.toNat_zero, Int.toNat_one, Int.reduceToNat] at S_) | ((with_reducible first|apply St.al|apply St.alM);assumption;intro b_ g_ S_) | ((with_reducible refine ix_of ?_ ?_ ?_);exact of_decide_eq_true rfl;exact of_decide_eq_true rfl) | ((with_reducible first|refine nz_of ?_ ?_|refine nneg_of ?_ ?_);exact of_decide_eq_true rfl) | ((with_reducible refine chk_of ?_ ?_);rfl) | (with_reducible first|apply asI_of|apply asB_of|apply asP_of|apply asSl_of|apply asAggV_of|apply asTupV_of|apply asCons_of|apply asNil_of|apply isNil_n|apply isNil_i|apply nilC_i|apply nilCU_i|apply nilCU_f|apply mthC_i) | ((with_reducible refine And.intro ?_ ?_);rfl) | ((with_reducible apply exAnd);rfl))
  have hbm : h.obj bm = none := by
    rcases S_.new bm _ (List.mem_of_getElem? i5) with h | h
    · exact h
    · exact h.elim
  have hbr : h.obj br = none := by
    rcases S_.new br _ (List.mem_of_getElem? i3) with h | h
    · exact h
    · exact h.elim
  refine ins_loop rfl hI hsz hel hE ‹St _ _ _ _› (hW.keeps S_.keeps (fun _ _ f => f)) (fun p hp => ⟨fun e => hwb p hp (e ▸ hbm), fun e => hwb p hp (e ▸ hbr)⟩) hcap (fun s g3 S3 H3 hs3 => ?_)
  refine words_loop w hk4 rfl hpc (by simp; omega) hr S3 (by simp) (by simp) H3 hs3 (fun rs mk2 mk g4 S4 => ?_)
  simp only [world] at S4
  clear S_ S3 H3
  unfold palisadelaw09_both.j25
  intro I HI
  refine HI _ _ _ _ _ _ _ ?_
  unfold palisadelaw09_both.b25 csr_File_Set csr_File_none csr_known palisaderef08_File_Set
  repeat (first | ((with_reducible first|apply St.rI|apply St.rB|apply St.rP|apply St.rSl|apply St.rV|apply St.rM|apply St.rS|apply St.rN|apply St.ckA);assumption;(first|exact i0|exact i1|exact i2|exact i3|exact i4|exact i5|exact i6|exact i7|exact i8|exact i9|exact i10|exact i11|exact i12|exact i13|exact i14|exact i15);(first|rfl|exact Nat.le_of_ble_eq_true rfl)) | with_reducible refine der_of ?_ | ((with_reducible refine br_t ?_ ?_);rfl) | ((with_reducible refine br_f ?_ ?_);rfl) | ((with_reducible refine br_t ?_ ?_);assumption) | ((with_reducible refine br_f ?_ ?_);assumption) | ((with_reducible first|apply St.wrL|apply St.wr);assumption;(first|exact i0|exact i1|exact i2|exact i3|exact i4|exact i5|exact i6|exact i7|exact i8|exact i9|exact i10|exact i11|exact i12|exact i13|exact i14|exact i15);(first|exact Nat.le_of_ble_eq_true rfl|rfl);intro g_ S_;simp only [Ptr.add, List.set, splice, List.take, List.drop, List.nil_append, List.append_nil, List.cons_append, List.length_cons, List.length_nil, Nat.zero_add, Nat.add_zero, Nat.reduceAdd, Nat.reduceMul, Nat.mul_one, Int.toNat_zero, Int.toNat_one, Int.reduceToNat] at S_) | ((with_reducible first|apply St.al|apply St.alM);assumption;intro b_ g_ S_) | ((with_reducible refine ix_of ?_ ?_ ?_);exact of_decide_eq_true rfl;exact of_decide_eq_true rfl) | ((with_reducible first|refine nz_of ?_ ?_|refine nneg_of ?_ ?_);exact of_decide_eq_true rfl) | ((with_reducible refine chk_of ?_ ?_);rfl) | (with_reducible first|apply asI_of|apply asB_of|apply asP_of|apply asSl_of|apply asAggV_of|apply asTupV_of|apply asCons_of|apply asNil_of|apply isNil_n|apply isNil_i|apply nilC_i|apply nilCU_i|apply nilCU_f|apply mthC_i) | ((with_reducible refine And.intro ?_ ?_);rfl) | ((with_reducible apply exAnd);rfl))
  simp only [w64_0, w64_1, w64_2, w64_3, w64_4, w64_5, w64_6, w64_7, w64_8, w64_9, w64_10, w64_11, w64_12, w64_13, w64_14, w64_15, w64_16, w64_17, w64_18, w64_19]
  iterate 11 (
    refine HI _ _ _ _ _ _ _ ?_
    unfold palisadelaw09_both.b25 csr_File_Set csr_File_none csr_known palisaderef08_File_Set
    repeat (first | ((with_reducible first|apply St.rI|apply St.rB|apply St.rP|apply St.rSl|apply St.rV|apply St.rM|apply St.rS|apply St.rN|apply St.ckA);assumption;(first|exact i0|exact i1|exact i2|exact i3|exact i4|exact i5|exact i6|exact i7|exact i8|exact i9|exact i10|exact i11|exact i12|exact i13|exact i14|exact i15);(first|rfl|exact Nat.le_of_ble_eq_true rfl)) | with_reducible refine der_of ?_ | ((with_reducible refine br_t ?_ ?_);rfl) | ((with_reducible refine br_f ?_ ?_);rfl) | ((with_reducible refine br_t ?_ ?_);assumption) | ((with_reducible refine br_f ?_ ?_);assumption) | ((with_reducible first|apply St.wrL|apply St.wr);assumption;(first|exact i0|exact i1|exact i2|exact i3|exact i4|exact i5|exact i6|exact i7|exact i8|exact i9|exact i10|exact i11|exact i12|exact i13|exact i14|exact i15);(first|exact Nat.le_of_ble_eq_true rfl|rfl);intro g_ S_;simp only [Ptr.add, List.set, splice, List.take, List.drop, List.nil_append, List.append_nil, List.cons_append, List.length_cons, List.length_nil, Nat.zero_add, Nat.add_zero, Nat.reduceAdd, Nat.reduceMul, Nat.mul_one, Int.toNat_zero, Int.toNat_one, Int.reduceToNat] at S_) | ((with_reducible first|apply St.al|apply St.alM);assumption;intro b_ g_ S_) | ((with_reducible refine ix_of ?_ ?_ ?_);exact of_decide_eq_true rfl;exact of_decide_eq_true rfl) | ((with_reducible first|refine nz_of ?_ ?_|refine nneg_of ?_ ?_);exact of_decide_eq_true rfl) | ((with_reducible refine chk_of ?_ ?_);rfl) | (with_reducible first|apply asI_of|apply asB_of|apply asP_of|apply asSl_of|apply asAggV_of|apply asTupV_of|apply asCons_of|apply asNil_of|apply isNil_n|apply isNil_i|apply nilC_i|apply nilCU_i|apply nilCU_f|apply mthC_i) | ((with_reducible refine And.intro ?_ ?_);rfl) | ((with_reducible apply exAnd);rfl))
    simp only [w64_0, w64_1, w64_2, w64_3, w64_4, w64_5, w64_6, w64_7, w64_8, w64_9, w64_10, w64_11, w64_12, w64_13, w64_14, w64_15, w64_16, w64_17, w64_18, w64_19])
  refine HI _ _ _ _ _ _ _ ?_
  unfold palisadelaw09_both.b25 palisadelaw09_bus
  have fin : ∀ {L : List (Nat × HO)} {g : Heap} {bb : Nat} {pb : Option Ptr} (is : List Nat), St h none_ L g → is.Nodup → is.map (fun i => L[i]?) = [(bb, .cells (flatC pm false 0) false), (fb_, .cells (fileC [.int .u64 c0, .int .u64 c1, .int .u64 c2, .int .u64 c3, .int .u64 c4, .int .u64 c5, .int .u64 c6, .int .u64 c7, .int .u64 c8, .int .u64 c9, .int .u64 c10, .int .u64 c11]) false), (pm, .cells (memC bm 3072) false), (bm, .cells (strCells (stw (List.replicate 3072 0) (pc.toNat / 4 * 4) (wl ++ encs))) mk)].map some → Q (some ⟨fb_, 0⟩) (some ⟨b_, 0⟩) (some ⟨bb, 0⟩) pb true g :=
    fun is S hn he => hq _ _ _ _ _ _ _ _ (S.pick is hn he)
  repeat (first | ((with_reducible first|apply St.rI|apply St.rB|apply St.rP|apply St.rSl|apply St.rV|apply St.rM|apply St.rS|apply St.rN|apply St.ckA);assumption;(first|exact i0|exact i1|exact i2|exact i3|exact i4|exact i5|exact i6|exact i7|exact i8|exact i9|exact i10|exact i11|exact i12|exact i13|exact i14|exact i15);(first|rfl|exact Nat.le_of_ble_eq_true rfl)) | with_reducible refine der_of ?_ | ((with_reducible refine br_t ?_ ?_);rfl) | ((with_reducible refine br_f ?_ ?_);rfl) | ((with_reducible refine br_t ?_ ?_);assumption) | ((with_reducible refine br_f ?_ ?_);assumption) | ((with_reducible first|apply St.wrL|apply St.wr);assumption;(first|exact i0|exact i1|exact i2|exact i3|exact i4|exact i5|exact i6|exact i7|exact i8|exact i9|exact i10|exact i11|exact i12|exact i13|exact i14|exact i15);(first|exact Nat.le_of_ble_eq_true rfl|rfl);intro g_ S_;simp only [Ptr.add, List.set, splice, List.take, List.drop, List.nil_append, List.append_nil, List.cons_append, List.length_cons, List.length_nil, Nat.zero_add, Nat.add_zero, Nat.reduceAdd, Nat.reduceMul, Nat.mul_one, Int.toNat_zero, Int.toNat_one, Int.reduceToNat] at S_) | ((with_reducible first|apply St.al|apply St.alM);assumption;intro b_ g_ S_) | ((with_reducible refine ix_of ?_ ?_ ?_);exact of_decide_eq_true rfl;exact of_decide_eq_true rfl) | ((with_reducible first|refine nz_of ?_ ?_|refine nneg_of ?_ ?_);exact of_decide_eq_true rfl) | ((with_reducible refine chk_of ?_ ?_);rfl) | (with_reducible first|apply asI_of|apply asB_of|apply asP_of|apply asSl_of|apply asAggV_of|apply asTupV_of|apply asCons_of|apply asNil_of|apply isNil_n|apply isNil_i|apply nilC_i|apply nilCU_i|apply nilCU_f|apply mthC_i) | ((with_reducible refine And.intro ?_ ?_);rfl) | ((with_reducible apply exAnd);rfl))
  refine ⟨⟨?_, ?_, ?_⟩, ?_⟩
  · (apply St.ck1; assumption; (first|exact i0|exact i1|exact i2|exact i3|exact i4|exact i5|exact i6|exact i7|exact i8|exact i9|exact i10|exact i11|exact i12|exact i13|exact i14|exact i15); rfl)
  all_goals repeat (first | ((with_reducible first|apply St.rI|apply St.rB|apply St.rP|apply St.rSl|apply St.rV|apply St.rM|apply St.rS|apply St.rN|apply St.ckA);assumption;(first|exact i0|exact i1|exact i2|exact i3|exact i4|exact i5|exact i6|exact i7|exact i8|exact i9|exact i10|exact i11|exact i12|exact i13|exact i14|exact i15);(first|rfl|exact Nat.le_of_ble_eq_true rfl)) | with_reducible refine der_of ?_ | ((with_reducible refine br_t ?_ ?_);rfl) | ((with_reducible refine br_f ?_ ?_);rfl) | ((with_reducible refine br_t ?_ ?_);assumption) | ((with_reducible refine br_f ?_ ?_);assumption) | ((with_reducible first|apply St.wrL|apply St.wr);assumption;(first|exact i0|exact i1|exact i2|exact i3|exact i4|exact i5|exact i6|exact i7|exact i8|exact i9|exact i10|exact i11|exact i12|exact i13|exact i14|exact i15);(first|exact Nat.le_of_ble_eq_true rfl|rfl);intro g_ S_;simp only [Ptr.add, List.set, splice, List.take, List.drop, List.nil_append, List.append_nil, List.cons_append, List.length_cons, List.length_nil, Nat.zero_add, Nat.add_zero, Nat.reduceAdd, Nat.reduceMul, Nat.mul_one, Int.toNat_zero, Int.toNat_one, Int.reduceToNat] at S_) | ((with_reducible first|apply St.al|apply St.alM);assumption;intro b_ g_ S_) | ((with_reducible refine ix_of ?_ ?_ ?_);exact of_decide_eq_true rfl;exact of_decide_eq_true rfl) | ((with_reducible first|refine nz_of ?_ ?_|refine nneg_of ?_ ?_);exact of_decide_eq_true rfl) | ((with_reducible refine chk_of ?_ ?_);rfl) | (with_reducible first|apply asI_of|apply asB_of|apply asP_of|apply asSl_of|apply asAggV_of|apply asTupV_of|apply asCons_of|apply asNil_of|apply isNil_n|apply isNil_i|apply nilC_i|apply nilCU_i|apply nilCU_f|apply mthC_i) | ((with_reducible refine And.intro ?_ ?_);rfl) | ((with_reducible apply exAnd);rfl))
  all_goals (first | (apply fin [1, 3, 6, 7]; assumption; decide; rfl) | (apply fin [0, 3, 6, 7]; assumption; decide; rfl))

end
end Go.Hart

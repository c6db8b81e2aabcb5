/- DiskPlays: a disk under any calls does the document's requests, and has its bytes. -/
import Derived.Test.YtmpjgafkdhineaaDiskQ
import Derived.Test.YtmpjgafkdhineaaArgKit
set_option linter.unusedSimpArgs false
set_option linter.unusedVariables false
set_option maxRecDepth 100000
namespace Go.Disk
open Go.Lift Go.Fn

theorem lt_of {α : Type} {l : List α} {n : Nat} {r : α} (h : l[n]? = some r) : n < l.length := by
  rcases Nat.lt_or_ge n l.length with h1 | h1
  · exact h1
  · rw [List.getElem?_eq_none h1] at h; cases h

theorem has_of' {d : Dsk} {i : Int} (h0 : 0 ≤ i) (h1 : i < d.n) : d.has i = true := by simp [Dsk.has, h0, h1]

/-- The document's memory is made. -/
theorem rNew_of {h : Heap} {f : Int} (f0 : 1 ≤ f) (f1 : f ≤ 65536) {Q : Option Ptr → Int → Heap → Prop}
    (hq : ∀ pb bb h', Mem.Rep pb bb (List.replicate (f * 256).toNat 0) h' → h.obj pb = none → h.obj bb = none → Keeps none_ h h' → Q (some ⟨pb, 0⟩) 0 h') : palisaderef04_New f Q h := by
  have := Mem.New_of (Q := Q) f0 f1 hq
  exact this

theorem own_set {h : Heap} {s : Sl} {vs : List V} {b k : Nat} (O : Own h s 1 vs b) (hk : k < vs.length) {v : V} {κ : Heap → Prop} (hκ : ∀ h', Own h' s 1 (vs.set k v) b → Keeps (· = b) h h' → κ h') : wr ⟨b, k⟩ v κ h := by
  obtain ⟨rest, mk, ho, hr⟩ := O.obj
  refine wr_cells ho (List.getElem?_eq_getElem (by simp; omega)) (fun h' ho' k' => hκ h' ⟨O.p, O.cap, by simp [O.len], rest, mk, ?_, hr⟩ k')
  rw [ho', List.set_append, if_pos hk]

section
variable {h0 h h' : Heap} {pb pm bm : Nat} {y : Lay} {d : Dsk} {bs : List UInt8}

theorem St.blocks (s : St h0 pb pm bm y d bs h) {Q : Int → Heap → Prop} (hq : Q d.n h) : disk_Disk_Blocks (some ⟨pb, 0⟩) Q h := by
  obtain ⟨R, ok, M, big, rfl, np, nb, fy, fp, fb, kk⟩ := s
  exact Blocks_of R hq

theorem St.put {U : Ifc} (u : DU U) (s : St h0 pb pm bm y d bs h) {i : Int} {sl : Sl} {x : List UInt8} (H : Held h sl 1 (strCells x)) {Q : Int → Heap → Prop}
    (hq : ∀ y' h', St h0 pb pm bm y' (d.put i x) bs h' → Grow h y.Foot y'.Foot → Keeps y.Foot h h' → Q (d.putErr i x) h') : disk_Disk_Put U (some ⟨pb, 0⟩) i sl Q h := by
  obtain ⟨R, ok, M, big, rfl, np, nb, fy, fp, fb, kk⟩ := s
  refine Put_of u R ok H (fun y' h' R' hp g k' => ?_)
  have k1 : Keeps y.Foot h h' := k'.mono (fun x hx => hx ▸ .inr (.inl rfl))
  refine hq y' h' ⟨R', ?_, M.keeps k1 np nb, big, hp, fun hx => (g _ hx).elim np M.known1, fun hx => (g _ hx).elim nb M.known2, fun x hx => (g x hx).elim (fy x) (Mem.fresh_of kk), fp, fb, Keeps.over kk k1 fy⟩ g k1
  unfold Dsk.put
  split
  · rename_i he
    refine Ok.blk ok ?_
    unfold Dsk.putErr at he
    split at he
    · cases he
    · split at he
      · cases he
      · rename_i h2; simpa using h2
  · exact ok

/-- Both disks, and both memories. -/
structure All (h0 : Heap) (pb pm bm : Nat) (y : Lay) (z : RL) (d : Dsk) (bs RB : List UInt8) (pd : List Req) (ro : List UInt8) (h : Heap) : Prop where
  P : St h0 pb pm bm y d bs h
  R : RR z RB pd ro h
  dj : ∀ x, z.Foot x → Off pm bm y x
  f : ∀ x, z.Foot x → h0.obj x = none

def FF (pm bm : Nat) (y : Lay) (z : RL) (x : Nat) : Prop := y.Foot x ∨ x = pm ∨ x = bm ∨ z.Foot x

variable {z : RL} {RB ro : List UInt8} {pd : List Req}

theorem All.keeps {S : Nat → Prop} (A : All h0 pb pm bm y z d bs RB pd ro h) (k : Keeps S h h') (h1 : ∀ x, S x → h0.obj x = none) (h2 : ∀ x, S x → ¬ FF pm bm y z x) : All h0 pb pm bm y z d bs RB pd ro h' :=
  ⟨A.P.keeps k h1 (fun x hx => ⟨fun hf => h2 x hx (.inl hf), fun e => h2 x hx (.inr (.inl e)), fun e => h2 x hx (.inr (.inr (.inl e)))⟩), A.R.keeps k (fun x hx hs => h2 x hs (.inr (.inr (.inr hx)))), A.dj, A.f⟩

theorem All.keep0 (A : All h0 pb pm bm y z d bs RB pd ro h) (k : Keeps none_ h h') : All h0 pb pm bm y z d bs RB pd ro h' := A.keeps k (fun _ f => f.elim) (fun _ f => f.elim)

theorem All.off (A : All h0 pb pm bm y z d bs RB pd ro h) {b : Nat} (hb : h.obj b = none) : ¬ FF pm bm y z b := by
  have o := A.P.off hb
  rintro (e | e | e | e)
  · exact o.f e
  · exact o.p e
  · exact o.m e
  · exact A.R.offs hb e

theorem All.fresh (A : All h0 pb pm bm y z d bs RB pd ro h) {b : Nat} (hb : h.obj b = none) : h0.obj b = none := A.P.fresh hb

theorem All.stepP {y' : Lay} {d' : Dsk} {bs' : List UInt8} {S : Nat → Prop} (A : All h0 pb pm bm y z d bs RB pd ro h) (s' : St h0 pb pm bm y' d' bs' h') (g : Grow h y.Foot y'.Foot) (k : Keeps S h h') (hS : ∀ x, S x → y.Foot x ∨ x = bm) :
    All h0 pb pm bm y' z d' bs' RB pd ro h' ∧ Keeps (FF pm bm y z) h h' ∧ Grow h (FF pm bm y z) (FF pm bm y' z) := by
  refine ⟨⟨s', A.R.keeps k (fun x hx hs => ?_), fun x hx => (A.dj x hx).grow g (A.R.known x hx), A.f⟩, k.mono (fun x hx => ?_), ?_⟩
  · rcases hS x hs with e | e
    · exact (A.dj x hx).f e
    · exact (A.dj x hx).m e
  · rcases hS x hx with e | e
    · exact .inl e
    · exact .inr (.inr (.inl e))
  · rintro x (e | e | e | e)
    · exact (g x e).imp_left .inl
    · exact .inl (.inr (.inl e))
    · exact .inl (.inr (.inr (.inl e)))
    · exact .inl (.inr (.inr (.inr e)))

theorem All.stepR {z' : RL} {RB' ro' : List UInt8} {pd' : List Req} (A : All h0 pb pm bm y z d bs RB pd ro h) (R' : RR z' RB' pd' ro' h') (k : Keeps z.Foot h h') (g : Grow h z.Foot z'.Foot) :
    All h0 pb pm bm y z' d bs RB' pd' ro' h' ∧ Keeps (FF pm bm y z) h h' ∧ Grow h (FF pm bm y z) (FF pm bm y z') := by
  refine ⟨⟨A.P.keeps k A.f A.dj, R', fun x hx => ?_, fun x hx => ?_⟩, k.mono (fun x hx => .inr (.inr (.inr hx))), ?_⟩
  · rcases g x hx with e | e
    · exact A.dj x e
    · exact A.P.off e
  · rcases g x hx with e | e
    · exact A.f x e
    · exact A.P.fresh e
  · rintro x (e | e | e | e)
    · exact .inl (.inl e)
    · exact .inl (.inr (.inl e))
    · exact .inl (.inr (.inr (.inl e)))
    · exact (g x e).imp_left (fun e => .inr (.inr (.inr e)))

/-- They say the same. -/
structure Eqv (d : Dsk) (bs RB : List UInt8) (pd : List Req) (ro : List UInt8) : Prop where
  pd : pd = d.pend
  ro : ro = bs
  len : bs.length = 1024
  rb : RB.length = d.n.toNat * 256
  blk : ∀ i, d.has i = true → (RB.drop (i * 256).toNat).take 256 = d.blk i

theorem Eqv.has (E : Eqv d bs RB pd ro) (ok : d.Ok) (i : Int) : rhas RB i = d.has i := by
  have := ok.lo
  unfold rhas Dsk.has
  have e : RB.length / 256 = d.n.toNat := by rw [E.rb]; omega
  rw [e]
  have e2 : ((d.n.toNat : Nat) : Int) = d.n := by omega
  rw [e2]

theorem drop_put {B x : List UInt8} {a i : Nat} (hx : x.length = 256) (ha : a * 256 + 256 ≤ B.length) (hi : i * 256 + 256 ≤ B.length) : ((Mem.put B (a * 256) x).drop (i * 256)).take 256 = if i = a then x else (B.drop (i * 256)).take 256 := by
  refine List.ext_getElem? (fun k => ?_)
  rcases Nat.lt_or_ge k 256 with hk | hk
  · rw [List.getElem?_take_of_lt hk, List.getElem?_drop, Mem.put_get (by omega)]
    by_cases e : i = a
    · subst e
      rw [if_pos rfl, if_pos (by omega), Nat.add_sub_cancel_left]
    · rw [if_neg e, List.getElem?_take_of_lt hk, List.getElem?_drop, if_neg (by omega)]
  · rw [List.getElem?_eq_none (by simp; omega)]
    split
    · rw [List.getElem?_eq_none (by omega)]
    · rw [List.getElem?_eq_none (by simp; omega)]

theorem Eqv.put (E : Eqv d bs RB pd ro) {i : Int} (hi : d.has i = true) {x : List UInt8} (hx : x.length = 256) {pd' : List Req} : Eqv { d with pend := pd', blk := fun j => if j = i then x else d.blk j } bs (Mem.put RB (i * 256).toNat x) pd' ro := by
  have h1 : 0 ≤ i ∧ i < d.n := by simpa [Dsk.has] using hi
  have hrb := E.rb
  have e : (i * 256).toNat = i.toNat * 256 := by omega
  refine ⟨rfl, E.ro, E.len, ?_, fun j hj => ?_⟩
  · rw [Mem.put_length (by omega)]; exact hrb
  · have h2 : 0 ≤ j ∧ j < d.n := by
      have : d.has j = true := hj
      simpa [Dsk.has] using this
    have e2 : (j * 256).toNat = j.toNat * 256 := by omega
    rw [e, e2, drop_put hx (by omega) (by omega)]
    show _ = if j = i then x else d.blk j
    by_cases e3 : j = i
    · rw [if_pos (by omega), if_pos e3]
    · rw [if_neg (by omega), if_neg e3, ← e2]; exact E.blk j hj

theorem subErr_eq (E : Eqv d bs RB pd ro) (ok : d.Ok) (r : Req) : rsubErr RB pd r = d.subErr r := by
  unfold rsubErr Dsk.subErr
  rw [E.has ok, E.pd]

/-! ## what stands -/

theorem stands_of (A : All h0 pb pm bm y z d bs RB pd ro h) (E : Eqv d bs RB pd ro) {Q : Bool → Heap → Prop} (hq : ∀ h', Keeps none_ h h' → Q true h') : palisadelaw12_stands (some ⟨pb, 0⟩) (some ⟨z.pr, 0⟩) Q h := by
  unfold palisadelaw12_stands
  have hlo := A.P.ok.lo
  have hfew := A.P.ok.few
  have hrs := A.R.size
  have hrb := E.rb
  refine A.P.pending (fun s' h1 H1 hb1 hO s1 k1 => ?_)
  have R1 := A.R.keep0 k1
  have A1 := A.keep0 k1
  rw [der_some]
  have hl1 := Held.slen H1
  have hl2 := Held.slen R1.held
  rw [E.pd] at hl2
  refine loc_Sl R1.cell rfl (br_f (by rw [hl1, hl2]; simp) ?_)
  rw [der_some]
  refine loc_Sl R1.cell rfl (nz_of (by decide) (A1.P.blocks ⟨⟨(get_cells R1.cell _).trans rfl, trivial⟩, ?_⟩))
  have e1 : IntKind.i64.wrap (((RB.length : Nat) : Int).tdiv 256) = d.n := by
    rw [tdiv256 _ hrs, hrb]; omega
  refine br_f (by show (d.n != IntKind.i64.wrap (((RB.length : Nat) : Int).tdiv 256)) = false; rw [e1]; simp) ?_
  unfold palisadelaw12_stands.j5
  intro I HI
  by_cases hne : d.pend = []
  · refine HI _ _ _ _ ?_
    unfold palisadelaw12_stands.b5
    rw [hne] at hl1
    exact br_f (by rw [hl1]; simp) (hq h1 k1)
  obtain ⟨b, O⟩ := hO hne
  have hbn : h.obj b = none := hb1 b ⟨_, O.p, rfl⟩
  have hzb : ¬ z.Foot b := A.R.offs hbn
  have key : ∀ (m k : Nat) (L : List Req) (g : Heap), k + m = d.pend.length → L.length = d.pend.length → (∀ i, k ≤ i → L[i]? = d.pend[i]?) → Own g s' 4 (reqs L) b → Keeps (· = b) h1 g → I (some ⟨z.pr, 0⟩) s' (k : Int) g := by
    intro m
    induction m with
    | zero =>
      intro k L g hk hL hLk Og kg
      refine HI _ _ _ _ ?_
      unfold palisadelaw12_stands.b5
      refine br_f (by rw [hl1]; simp; omega) (hq g ?_)
      refine ⟨fun x hx _ => ?_, fun x hx => kg.known x (k1.known x hx)⟩
      rw [kg.same x (k1.known x hx) (fun e => hx (e ▸ hbn))]
      exact k1.same x hx (fun f => f)
    | succ m ih =>
      intro k L g hk hL hLk Og kg
      refine HI _ _ _ _ ?_
      unfold palisadelaw12_stands.b5
      have hkl : k < d.pend.length := by omega
      have hr : d.pend[k]? = some d.pend[k] := List.getElem?_eq_getElem hkl
      generalize d.pend[k] = r at hr
      have hrL : L[k]? = some r := (hLk k (Nat.le_refl _)).trans hr
      have Rg := R1.keeps kg (fun x hx e => hzb (e ▸ hx))
      have hrp : pd[k]? = some r := by rw [E.pd]; exact hr
      obtain ⟨p, hp⟩ := Held.some Rg.held (lt_of hrp)
      refine br_t (by rw [hl1]; simp; omega) (ix_of (by omega) (by rw [hl1]; omega) ?_)
      rw [Og.p, der_some, Int.toNat_natCast]
      refine rd0 Og.held Og.p hrL (rd1 Og.held Og.p hrL (rd2 Og.held Og.p hrL (rd3 Og.held Og.p hrL ?_)))
      rw [der_some]
      refine loc_Sl Rg.cell rfl (ix_of (by omega) (by rw [hl2]; omega) ?_)
      rw [hp, der_some]
      refine rd0 Rg.held hp hrp (rd1 Rg.held hp hrp (rd2 Rg.held hp hrp (rd3 Rg.held hp hrp ?_)))
      refine br_f (by simp [eqL]) (ix_of (by omega) (by rw [hl1]; omega) ?_)
      rw [der_some, Int.toNat_natCast]
      obtain ⟨rest, mk, ho, hrr⟩ := Og.obj
      have hlr : k * 4 < (reqs L).length := by rw [reqs_length]; omega
      show wr ⟨b, 0 + k * 4 + 0⟩ _ _ g
      rw [Nat.zero_add, Nat.add_zero]
      refine wr_cells ho (List.getElem?_eq_getElem (by simp; omega)) (fun g' ho' kg' => ?_)
      rw [List.set_append, if_pos hlr, reqs_set hrL] at ho'
      rw [wrap64]
      have := ih (k + 1) (L.set k { r with id := -9 }) g' (by omega) (by simpa using hL) (fun i hi => by rw [List.getElem?_set_ne (by omega)]; exact hLk i (by omega)) ⟨Og.p, Og.cap, by have := Og.len; rw [reqs_length] at this ⊢; simpa using this, rest, mk, ho', hrr⟩ (kg.trans kg')
      simpa using this
  have := key d.pend.length 0 d.pend h1 (by omega) rfl (fun i _ => rfl) O (Keeps.refl _ _)
  simpa using this

/-! ## a round's end -/

/-- A slice that is nil, or one's own. -/
def MyOwn (h0 : Heap) (pm bm : Nat) (y : Lay) (z : RL) (h : Heap) (s : Sl) : Prop := s.len = 0 ∨ ∃ vs b, Own h s 1 vs b ∧ h0.obj b = none ∧ ¬ FF pm bm y z b ∧ ∀ i, i < s.len → ∃ n, vs[i]? = some (.int .u8 n)

theorem sevens {U : Ifc} {I8 : Sl → (Option Ptr) → (Option Ptr) → (Option Ptr) → (Option Ptr) → Int → Heap → Prop} {a1 : Sl} {a6 : Int} {s : Sl} (A : All h0 pb pm bm y z d bs RB pd ro h) (hl : s.len ≤ 1000000) (M : MyOwn h0 pm bm y z h s) {Q : Bool → Heap → Prop}
    (hk : ∀ h', All h0 pb pm bm y z d bs RB pd ro h' → I8 a1 (some ⟨pb, 0⟩) (some ⟨z.pr, 0⟩) (some ⟨pm, 0⟩) (some ⟨z.po, 0⟩) (IntKind.i64.wrap (a6 + 1)) h') : palisadelaw12_DiskPlays.j35 U I8 a1 (some ⟨pb, 0⟩) (some ⟨z.pr, 0⟩) (some ⟨pm, 0⟩) (some ⟨z.po, 0⟩) a6 s Q h := by
  unfold palisadelaw12_DiskPlays.j35 palisadelaw12_DiskPlays.j36
  intro I HI
  have key : ∀ (m k : Nat) (g : Heap), k + m = s.len → All h0 pb pm bm y z d bs RB pd ro g → MyOwn h0 pm bm y z g s → I a1 (some ⟨pb, 0⟩) (some ⟨z.pr, 0⟩) (some ⟨pm, 0⟩) (some ⟨z.po, 0⟩) a6 s (k : Int) g := by
    intro m
    induction m with
    | zero =>
      intro k g hk' Ag Mg
      refine HI _ _ _ _ _ _ _ _ _ ?_
      unfold palisadelaw12_DiskPlays.b36
      exact br_f (by simp; omega) (hk g Ag)
    | succ m ih =>
      intro k g hk' Ag Mg
      refine HI _ _ _ _ _ _ _ _ _ ?_
      unfold palisadelaw12_DiskPlays.b36
      rcases Mg with h0' | ⟨vs, b, O, hf, hn, hv⟩
      · omega
      have hlen := O.len
      refine br_t (by simp; omega) (ix_of (by omega) (by omega) ?_)
      rw [O.p, der_some, Int.toNat_natCast]
      show wr ⟨b, 0 + k * 1⟩ _ _ g
      rw [Nat.zero_add, Nat.mul_one]
      refine own_set O (by omega) (fun g' O' kg => ?_)
      rw [wrap64]
      have := ih (k + 1) g' (by omega) (Ag.keeps kg (fun x e => e ▸ hf) (fun x e => e ▸ hn)) (.inr ⟨_, b, O', hf, hn, fun i hi => ?_⟩)
      · simpa using this
      · by_cases e : i = k
        · subst e; exact ⟨7, List.getElem?_set_self (by omega)⟩
        · rw [List.getElem?_set_ne (fun h => e h.symm)]; exact hv i hi
  have := key s.len 0 h (by omega) A M
  simpa using this

theorem strCells_u8 {x : List UInt8} {i : Nat} (hi : i < x.length) : ∃ n, (strCells x)[i]? = some (.int .u8 n) := by
  rw [strCells_get, List.getElem?_eq_getElem hi]
  exact ⟨_, rfl⟩

theorem tail_of' {U : Ifc} {I8 : Sl → (Option Ptr) → (Option Ptr) → (Option Ptr) → (Option Ptr) → Int → Heap → Prop} {a1 : Sl} {a6 : Int} {b10 : Nat} {acts : List V} {K : Int} (A : All h0 pb pm bm y z d bs RB pd ro h) (E : Eqv d bs RB pd ro) (ho : h.obj b10 = some (.cells acts false)) (hK : acts[5]? = some (.int .i64 K)) {Q : Bool → Heap → Prop}
    (hk : ∀ h', All h0 pb pm bm y z d bs RB pd ro h' → I8 a1 (some ⟨pb, 0⟩) (some ⟨z.pr, 0⟩) (some ⟨pm, 0⟩) (some ⟨z.po, 0⟩) (IntKind.i64.wrap (a6 + 1)) h') : palisadelaw12_DiskPlays.j31 U I8 a1 (some ⟨pb, 0⟩) (some ⟨z.pr, 0⟩) (some ⟨pm, 0⟩) (some ⟨z.po, 0⟩) a6 ⟨b10, 0⟩ Q h := by
  unfold palisadelaw12_DiskPlays.j31
  have hhas := E.has A.P.ok K
  have common : ∀ (r2 r5 : Sl) (e : Int) (x : List UInt8) (g : Heap), All h0 pb pm bm y z d bs RB pd ro g → Held g r2 1 (strCells x) → Held g r5 1 (strCells x) → x.length ≤ 1000000 → MyOwn h0 pm bm y z g r2 →
      cellsS 1 r2 (fun cs7 => bytesOf cs7 (fun s8 => cellsS 1 r5 (fun cs9 => bytesOf cs9 (fun s10 => br (!(s8 == s10)) (palisadelaw12_DiskPlays.j34 U I8 Q g) (br (e != e) (palisadelaw12_DiskPlays.j34 U I8 Q g) (palisadelaw12_stands (some ⟨pb, 0⟩) (some ⟨z.pr, 0⟩) (fun r11 h => br (!r11) (palisadelaw12_DiskPlays.j34 U I8 Q h) (palisadelaw12_DiskPlays.j35 U I8 a1 (some ⟨pb, 0⟩) (some ⟨z.pr, 0⟩) (some ⟨pm, 0⟩) (some ⟨z.po, 0⟩) a6 r2 Q h)) g)))) g)) g := by
    intro r2 r5 e x g Ag H2 H5 hx M
    refine cellsS_of H2 ?_
    rw [bytesOf_str]
    refine cellsS_of H5 ?_
    rw [bytesOf_str]
    refine br_f (by simp) (br_f (by simp) (stands_of Ag E (fun g1 k1 => br_f rfl ?_)))
    have hl2 : r2.len = x.length := by have := H2.len; rw [strCells_length] at this; omega
    refine sevens (Ag.keep0 k1) (by omega) ?_ hk
    rcases M with M | ⟨vs, b, O, q⟩
    · exact .inl M
    · exact .inr ⟨vs, b, O.keeps k1 (fun f => f), q⟩
  refine loc_I ho hK ?_
  cases hh : d.has K with
  | false =>
    rw [hh] at hhas
    refine A.P.block (fun _ => ?_) (fun h1 => by rw [hh] at h1; cases h1)
    refine loc_I ho hK (rBlock_of A.R (fun _ => ?_) (fun h1 => by rw [hhas] at h1; cases h1))
    exact common _ _ 12 [] h A Held.empty Held.empty (by simp) (.inl rfl)
  | true =>
    rw [hh] at hhas
    refine A.P.block (fun h1 => by rw [hh] at h1; cases h1) (fun _ s2 h1 b2 O2 hl2 hb2 s1 k1 => ?_)
    have A1 := A.keep0 k1
    refine loc_I (k1.obj ho (fun f => f)) hK (rBlock_of A1.R (fun h1 => by rw [hhas] at h1; cases h1) (fun _ s5 h2 b5 O5 hl5 hb5 k2 => ?_))
    rw [E.blk K hh] at O5
    have A2 := A1.keep0 k2
    have O2' := O2.keeps k2 (fun f => f)
    have hlen := A.P.ok.len K
    exact common _ _ 0 (d.blk K) h2 A2 O2'.held O5.held (by omega) (.inr ⟨_, b2, O2', A.fresh hb2, A.off hb2, fun i hi => strCells_u8 (by omega)⟩)

/-! ## one round -/

/-- An act, as the memory ahead of the call has it. -/
def ActAt (h0 : Heap) (s : Sl) (i : Nat) : Prop :=
  ∃ (p : Ptr) (kd : Int) (r : Req) (K : Int) (sl : Sl) (x : List UInt8), s.p = some p ∧ h0.get p.b (p.o + i * 7) = some (.int .i64 kd) ∧ h0.get p.b (p.o + i * 7 + 1) = some (.int .i64 r.id) ∧ h0.get p.b (p.o + i * 7 + 2) = some (.bool r.write) ∧
    h0.get p.b (p.o + i * 7 + 3) = some (.int .i64 r.block) ∧ h0.get p.b (p.o + i * 7 + 4) = some (.int .i64 r.frame) ∧ h0.get p.b (p.o + i * 7 + 5) = some (.int .i64 K) ∧ h0.get p.b (p.o + i * 7 + 6) = some (.sl sl) ∧ Held h0 sl 1 (strCells x) ∧ x.length ≤ 1048576

theorem get0 (A : All h0 pb pm bm y z d bs RB pd ro h) {b o : Nat} {v : V} (hg : h0.get b o = some v) : h.get b o = some v := by
  have hb : h0.obj b ≠ none := by intro hn; unfold Heap.get at hg; rw [hn] at hg; cases hg
  rw [Heap.get_obj (A.P.k.same b hb (fun f => f))]; exact hg

theorem and3 (K : Int) : ∃ a : Int, IntKind.u64.wrap (IntKind.u64.wrap (ibits .and .i64 K 3) * 256) = a ∧ 0 ≤ a ∧ a ≤ 768 := by
  obtain ⟨h1, h2⟩ := and64_le K 3 (by omega) (by omega)
  rw [wrapu64 (x := ibits .and .i64 K 3), wrapu64]
  exact ⟨_, rfl, by omega, by omega⟩

theorem round {U : Ifc} (u : DU U) {I8 : Sl → (Option Ptr) → (Option Ptr) → (Option Ptr) → (Option Ptr) → Int → Heap → Prop} {a1 : Sl} {i : Nat} (hi : i < a1.len) (hil : a1.len ≤ 9223372036854775807) (act : ActAt h0 a1 i) (A : All h0 pb pm bm y z d bs RB pd ro h) (E : Eqv d bs RB pd ro) {Q : Bool → Heap → Prop}
    (hk : ∀ y' s' d' bs' RB' pd' ro' h', All h0 pb pm bm y' { z with s := s' } d' bs' RB' pd' ro' h' → Eqv d' bs' RB' pd' ro' → I8 a1 (some ⟨pb, 0⟩) (some ⟨z.pr, 0⟩) (some ⟨pm, 0⟩) (some ⟨z.po, 0⟩) ((i : Int) + 1) h') :
    palisadelaw12_DiskPlays.b8 U I8 a1 (some ⟨pb, 0⟩) (some ⟨z.pr, 0⟩) (some ⟨pm, 0⟩) (some ⟨z.po, 0⟩) (i : Int) Q h := by
  unfold palisadelaw12_DiskPlays.b8
  obtain ⟨p, kd, r, K, sl, x, hp, g0, g1, g2, g3, g4, g5, g6, H, hx⟩ := act
  have ew : IntKind.i64.wrap ((i : Int) + 1) = (i : Int) + 1 := wrap64
  refine br_t (by simp; omega) (br_t rfl (ix_of (by omega) (by omega) ?_))
  rw [hp, der_some, Int.toNat_natCast]
  refine rdI_of (get0 A g0) (rdI_of (get0 A g1) (rdB_of (get0 A g2) (rdI_of (get0 A g3) (rdI_of (get0 A g4) (rdI_of (get0 A g5) (rdSl_of (get0 A g6) ?_))))))
  refine al_wrL rfl (fun b10 h1 hb10 ho k1 => ?_)
  have A1 := A.keep0 k1
  have n10 := A.off hb10
  have f10 := A.fresh hb10
  have hfar : ∀ {S : Nat → Prop} {g : Heap}, Keeps S h1 g → ¬ S b10 → g.obj b10 = some (.cells [.int .i64 kd, .int .i64 r.id, .bool r.write, .int .i64 r.block, .int .i64 r.frame, .int .i64 K, .sl sl] false) := fun k hn => k.obj ho hn
  have hHh : ∀ {y' z' d' bs' RB' pd' ro' g}, All h0 pb pm bm y' z' d' bs' RB' pd' ro' g → Held g sl 1 (strCells x) := fun B => H.keeps B.P.k (fun _ _ f => f)
  have hne : ∀ {y' d' bs' RB' pd' ro' g} {z' : RL}, All h0 pb pm bm y' z' d' bs' RB' pd' ro' g → strCells x ≠ [] → ∀ q, sl.p = some q → q.b ≠ z'.bB ∧ q.b ≠ z'.bO := by
    intro y' d' bs' RB' pd' ro' g z' B hn q hq
    have := Held.known H hn q hq
    exact ⟨fun e => this (e ▸ B.f _ (.inr (.inl rfl))), fun e => this (e ▸ B.f _ (.inr (.inr (.inr (.inl rfl)))))⟩
  have fin : ∀ {y' s' d' bs' RB' pd' ro' g}, All h0 pb pm bm y' { z with s := s' } d' bs' RB' pd' ro' g → Eqv d' bs' RB' pd' ro' → g.obj b10 = some (.cells [.int .i64 kd, .int .i64 r.id, .bool r.write, .int .i64 r.block, .int .i64 r.frame, .int .i64 K, .sl sl] false) →
      palisadelaw12_DiskPlays.j31 U I8 a1 (some ⟨pb, 0⟩) (some ⟨z.pr, 0⟩) (some ⟨pm, 0⟩) (some ⟨z.po, 0⟩) (i : Int) ⟨b10, 0⟩ Q g := by
    intro y' s' d' bs' RB' pd' ro' g B EB hob
    refine tail_of' (z := { z with s := s' }) B EB hob rfl (fun g' B' => ?_)
    rw [ew]
    exact hk _ _ _ _ _ _ _ g' B' EB
  have hall : ∀ q ∈ pd, rhas RB q.block = true := by
    intro q hq
    rw [E.has A.P.ok]
    have := A.P.ok.has q (E.pd ▸ hq)
    exact has_of' this.1 this.2
  refine loc_I ho rfl (br_if (fun c0 => ?_) (fun c0 => br_if (fun c1 => ?_) (fun c1 => br_if (fun c2 => ?_) (fun c2 => br_if (fun c3 => ?_) (fun c3 => ?_)))))
  · -- asked
    refine loc_I ho rfl (loc_B ho rfl (loc_I ho rfl (loc_I ho rfl (loc_I ho rfl (loc_B ho rfl (loc_I ho rfl (loc_I ho rfl ?_)))))))
    refine A1.P.submit u (r := r) (fun y2 h2 s2 gr2 k2 => ?_)
    obtain ⟨A2, kf2, gf2⟩ := A1.stepP s2 gr2 k2 (fun x hx => .inl hx)
    have ho2 := hfar k2 (fun e => n10 (.inl e))
    refine ⟨⟨(get_cells ho2 _).trans rfl, (get_cells ho2 _).trans rfl, (get_cells ho2 _).trans rfl, (get_cells ho2 _).trans rfl, trivial⟩, ?_⟩
    have es := subErr_eq E A.P.ok r
    refine rSubmit_of A2.R (r := r) (fun he h3 k3 => ?_) (fun he s3 h3 R3 k3 gr3 => ?_)
    · rw [es] at he ⊢
      have hsub : d.sub r = d := by unfold Dsk.sub; rw [if_neg he]
      rw [hsub] at A2
      exact br_f (by simp) (fin (s' := z.s) (A2.keep0 k3) E (k3.obj ho2 (fun f => f)))
    · rw [es] at he
      have hsub : d.sub r = { d with pend := d.pend ++ [r] } := by unfold Dsk.sub; rw [if_pos he]
      rw [hsub] at A2
      obtain ⟨A3, kf3, gf3⟩ := A2.stepR R3 k3 gr3
      have ho3 := k3.obj ho2 (fun hx => n10 (.inr (.inr (.inr hx))))
      rw [he]
      exact br_f rfl (fin A3 ⟨by rw [E.pd], E.ro, E.len, E.rb, E.blk⟩ ho3)
  · -- done
    refine loc_I ho rfl ?_
    have j17 : ∀ (y2 : Lay) (d2 : Dsk) (bs2 : List UInt8) (h2 : Heap) (S : Nat → Prop) (q : Req) (e : Int), All h0 pb pm bm y2 z d2 bs2 RB pd ro h2 → Keeps S h1 h2 → ¬ S b10 → d2.n = d.n →
        ((K < 0 ∨ (pd.length : Int) ≤ K) → q = ⟨0, false, 0, 0⟩ ∧ e = 14 ∧ Eqv d2 bs2 RB pd ro) →
        (∀ (n : Nat) r, K = n → pd[n]? = some r → rhas ro r.frame = false → q = r ∧ e = 12 ∧ Eqv d2 bs2 RB (pd.eraseIdx n) ro) →
        (∀ (n : Nat) r, K = n → pd[n]? = some r → rhas ro r.frame = true → r.write = true → q = r ∧ e = 0 ∧ Eqv d2 bs2 (Mem.put RB (r.block * 256).toNat ((ro.drop (r.frame * 256).toNat).take 256)) (pd.eraseIdx n) ro) →
        (∀ (n : Nat) r, K = n → pd[n]? = some r → rhas ro r.frame = true → r.write = false → q = r ∧ e = 0 ∧ Eqv d2 bs2 RB (pd.eraseIdx n) (Mem.put ro (r.frame * 256).toNat ((RB.drop (r.block * 256).toNat).take 256))) →
        al [.int .i64 0, .bool false, .int .i64 0, .int .i64 0] (fun b28 h => wrL q.cells (⟨b28, 0⟩ : Ptr) 0 (fun h => palisadelaw12_DiskPlays.j17 U I8 a1 (some ⟨pb, 0⟩) (some ⟨z.pr, 0⟩) (some ⟨pm, 0⟩) (some ⟨z.po, 0⟩) (i : Int) (⟨b10, 0⟩ : Ptr) (⟨b28, 0⟩ : Ptr) e Q h) h) h2 := by
      intro y2 d2 bs2 h2 S q e A2 k2 hS hn2 c14 c12 cw cr
      refine al_wrL rfl (fun b28 h3 hb28 ho28 k3 => ?_)
      have A3 := A2.keep0 k3
      have n28 := A2.off hb28
      have hob := k3.obj (hfar k2 hS) (fun f => f)
      unfold palisadelaw12_DiskPlays.j17
      refine loc_I hob rfl ?_
      have last : ∀ (q' : Req) (e' : Int) {s' RB' pd' ro'} {h4 : Heap} {S4 : Nat → Prop}, All h0 pb pm bm y2 { z with s := s' } d2 bs2 RB' pd' ro' h4 → Eqv d2 bs2 RB' pd' ro' → Keeps S4 h3 h4 → ¬ S4 b10 → ¬ S4 b28 → q = q' → e = e' →
          al [.int .i64 0, .bool false, .int .i64 0, .int .i64 0] (fun b7 h => wrL q'.cells (⟨b7, 0⟩ : Ptr) 0 (fun h => rdI .i64 ((⟨b28, 0⟩ : Ptr).add 0) (fun x8 => rdB ((⟨b28, 0⟩ : Ptr).add 1) (fun x9 => rdI .i64 ((⟨b28, 0⟩ : Ptr).add 2) (fun x10 => rdI .i64 ((⟨b28, 0⟩ : Ptr).add 3) (fun x11 => rdI .i64 ((⟨b7, 0⟩ : Ptr).add 0) (fun x12 => rdB ((⟨b7, 0⟩ : Ptr).add 1) (fun x13 => rdI .i64 ((⟨b7, 0⟩ : Ptr).add 2) (fun x14 => rdI .i64 ((⟨b7, 0⟩ : Ptr).add 3) (fun x15 => br (!(eqL [x8 == x12, x9 == x13, x10 == x14, x11 == x15])) (palisadelaw12_DiskPlays.j19 U I8 Q h) (br (e != e') (palisadelaw12_DiskPlays.j19 U I8 Q h) (palisadelaw12_DiskPlays.j31 U I8 a1 (some ⟨pb, 0⟩) (some ⟨z.pr, 0⟩) (some ⟨pm, 0⟩) (some ⟨z.po, 0⟩) (i : Int) (⟨b10, 0⟩ : Ptr) Q h))) h) h) h) h) h) h) h) h) h) h4 := by
        intro q' e' s' RB' pd' ro' h4 S4 A4 E4 k4 q10 q28 hq he
        subst hq; subst he
        refine al_wrL rfl (fun b7 h5 hb7 ho7 k5 => ?_)
        have ho28 := k5.obj (k4.obj ho28 q28) (fun f => f)
        refine loc_I ho28 rfl (loc_B ho28 rfl (loc_I ho28 rfl (loc_I ho28 rfl (loc_I ho7 rfl (loc_B ho7 rfl (loc_I ho7 rfl (loc_I ho7 rfl ?_)))))))
        refine br_f (by simp [eqL]) (br_f (by simp) ?_)
        exact fin (A4.keep0 k5) E4 (k5.obj (k4.obj hob q10) (fun f => f))
      have z10 : ¬ z.Foot b10 := fun e => n10 (.inr (.inr (.inr e)))
      have z28 : ¬ z.Foot b28 := fun e => n28 (.inr (.inr (.inr e)))
      refine rComplete_of A3.R hall (fun hk' h4 k4 => ?_) (fun n r' hn hr hf s4 h4 R4 k4 gr4 => ?_) (fun n r' hn hr hf hw s4 h4 R4 k4 gr4 => ?_) (fun n r' hn hr hf hw s4 h4 R4 k4 gr4 => ?_)
      · obtain ⟨w1, w2, w3⟩ := c14 hk'
        exact last ⟨0, false, 0, 0⟩ 14 (s' := z.s) (A3.keep0 k4) w3 k4 (fun f => f) (fun f => f) w1 w2
      · obtain ⟨w1, w2, w3⟩ := c12 n r' hn hr hf
        exact last r' 12 (A3.stepR R4 k4 gr4).1 w3 k4 z10 z28 w1 w2
      · obtain ⟨w1, w2, w3⟩ := cw n r' hn hr hf hw
        exact last r' 0 (A3.stepR R4 k4 gr4).1 w3 k4 z10 z28 w1 w2
      · obtain ⟨w1, w2, w3⟩ := cr n r' hn hr hf hw
        exact last r' 0 (A3.stepR R4 k4 gr4).1 w3 k4 z10 z28 w1 w2
    have hpd := E.pd
    have hro := E.ro
    subst hpd hro
    have rf : ∀ f : Int, rhas ro f = true ↔ (0 ≤ f ∧ f < ((ro.length / 256 : Nat) : Int)) := by intro f; simp [rhas]
    have rfn : ∀ f : Int, rhas ro f = false ↔ ¬ (0 ≤ f ∧ f < ((ro.length / 256 : Nat) : Int)) := by
      intro f
      rw [← rf]
      simp
    have same : ∀ {n n' : Nat} {r r' : Req}, K = n → d.pend[n]? = some r → K = n' → d.pend[n']? = some r' → n' = n ∧ r' = r := by
      intro n n' r r' e1 e2 e3 e4
      obtain rfl : n' = n := by omega
      rw [e2] at e4
      exact ⟨rfl, (Option.some.inj e4).symm⟩
    refine A1.P.complete u (fun hK h2 s2 k2 => ?_) (fun n r1 hn hr hf y2 h2 s2 gr2 k2 => ?_) (fun n r1 hn hr hf hw y2 h2 s2 gr2 k2 => ?_) (fun n r1 hn hr hf hw y2 h2 s2 gr2 k2 => ?_)
    · refine j17 y d ro h2 none_ ⟨0, false, 0, 0⟩ 14 (A1.keep0 k2) k2 (fun f => f) rfl (fun _ => ⟨rfl, rfl, E⟩) (fun n r hn hr _ => ?_) (fun n r hn hr _ _ => ?_) (fun n r hn hr _ _ => ?_) <;>
        (have := lt_of hr; omega)
    · obtain ⟨A2, kf2, gf2⟩ := A1.stepP s2 gr2 k2 (fun x hx => .inl hx)
      have hlt := lt_of hr
      refine j17 y2 _ ro h2 _ r1 12 A2 k2 (fun e => n10 (.inl e)) rfl (fun hk' => by omega) (fun n' r' hn' hr' _ => ?_) (fun n' r' hn' hr' hf' _ => ?_) (fun n' r' hn' hr' hf' _ => ?_)
      · obtain ⟨rfl, rfl⟩ := same hn hr hn' hr'
        exact ⟨rfl, rfl, rfl, rfl, E.len, E.rb, E.blk⟩
      · obtain ⟨rfl, rfl⟩ := same hn hr hn' hr'
        exact absurd ((rf _).1 hf') hf
      · obtain ⟨rfl, rfl⟩ := same hn hr hn' hr'
        exact absurd ((rf _).1 hf') hf
    · obtain ⟨A2, kf2, gf2⟩ := A1.stepP s2 gr2 k2 (fun x hx => .inl hx)
      have hlt := lt_of hr
      refine j17 y2 _ ro h2 _ r1 0 A2 k2 (fun e => n10 (.inl e)) rfl (fun hk' => by omega) (fun n' r' hn' hr' hf' => ?_) (fun n' r' hn' hr' hf' hw' => ?_) (fun n' r' hn' hr' hf' hw' => ?_)
      · obtain ⟨rfl, rfl⟩ := same hn hr hn' hr'
        exact absurd hf ((rfn _).1 hf')
      · obtain ⟨rfl, rfl⟩ := same hn hr hn' hr'
        have hb := A.P.ok.has r' (List.mem_of_getElem? hr)
        exact ⟨rfl, rfl, E.put (has_of' hb.1 hb.2) (frameOf_length hf.1 hf.2)⟩
      · obtain ⟨rfl, rfl⟩ := same hn hr hn' hr'
        rw [hw] at hw'; cases hw'
    · obtain ⟨A2, kf2, gf2⟩ := A1.stepP s2 gr2 k2 (fun x hx => hx)
      have hlt := lt_of hr
      refine j17 y2 _ _ h2 _ r1 0 A2 k2 (fun e => n10 (e.elim .inl (fun e => .inr (.inr (.inl e))))) rfl (fun hk' => by omega) (fun n' r' hn' hr' hf' => ?_) (fun n' r' hn' hr' hf' hw' => ?_) (fun n' r' hn' hr' hf' hw' => ?_)
      · obtain ⟨rfl, rfl⟩ := same hn hr hn' hr'
        exact absurd hf ((rfn _).1 hf')
      · obtain ⟨rfl, rfl⟩ := same hn hr hn' hr'
        rw [hw] at hw'; cases hw'
      · obtain ⟨rfl, rfl⟩ := same hn hr hn' hr'
        have hb := A.P.ok.has r' (List.mem_of_getElem? hr)
        have hd := has_of' (d := d) hb.1 hb.2
        have e1 := E.blk r'.block hd
        have hbl := A.P.ok.len r'.block
        have hlen := E.len
        refine ⟨rfl, rfl, rfl, by rw [e1], ?_, E.rb, E.blk⟩
        rw [Mem.put_length (by omega)]; exact hlen
  · -- put
    intro b29 hb29
    have k29 : Keeps none_ h1 (h1.new b29 (.cells [] false)) := Keeps.new hb29 _
    have ho29 := hfar k29 (fun f => f)
    refine loc_Sl ho29 rfl (cellsS_of (hHh (A1.keep0 k29)) ?_)
    have hslen : sl.len = x.length := by have := H.len; rw [strCells_length] at this; omega
    rw [hslen]
    refine copy_of (sz := 1) (bytes := 1) (n := x.length) (by rw [strCells_length]; omega) rfl (by omega) (by omega) (fun s31 h2 b31 O2 hl2 hb31 k2 => ?_) hb29
    have A2 := A1.keep0 k2
    have ho2 := hfar k2 (fun f => f)
    have n31 := A1.off hb31
    have f31 := A1.fresh hb31
    unfold palisadelaw12_DiskPlays.j22
    refine loc_I ho2 rfl (loc_I ho2 rfl (loc_Sl ho2 rfl ?_))
    refine A2.P.put u O2.held (fun y3 h3 s3 gr3 k3 => ?_)
    obtain ⟨A3, kf3, gf3⟩ := A2.stepP s3 gr3 k3 (fun x hx => .inl hx)
    have ho3 := k3.obj ho2 (fun e => n10 (.inl e))
    have O3 := O2.keeps k3 (fun e => n31 (.inl e))
    have k31 : h2.obj b31 ≠ none := O2.known
    have m31 : ¬ FF pm bm y3 z b31 := fun e => (gf3 b31 e).elim n31 k31
    refine ⟨⟨(get_cells ho3 _).trans rfl, trivial⟩, ⟨(get_cells ho3 _).trans rfl, trivial⟩, ?_⟩
    have hhas := E.has A.P.ok K
    have loop : ∀ {d' RB' h4 S4}, All h0 pb pm bm y3 z d' bs RB' pd ro h4 → Eqv d' bs RB' pd ro → Keeps S4 h3 h4 → ¬ S4 b10 → ¬ S4 b31 → palisadelaw12_DiskPlays.j25 U I8 a1 (some ⟨pb, 0⟩) (some ⟨z.pr, 0⟩) (some ⟨pm, 0⟩) (some ⟨z.po, 0⟩) (i : Int) ⟨b10, 0⟩ s31 0 Q h4 := by
      intro d' RB' h4 S4 A4 E4 k4 q10 q31
      unfold palisadelaw12_DiskPlays.j25
      intro I HI
      have key : ∀ (m k : Nat) (vs : List V) (g : Heap), k + m = s31.len → All h0 pb pm bm y3 z d' bs RB' pd ro g → g.obj b10 = some (.cells [.int .i64 kd, .int .i64 r.id, .bool r.write, .int .i64 r.block, .int .i64 r.frame, .int .i64 K, .sl sl] false) → Own g s31 1 vs b31 → (∀ i, i < s31.len → ∃ n, vs[i]? = some (.int .u8 n)) →
          I a1 (some ⟨pb, 0⟩) (some ⟨z.pr, 0⟩) (some ⟨pm, 0⟩) (some ⟨z.po, 0⟩) (i : Int) ⟨b10, 0⟩ s31 (k : Int) g := by
        intro m
        induction m with
        | zero =>
          intro k vs g hk' Ag hob Og hv
          refine HI _ _ _ _ _ _ _ _ _ _ ?_
          unfold palisadelaw12_DiskPlays.b25
          exact br_f (by simp; omega) (fin (s' := z.s) Ag E4 hob)
        | succ m ih =>
          intro k vs g hk' Ag hob Og hv
          refine HI _ _ _ _ _ _ _ _ _ _ ?_
          unfold palisadelaw12_DiskPlays.b25
          have hlen := Og.len
          obtain ⟨c, hc⟩ := hv k (by omega)
          refine br_t (by simp; omega) (ix_of (by omega) (by omega) ?_)
          rw [Og.p, der_some, Int.toNat_natCast]
          refine rdI_of (x := c) (by have := Og.held.row _ Og.p (k * 1) _ (by rw [Nat.mul_one]; exact hc); exact this) ?_
          refine ix_of (by omega) (by omega) ?_
          rw [der_some, Int.toNat_natCast]
          show wr ⟨b31, 0 + k * 1⟩ _ _ g
          rw [Nat.zero_add, Nat.mul_one]
          refine own_set Og (by omega) (fun g' O' kg => ?_)
          rw [wrap64]
          have hb1031 : b10 ≠ b31 := fun e => by rw [e, hb31] at ho; cases ho
          have := ih (k + 1) _ g' (by omega) (Ag.keeps kg (fun x e => e ▸ f31) (fun x e => e ▸ m31)) (kg.obj hob hb1031) O' (fun j hj => ?_)
          · simpa using this
          · by_cases e : j = k
            · subst e; exact ⟨_, List.getElem?_set_self (by omega)⟩
            · rw [List.getElem?_set_ne (fun h => e h.symm)]; exact hv j hj
      have := key s31.len 0 _ h4 (by omega) A4 (k4.obj ho3 q10) (O3.keeps k4 q31) (fun j hj => strCells_u8 (by omega))
      simpa using this
    refine rPut_of A3.R (hHh A3) (fun hn q hq => (hne A3 hn q hq).1) (fun hno => ?_) (fun hyes hx' => ?_) (fun hyes hx' h4 R4 k4 => ?_)
    · rw [hhas] at hno
      have e1 : d.putErr K x = 12 := by simp [Dsk.putErr, hno]
      have e2 : d.put K x = d := by unfold Dsk.put; rw [if_neg (by rw [e1]; decide)]
      rw [e2] at A3
      rw [e1]
      exact br_f rfl (loop A3 E (Keeps.refl none_ _) (fun f => f) (fun f => f))
    · rw [hhas] at hyes
      have e1 : d.putErr K x = 2 := by simp [Dsk.putErr, hyes, hx']
      have e2 : d.put K x = d := by unfold Dsk.put; rw [if_neg (by rw [e1]; decide)]
      rw [e2] at A3
      rw [e1]
      exact br_f rfl (loop A3 E (Keeps.refl none_ _) (fun f => f) (fun f => f))
    · rw [hhas] at hyes
      have e1 : d.putErr K x = 0 := by simp [Dsk.putErr, hyes, hx']
      have e2 : d.put K x = { d with blk := fun j => if j = K then x else d.blk j } := by unfold Dsk.put; rw [if_pos e1]
      rw [e2] at A3
      rw [e1]
      have kz : Keeps z.Foot h3 h4 := k4.mono (fun x hx => .inr (.inl hx))
      obtain ⟨A4, kf4, gf4⟩ := A3.stepR R4 kz (Grow.refl _ _)
      refine br_f rfl (loop A4 ?_ k4 (fun e => n10 (.inr (.inr (.inr (.inr (.inl e)))))) (fun e => n31 (.inr (.inr (.inr (.inr (.inl e)))))))
      have := E.put hyes hx' (pd' := d.pend)
      have hpd := E.pd
      subst hpd
      exact this
  · -- the memory is written
    refine loc_I ho rfl (loc_Sl ho rfl ?_)
    obtain ⟨a, ea, a0, a1'⟩ := and3 K
    rw [ea]
    have hpdro := E.ro
    refine A1.P.memput a0 (by omega) (hHh A1) (by omega) (fun hl h2 s2 k2 => ?_) (fun hle h2 s2 k2 => ?_)
    · have A2 := A1.keep0 k2
      have ho2 := hfar k2 (fun f => f)
      unfold palisadelaw12_DiskPlays.j30
      refine loc_I ho2 rfl (loc_Sl ho2 rfl ?_)
      rw [ea]
      refine rMemPut_of A2.R a0 (by omega) (hHh A2) (by omega) (fun hn q hq => (hne A2 hn q hq).2) (fun _ => fin (s' := z.s) A2 E ho2) (fun hle h3 R3 k3 => ?_)
      rw [hpdro] at hle
      exfalso
      simp [Mem.lies] at hl
      omega
    · obtain ⟨A2, kf2, gf2⟩ := A1.stepP s2 (Grow.refl _ _) k2 (fun x hx => .inr hx)
      have ho2 := hfar k2 (fun e => n10 (.inr (.inr (.inl e))))
      unfold palisadelaw12_DiskPlays.j30
      refine loc_I ho2 rfl (loc_Sl ho2 rfl ?_)
      rw [ea]
      refine rMemPut_of A2.R a0 (by omega) (hHh A2) (by omega) (fun hn q hq => (hne A2 hn q hq).2) (fun hl => ?_) (fun hle' h3 R3 k3 => ?_)
      · rw [hpdro] at hl
        exfalso
        simp [Mem.lies] at hl
        omega
      · have kz : Keeps z.Foot h2 h3 := k3.mono (fun x hx => .inr (.inr (.inr (.inl hx))))
        obtain ⟨A3, kf3, gf3⟩ := A2.stepR R3 kz (Grow.refl _ _)
        refine fin (s' := z.s) A3 ⟨E.pd, by rw [E.ro], ?_, E.rb, E.blk⟩ (k3.obj ho2 (fun e => n10 (.inr (.inr (.inr (.inr (.inr (.inr (.inl e)))))))))
        rw [Mem.put_length (by omega)]; exact E.len
  · exact fin (s' := z.s) A1 E ho

end

theorem plays {U : Ifc} (u : DU U) (blocks : Int) (a : Sl) (h0 : Heap) (ha : a.len ≤ 9223372036854775807) (hacts : ∀ i, i < a.len → ActAt h0 a i) (Q : Bool → Heap → Prop) (hQ : ∀ h, Q true h) : palisadelaw12_DiskPlays U blocks a Q h0 := by
  unfold palisadelaw12_DiskPlays
  by_cases hb : 1 ≤ blocks ∧ blocks ≤ 65536
  · obtain ⟨b0, b1⟩ := hb
    refine New_of b0 b1 (fun y h1 R1 hfr k1 => ?_)
    unfold palisaderef12_New
    refine br_f (by simp; omega) (br_f (by simp; omega) ?_)
    have e1 : IntKind.i64.wrap (blocks * 256) = ((blocks.toNat * 256 : Nat) : Int) := by rw [wrap64]; omega
    rw [e1]
    refine mkSl_of (sz := 1) (n := blocks.toNat * 256) rfl (by omega) (by omega) (fun h2 bB OB hbB k2 => al_of (fun pr h3 hpr hopr k3 => ?_))
    refine Mem.New_of (by omega) (by omega) (fun pm bm h4 M hpm hbm k4 => ?_)
    refine rNew_of (by omega) (by omega) (fun po bO h5 M' hpo hbO k5 => ?_)
    obtain ⟨rest, mk, hoB, hrest⟩ := OB.obj
    have hrest : rest = [] := List.length_eq_zero_iff.1 (by rw [hrest]; simp)
    subst hrest
    rw [List.append_nil, flatRep_bytes] at hoB
    have hoB5 := k5.obj (k4.obj (k3.obj hoB (fun f => f)) (fun f => f)) (fun f => f)
    have hopr5 := k5.obj (k4.obj hopr (fun f => f)) (fun f => f)
    have k05 : Keeps none_ h1 h5 := ((k2.trans k3).trans k4).trans k5
    have kh : ∀ {x : Nat}, h1.obj x = none → h0.obj x = none := fun e => Mem.fresh_of k1 e
    obtain ⟨mko, harro⟩ := M'.arr
    have nB : h2.obj bB ≠ none := by rw [hoB]; simp
    have nB3 : h3.obj bB ≠ none := k3.known _ nB
    have npr3 : h3.obj pr ≠ none := by rw [hopr]; simp
    have fpr : h1.obj pr = none := Mem.fresh_of k2 hpr
    have fpm : h1.obj pm = none := Mem.fresh_of (k2.trans k3) hpm
    have fbm : h1.obj bm = none := Mem.fresh_of (k2.trans k3) hbm
    have fpo : h1.obj po = none := Mem.fresh_of ((k2.trans k3).trans k4) hpo
    have fbO : h1.obj bO = none := Mem.fresh_of ((k2.trans k3).trans k4) hbO
    have nf : ∀ {x : Nat}, h1.obj x = none → ¬ y.Foot x := fun e hx => R1.known _ hx e
    have hP : St h0 y.pb pm bm y ⟨blocks, fun _ => zeros, []⟩ (List.replicate (4 * 256 : Int).toNat 0) h5 :=
      ⟨R1.keep0 k05, ⟨b0, b1, by simp, fun _ => by simp [zeros], List.Pairwise.nil, by intro r hr; cases hr⟩, M.keeps k5 (fun f => f) (fun f => f), by simp, rfl, nf fpm, nf fbm, hfr, kh fpm, kh fbm, k1.trans k05⟩
    have ne4 : ∀ {x w : Nat}, h4.obj x ≠ none → h4.obj w = none → x ≠ w := fun hx hw e => hx (e ▸ hw)
    have npr4 := k4.known _ npr3
    have nB4 := k4.known _ nB3
    have hR : RR ⟨pr, bB, po, bO, ⟨none, 0, 0⟩⟩ (List.replicate (blocks.toNat * 256) 0) [] (List.replicate (4 * 256 : Int).toNat 0) h5 := by
      refine ⟨?_, ⟨mk, hoB5⟩, M'.cell, ⟨mko, harro⟩, .inl ⟨rfl, rfl⟩, fun x hx => (by obtain ⟨p, h1, _⟩ := hx; cases h1), fun e => nB (by have e : pr = bB := e; rw [← e]; exact hpr), ne4 npr4 hpo, ne4 npr4 hbO, ne4 nB4 hpo, ne4 nB4 hbO, M'.ne, by simp; omega, by simp, by simp⟩
      have e2 : (List.replicate (blocks.toNat * 256) (0 : UInt8)).length = blocks.toNat * 256 := List.length_replicate
      rw [e2]; exact hopr5
    have hpmk : h4.obj pm ≠ none := M.known1
    have hbmk : h4.obj bm ≠ none := M.known2
    have hA : All h0 y.pb pm bm y ⟨pr, bB, po, bO, ⟨none, 0, 0⟩⟩ ⟨blocks, fun _ => zeros, []⟩ (List.replicate (4 * 256 : Int).toNat 0) (List.replicate (blocks.toNat * 256) 0) [] (List.replicate (4 * 256 : Int).toNat 0) h5 := by
      refine ⟨hP, hR, fun x hx => ?_, fun x hx => ?_⟩
      · rcases hx with rfl | rfl | rfl | rfl | hx
        · exact ⟨nf fpr, fun e => npr3 (e ▸ hpm), fun e => npr3 (e ▸ hbm)⟩
        · exact ⟨nf hbB, fun e => nB3 (e ▸ hpm), fun e => nB3 (e ▸ hbm)⟩
        · exact ⟨nf fpo, fun e => hpmk (e ▸ hpo), fun e => hbmk (e ▸ hpo)⟩
        · exact ⟨nf fbO, fun e => hpmk (e ▸ hbO), fun e => hbmk (e ▸ hbO)⟩
        · obtain ⟨p, h1, _⟩ := hx; cases h1
      · rcases hx with rfl | rfl | rfl | rfl | hx
        · exact kh fpr
        · exact kh hbB
        · exact kh fpo
        · exact kh fbO
        · obtain ⟨p, h1, _⟩ := hx; cases h1
    have hE : Eqv ⟨blocks, fun _ => zeros, []⟩ (List.replicate (4 * 256 : Int).toNat 0) (List.replicate (blocks.toNat * 256) 0) [] (List.replicate (4 * 256 : Int).toNat 0) := by
      refine ⟨rfl, rfl, by simp, by simp, fun j hj => ?_⟩
      have h2 : 0 ≤ j ∧ j < blocks := by simpa [Dsk.has] using hj
      show _ = zeros
      rw [List.drop_replicate, List.take_replicate]
      unfold zeros
      congr 1
      omega
    unfold palisadelaw12_DiskPlays.j5
    refine br_f rfl (br_f rfl (br_f rfl ?_))
    unfold palisadelaw12_names
    refine br_f rfl ?_
    unfold palisadelaw12_DiskPlays.j8
    intro I HI
    have key : ∀ (m i : Nat) (y' : Lay) (s' : Sl) d' bs' RB' pd' ro' (g : Heap), i + m = a.len → All h0 y.pb pm bm y' { (⟨pr, bB, po, bO, ⟨none, 0, 0⟩⟩ : RL) with s := s' } d' bs' RB' pd' ro' g → Eqv d' bs' RB' pd' ro' → I a (some ⟨y.pb, 0⟩) (some ⟨pr, 0⟩) (some ⟨pm, 0⟩) (some ⟨po, 0⟩) (i : Int) g := by
      intro m
      induction m with
      | zero =>
        intro i y' s' d' bs' RB' pd' ro' g hi Ag Eg
        refine HI _ _ _ _ _ _ _ ?_
        unfold palisadelaw12_DiskPlays.b8
        refine br_f (by simp; omega) ?_
        unfold palisadelaw12_DiskPlays.j39
        have hlen := Eg.len
        refine Mem.Bytes_of Ag.P.M (by omega) (by omega) (by omega) (by omega) (fun h => by omega) (fun _ hl => ?_) (fun _ _ _ s8 g2 b8 O8 hl8 hb8 k8 => ?_)
        · simp [Mem.lies, hlen] at hl
        · have A2 := Ag.keep0 k8
          rw [der_some]
          refine loc_Sl A2.R.mcell rfl ?_
          obtain ⟨mk2, ha2⟩ := A2.R.marr
          have hro := Eg.ro
          subst hro
          have e8 : (ro'.drop (0 : Int).toNat).take (1024 : Int).toNat = ro' := by
            show (ro'.drop 0).take 1024 = _
            rw [List.drop_zero, List.take_of_length_le (by omega)]
          rw [e8] at O8
          have Hro : Held g2 ⟨some ⟨bO, 0⟩, ro'.length, ro'.length⟩ 1 (strCells ro') := by
            have := held_arr (m := ro'.length) ha2 (o := 0) (n := ro'.length) (by omega)
            rw [List.drop_zero, List.take_length] at this
            exact this
          refine ⟨cellsS_of O8.held ?_, cellsS_of Hro ?_⟩
          · rw [bytesOf_str]
            refine ⟨⟨(get_cells A2.R.mcell _).trans rfl, trivial⟩, cellsS_of Hro ?_⟩
            rw [bytesOf_str, beq_self_eq_true]
            exact hQ _
          · rw [bytesOf_str]
            refine cellsS_of O8.held ?_
            rw [bytesOf_str, beq_self_eq_true]
            exact hQ _
      | succ m ih =>
        intro i y' s' d' bs' RB' pd' ro' g hi Ag Eg
        refine HI _ _ _ _ _ _ _ ?_
        refine round u (by omega) ha (hacts i (by omega)) Ag Eg (fun y2 s2 d2 bs2 RB2 pd2 ro2 g2 A2 E2 => ?_)
        have := ih (i + 1) y2 s2 d2 bs2 RB2 pd2 ro2 g2 (by omega) A2 E2
        simpa using this
    have := key a.len 0 y ⟨none, 0, 0⟩ _ _ _ _ _ h5 (by omega) hA hE
    simpa using this
  · have hlt : blocks < 1 ∨ blocks > 65536 := by omega
    have both : ∀ h1 : Heap, palisaderef12_New blocks (fun r3 r4 h => mem_New 4 (fun r5 r6 h => palisaderef04_New 4 (fun r7 r8 h => palisadelaw12_DiskPlays.j5 U a none 2 r3 r4 r5 r6 r7 Q h) h) h) h1 := by
      intro h1
      have go : mem_New 4 (fun r5 r6 h => palisaderef04_New 4 (fun r7 r8 h => palisadelaw12_DiskPlays.j5 U a none 2 none 2 r5 r6 r7 Q h) h) h1 := by
        refine Mem.New_of (by omega) (by omega) (fun pm bm h4 M hpm hbm k4 => ?_)
        refine rNew_of (by omega) (by omega) (fun po bO h5 M' hpo hbO k5 => ?_)
        unfold palisadelaw12_DiskPlays.j5
        refine br_f rfl (br_f rfl (br_f rfl ?_))
        unfold palisadelaw12_names
        refine br_f rfl ?_
        unfold palisadelaw12_DiskPlays.j8
        intro I HI
        refine HI _ _ _ _ _ _ _ ?_
        unfold palisadelaw12_DiskPlays.b8
        have last : palisadelaw12_DiskPlays.j39 U (some ⟨pm, 0⟩) (some ⟨po, 0⟩) Q h5 := by
          unfold palisadelaw12_DiskPlays.j39
          have M5 := M.keeps k5 (fun f => f) (fun f => f)
          refine Mem.Bytes_of M5 (by omega) (by omega) (by omega) (by omega) (fun h => by omega) (fun _ hl => ?_) (fun _ _ _ s8 g2 b8 O8 hl8 hb8 k8 => ?_)
          · simp [Mem.lies] at hl
          · have M2 := M'.keeps k8 (fun f => f) (fun f => f)
            rw [der_some]
            refine loc_Sl M2.cell rfl ?_
            obtain ⟨mk2, ha2⟩ := M2.arr
            have e8 : ((List.replicate (4 * 256 : Int).toNat (0 : UInt8)).drop (0 : Int).toNat).take (1024 : Int).toNat = List.replicate (4 * 256 : Int).toNat (0 : UInt8) := by
              show ((List.replicate 1024 (0 : UInt8)).drop 0).take 1024 = _
              rw [List.drop_zero, List.take_of_length_le (by simp)]
              rfl
            rw [e8] at O8
            have Hro := held_arr (m := (List.replicate (4 * 256 : Int).toNat (0 : UInt8)).length) ha2 (o := 0) (n := (List.replicate (4 * 256 : Int).toNat (0 : UInt8)).length) (by omega)
            rw [List.drop_zero, List.take_length] at Hro
            refine ⟨cellsS_of O8.held ?_, cellsS_of Hro ?_⟩
            · rw [bytesOf_str]
              refine ⟨⟨(get_cells M2.cell _).trans rfl, trivial⟩, cellsS_of Hro ?_⟩
              rw [bytesOf_str, beq_self_eq_true]
              exact hQ _
            · rw [bytesOf_str]
              refine cellsS_of O8.held ?_
              rw [bytesOf_str, beq_self_eq_true]
              exact hQ _
        exact br_if (fun _ => br_f rfl last) (fun _ => last)
      unfold palisaderef12_New
      rcases hlt with h | h
      · exact br_t (decide_eq_true h) go
      · exact br_f (decide_eq_false (by omega)) (br_t (decide_eq_true h) go)
    unfold disk_New
    rcases hlt with h | h
    · exact br_t (decide_eq_true h) (both h0)
    · exact br_f (decide_eq_false (by omega)) (br_t (decide_eq_true h) (both h0))

end Go.Disk

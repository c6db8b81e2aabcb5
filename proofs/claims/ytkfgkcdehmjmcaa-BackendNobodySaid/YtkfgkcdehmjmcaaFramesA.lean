/- Frames: who has which. -/
import Derived.Test.YtkfgkcdehmjmcaaStKit
import Derived.Test.YtkfgkcdehmjmcaaMapEnt
import Derived.Test.YtkfgkcdehmjmcaaMemSt
set_option linter.unusedSimpArgs false
set_option linter.unusedVariables false
set_option maxRecDepth 100000
namespace Go.Frames
open Go.Lift Go.Fn Go.Mem

structure FS where
  n : Int
  first : Int
  low : Int
  own : List Int
  quo : List Int
  t : List (Int × V)
  w : List (Int × V)

def FS.cells (F : FS) (tm wm : Nat) : List V :=
  [.int .i64 F.n, .int .i64 F.first, .map (some tm), .map (some wm)] ++ (F.own.map (V.int .i64) ++ (F.quo.map (V.int .i64) ++ [.int .i64 F.low]))

structure Rep (fb tm wm : Nat) (F : FS) (h : Heap) : Prop where
  cell : h.obj fb = some (.cells (F.cells tm wm) false)
  t : MapAt h tm .i64 F.t
  w : MapAt h wm .i64 F.w
  ne : tm ≠ wm
  own : F.own.length = 17
  quo : F.quo.length = 17

def three (a b c : Nat) : Nat → Prop := fun x => x = a ∨ x = b ∨ x = c

section
variable {fb tm wm : Nat} {F : FS} {h : Heap}

theorem asI_eq {k : IntKind} {x : Int} {r : V} {κ : Int → Prop} (e : r = .int k x) (h : κ x) : asI k r κ := by subst e; exact asI_of h

theorem cells_own {i : Nat} (hl : F.own.length = 17) (hi : i < 17) : (F.cells tm wm)[4 + i]? = some (.int .i64 (F.own.getD i 0)) := by
  unfold FS.cells
  rw [List.getElem?_append_right (by simp), List.getElem?_append_left (by simp; omega)]
  simp only [List.length_cons, List.length_nil, List.getElem?_map]
  rw [show 4 + i - (0 + 1 + 1 + 1 + 1) = i by omega, List.getElem?_eq_getElem (by omega)]
  simp [List.getD, List.getElem?_eq_getElem (show i < F.own.length by omega)]

theorem cells_quo {i : Nat} (hl : F.own.length = 17) (hq : F.quo.length = 17) (hi : i < 17) : (F.cells tm wm)[21 + i]? = some (.int .i64 (F.quo.getD i 0)) := by
  unfold FS.cells
  rw [List.getElem?_append_right (by simp; omega), List.getElem?_append_right (by simp; omega), List.getElem?_append_left (by simp; omega)]
  simp only [List.length_cons, List.length_nil, List.length_map, List.getElem?_map]
  rw [show 21 + i - (0 + 1 + 1 + 1 + 1) - F.own.length = i by omega, List.getElem?_eq_getElem (by omega)]
  simp [List.getD, List.getElem?_eq_getElem (show i < F.quo.length by omega)]

theorem cells_low (hl : F.own.length = 17) (hq : F.quo.length = 17) : (F.cells tm wm)[38]? = some (.int .i64 F.low) := by
  unfold FS.cells
  rw [List.getElem?_append_right (by simp), List.getElem?_append_right (by simp; omega), List.getElem?_append_right (by simp; omega)]
  simp only [List.length_cons, List.length_nil, List.length_map]
  rw [show 38 - (0 + 1 + 1 + 1 + 1) - F.own.length - F.quo.length = 0 by omega]
  rfl

theorem set_own {i : Nat} {v : Int} (hl : F.own.length = 17) (hi : i < 17) : (F.cells tm wm).set (4 + i) (.int .i64 v) = FS.cells { F with own := F.own.set i v } tm wm := by
  unfold FS.cells
  rw [List.set_append_right _ _ (by simp), List.set_append_left _ _ (by simp; omega)]
  simp only [List.length_cons, List.length_nil]
  rw [show 4 + i - (0 + 1 + 1 + 1 + 1) = i by omega, List.map_set]

theorem set_low {v : Int} (hl : F.own.length = 17) (hq : F.quo.length = 17) : (F.cells tm wm).set 38 (.int .i64 v) = FS.cells { F with low := v } tm wm := by
  unfold FS.cells
  rw [List.set_append_right _ _ (by simp), List.set_append_right _ _ (by simp; omega), List.set_append_right _ _ (by simp; omega)]
  simp only [List.length_cons, List.length_nil, List.length_map]
  rw [show 38 - (0 + 1 + 1 + 1 + 1) - F.own.length - F.quo.length = 0 by omega]
  rfl

theorem Rep.ft (R : Rep fb tm wm F h) : tm ≠ fb := R.t.cells R.cell
theorem Rep.fw (R : Rep fb tm wm F h) : wm ≠ fb := R.w.cells R.cell
theorem Rep.keeps {S : Nat → Prop} {h' : Heap} (R : Rep fb tm wm F h) (k : Keeps S h h') (h1 : ¬ S fb) (h2 : ¬ S tm) (h3 : ¬ S wm) : Rep fb tm wm F h' :=
  ⟨k.obj R.cell h1, R.t.keeps k h2, R.w.keeps k h3, R.ne, R.own, R.quo⟩
theorem Rep.keep0 {h' : Heap} (R : Rep fb tm wm F h) (k : Keeps none_ h h') : Rep fb tm wm F h' := R.keeps k (fun f => f) (fun f => f) (fun f => f)

theorem Rep.low {h' : Heap} {v : Int} (R : Rep fb tm wm F h) (ho : h'.obj fb = some (.cells ((F.cells tm wm).set 38 (.int .i64 v)) false)) (k : Keeps (· = fb) h h') : Rep fb tm wm { F with low := v } h' :=
  ⟨by rw [ho, set_low R.own R.quo], R.t.keeps k R.ft, R.w.keeps k R.fw, R.ne, R.own, R.quo⟩

theorem Rep.ownSet {h' : Heap} {i : Nat} {v : Int} (R : Rep fb tm wm F h) (hi : i < 17) (ho : h'.obj fb = some (.cells ((F.cells tm wm).set (4 + i) (.int .i64 v)) false)) (k : Keeps (· = fb) h h') : Rep fb tm wm { F with own := F.own.set i v } h' :=
  ⟨by rw [ho, set_own R.own hi], R.t.keeps k R.ft, R.w.keeps k R.fw, R.ne, by simp [R.own], R.quo⟩

theorem rlow {κ : Int → Prop} (R : Rep fb tm wm F h) (hk : κ F.low) : rdI .i64 ((⟨fb, 0⟩ : Ptr).add 38) κ h :=
  rdI_of ((get_cells R.cell _).trans (by simp only [Ptr.add, Nat.zero_add]; exact cells_low R.own R.quo)) hk
theorem rn {κ : Int → Prop} (R : Rep fb tm wm F h) (hk : κ F.n) : rdI .i64 ((⟨fb, 0⟩ : Ptr).add 0) κ h := rdI_of ((get_cells R.cell _).trans rfl) hk
theorem rfirst {κ : Int → Prop} (R : Rep fb tm wm F h) (hk : κ F.first) : rdI .i64 ((⟨fb, 0⟩ : Ptr).add 1) κ h := rdI_of ((get_cells R.cell _).trans rfl) hk
theorem rt {κ : Option Nat → Prop} (R : Rep fb tm wm F h) (hk : κ (some tm)) : rdM ((⟨fb, 0⟩ : Ptr).add 2) κ h := rdM_of ((get_cells R.cell _).trans rfl) hk
theorem rw_ {κ : Option Nat → Prop} (R : Rep fb tm wm F h) (hk : κ (some wm)) : rdM ((⟨fb, 0⟩ : Ptr).add 3) κ h := rdM_of ((get_cells R.cell _).trans rfl) hk
theorem rown {o : Nat} {κ : Int → Prop} (R : Rep fb tm wm F h) (ho : o < 17) (hk : κ (F.own.getD o 0)) : rdI .i64 (((⟨fb, 0⟩ : Ptr).add 4).add (o * 1)) κ h :=
  rdI_of ((get_cells R.cell _).trans (by simp only [Ptr.add, Nat.zero_add, Nat.mul_one]; exact cells_own R.own ho)) hk
theorem rquo {o : Nat} {κ : Int → Prop} (R : Rep fb tm wm F h) (ho : o < 17) (hk : κ (F.quo.getD o 0)) : rdI .i64 (((⟨fb, 0⟩ : Ptr).add 21).add (o * 1)) κ h :=
  rdI_of ((get_cells R.cell _).trans (by simp only [Ptr.add, Nat.zero_add, Nat.mul_one]; exact cells_quo R.own R.quo ho)) hk

theorem none_of_ {Q : Bool → Heap → Prop} (R : Rep fb tm wm F h) (hq : Q false h) : frames_Frames_none (some ⟨fb, 0⟩) Q h := by
  unfold frames_Frames_none
  exact br_f rfl (rt R hq)

/-- One owner is right. -/
theorem owned1 {s : Sl} {b : Nat} {o : Int} (R : Rep fb tm wm F h) (hs : s = ⟨some ⟨b, 0⟩, 1, 1⟩) (hb : h.obj b = some (.cells [.int .i64 o] false)) (ho : 0 ≤ o ∧ o < 17) {Q : Int → Heap → Prop} (hq : Q 0 h) : frames_Frames_owned (some ⟨fb, 0⟩) s Q h := by
  subst hs
  unfold frames_Frames_owned
  refine none_of_ R (br_f rfl ?_)
  unfold frames_Frames_owned.j4
  intro I HI
  refine HI _ _ _ _ ?_
  unfold frames_Frames_owned.b4 frames_isOwner
  refine br_t rfl (ix_of (by omega) (by show (0 : Int) < ((1 : Nat) : Int); decide) ?_)
  rw [der_some]
  refine rdI_of ((get_cells hb _).trans rfl) (br_t (by simp; omega) (br_f (by simp; omega) ?_))
  refine HI _ _ _ _ ?_
  unfold frames_Frames_owned.b4
  exact br_f rfl hq

theorem Alloc_of (R : Rep fb tm wm F h) {o : Nat} (ho : o < 17) {d : Int} (h0 : 0 ≤ F.low) (hd : F.low ≤ d ∧ d < F.n) (hn : F.n ≤ 65536) (hown : 0 ≤ F.own.getD o 0) (hquo : F.own.getD o 0 < F.quo.getD o 0) (hq16 : F.quo.getD o 0 ≤ 65536)
    (used : ∀ x, F.low ≤ x → x < d → ∃ v, ifind x F.t = some (.int .i64 v) ∧ v > 0) (free : ifind d F.t = none) (wfree : ifind d F.w = none) {Q : Int → Int → Heap → Prop}
    (hQ : ∀ h', Rep fb tm wm { F with low := d, own := F.own.set o (F.own.getD o 0 + 1), t := iput d (.int .i64 1) F.t, w := iput d (.int .i64 o) F.w } h' → Keeps (three fb tm wm) h h' → Q d 0 h') {a2 : Int} (ea : a2 = (o : Int)) :
    frames_Frames_Alloc (some ⟨fb, 0⟩) a2 Q h := by
  subst ea
  unfold frames_Frames_Alloc
  refine al_of (fun b g hb ho1 k1 => ?_)
  have R1 := R.keep0 k1
  refine owned1 R1 rfl ho1 (by omega) (br_f rfl ?_)
  rw [der_some]
  refine ix_of (by omega) (by omega) ?_
  rw [Int.toNat_natCast]
  refine rown R1 ho ?_
  rw [der_some]
  refine ix_of (by omega) (by omega) ?_
  rw [Int.toNat_natCast]
  refine rquo R1 ho (br_f (decide_eq_false (by omega)) ?_)
  unfold frames_Frames_Alloc.j6
  intro I HI
  have fin : ∀ g, Rep fb tm wm { F with low := d } g → Keeps (three fb tm wm) h g → frames_Frames_Alloc.j8 (some ⟨fb, 0⟩) (o : Int) Q g := by
    intro g Rg kg
    unfold frames_Frames_Alloc.j8
    rw [der_some]
    refine rlow Rg ?_
    rw [der_some]
    refine rn Rg (br_f (by simp; omega) ?_)
    rw [der_some]
    refine rt Rg ?_
    rw [der_some]
    refine rlow Rg ?_
    rw [der_some]
    refine rw_ Rg ?_
    rw [der_some]
    refine rlow Rg ?_
    have Mt := Rg.t
    have Mw := Rg.w
    refine mapEnt_of Mt (fun b1 g1 M1 E1 k1 => ?_)
    refine asI_eq (x := 0) (by show (ifind d F.t).getD _ = _; rw [free]; rfl) (entPut_of M1 E1 (by rw [ifind_iput, if_pos rfl]; simp) (fun g2 M2 k2 => ?_))
    rw [iput_iput] at M2
    have k12 := k1.trans k2
    refine mapEnt_of (Mw.keeps k12 (fun e => Rg.ne e.symm)) (fun b3 g3 M3 E3 k3 => ?_)
    refine asI_eq (x := 0) (by show (ifind d F.w).getD _ = _; rw [wfree]; rfl) (entPut_of M3 E3 (by rw [ifind_iput, if_pos rfl]; simp) (fun g4 M4 k4 => ?_))
    rw [iput_iput] at M4
    have k34 := k3.trans k4
    have R4 : Rep fb tm wm { F with low := d, t := iput d (.int .i64 1) F.t, w := iput d (.int .i64 (o : Int)) F.w } g4 :=
      ⟨k34.obj (k12.obj Rg.cell (fun e => Rg.ft e.symm)) (fun e => Rg.fw e.symm), M2.keeps k34 Rg.ne, M4, Rg.ne, Rg.own, Rg.quo⟩
    have K4 : Keeps (three fb tm wm) h g4 := (kg.trans (k12.mono (fun x e => .inr (.inl e)))).trans (k34.mono (fun x e => .inr (.inr e)))
    unfold frames_Frames_Alloc.j11
    rw [der_some]
    refine ix_of (by omega) (by omega) ?_
    rw [Int.toNat_natCast]
    refine rown R4 ho ?_
    rw [der_some]
    refine ix_of (by omega) (by omega) ?_
    rw [Int.toNat_natCast]
    have e4 : (((⟨fb, 0⟩ : Ptr).add 4).add (o * 1)) = ⟨fb, 4 + o⟩ := by simp [Ptr.add]
    rw [e4]
    refine wr_M R4.cell (cells_own R4.own ho) (fun g5 ho5 k5 => ?_)
    have ew : IntKind.i64.wrap (F.own.getD o 0 + 1) = F.own.getD o 0 + 1 := wrap64
    have ho5' : g5.obj fb = some (.cells ((FS.cells { F with low := d, t := iput d (.int .i64 1) F.t, w := iput d (.int .i64 (o : Int)) F.w } tm wm).set (4 + o) (.int .i64 (F.own.getD o 0 + 1))) false) := by rw [← ew]; exact ho5
    have R5 := R4.ownSet ho ho5' k5
    rw [der_some]
    refine rlow R5 ?_
    exact hQ g5 R5 (K4.trans (k5.mono (fun x e => .inl e)))
  have key : ∀ (j : Nat) (x : Int) (g : Heap), x + j = d → F.low ≤ x → Rep fb tm wm { F with low := x } g → Keeps (three fb tm wm) h g → I (some ⟨fb, 0⟩) (o : Int) g := by
    intro j
    induction j with
    | zero =>
      intro x g hx hl Rg kg
      have : x = d := by omega
      subst this
      refine HI _ _ _ ?_
      unfold frames_Frames_Alloc.b6
      rw [der_some]
      refine rlow Rg ?_
      rw [der_some]
      refine rn Rg (br_t (by simp; omega) ?_)
      rw [der_some]
      refine rt Rg ?_
      rw [der_some]
      refine rlow Rg (mapGet_of Rg.t ?_)
      exact asI_eq (x := 0) (by show (ifind x F.t).getD _ = _; rw [free]; rfl) (br_f rfl (fin g Rg kg))
    | succ j ih =>
      intro x g hx hl Rg kg
      obtain ⟨v, hv, hv0⟩ := used x hl (by omega)
      refine HI _ _ _ ?_
      unfold frames_Frames_Alloc.b6
      rw [der_some]
      refine rlow Rg ?_
      rw [der_some]
      refine rn Rg (br_t (by simp; omega) ?_)
      rw [der_some]
      refine rt Rg ?_
      rw [der_some]
      refine rlow Rg (mapGet_of Rg.t ?_)
      refine asI_eq (x := v) (by show (ifind x F.t).getD _ = _; rw [hv]; rfl) (br_t (by simpa using hv0) ?_)
      rw [der_some]
      refine rlow Rg ?_
      rw [der_some]
      have e4 : ((⟨fb, 0⟩ : Ptr).add 38) = ⟨fb, 38⟩ := rfl
      rw [e4]
      refine wr_M Rg.cell (cells_low Rg.own Rg.quo) (fun g1 ho1 k1 => ?_)
      have ew : IntKind.i64.wrap (x + 1) = x + 1 := wrap64
      have R1 := Rg.low (v := x + 1) (by rw [ho1, ew]) k1
      exact ih (x + 1) g1 (by omega) (by omega) R1 (kg.trans (k1.mono (fun y e => .inl e)))
  exact key (d - F.low).toNat F.low g (by omega) (Int.le_refl _) R1 (k1.mono (fun _ f => f.elim))

theorem Keeps.fresh {S : Nat → Prop} {a b : Heap} (k : Keeps S a b) (hs : ∀ x, S x → a.obj x = none) : Keeps none_ a b :=
  ⟨fun x hx _ => k.same x hx (fun s => hx (hs x s)), k.known⟩

theorem set_quo {i : Nat} {v : Int} (hl : F.own.length = 17) (hq : F.quo.length = 17) (hi : i < 17) : (F.cells tm wm).set (21 + i) (.int .i64 v) = FS.cells { F with quo := F.quo.set i v } tm wm := by
  unfold FS.cells
  rw [List.set_append_right _ _ (by simp; omega), List.set_append_right _ _ (by simp; omega), List.set_append_left _ _ (by simp; omega)]
  simp only [List.length_cons, List.length_nil, List.length_map]
  rw [show 21 + i - (0 + 1 + 1 + 1 + 1) - F.own.length = i by omega, List.map_set]

theorem Rep.quoSet {h' : Heap} {i : Nat} {v : Int} (R : Rep fb tm wm F h) (hi : i < 17) (ho : h'.obj fb = some (.cells ((F.cells tm wm).set (21 + i) (.int .i64 v)) false)) (k : Keeps (· = fb) h h') : Rep fb tm wm { F with quo := F.quo.set i v } h' :=
  ⟨by rw [ho, set_quo R.own R.quo hi], R.t.keeps k R.ft, R.w.keeps k R.fw, R.ne, R.own, by simp [R.quo]⟩

def tfill : Nat → List (Int × V)
  | 0 => []
  | k + 1 => iput (k : Int) (.int .i64 1) (tfill k)

theorem ifind_tfill {x : Int} : ∀ k : Nat, ifind x (tfill k) = if 0 ≤ x ∧ x < k then some (.int .i64 1) else none
  | 0 => by rw [if_neg (by omega)]; rfl
  | k + 1 => by
    unfold tfill
    rw [ifind_iput, ifind_tfill k]
    by_cases e : x = k
    · rw [if_pos e, if_pos (by omega)]
    · rw [if_neg e]
      by_cases e2 : 0 ≤ x ∧ x < k
      · rw [if_pos e2, if_pos (by omega)]
      · rw [if_neg e2, if_neg (by omega)]

def qfill (n : Int) (i : Nat) : List Int := List.replicate i n ++ List.replicate (17 - i) 0
theorem qfill_set {n : Int} {i : Nat} (hi : i < 17) : (qfill n i).set i n = qfill n (i + 1) := by
  unfold qfill
  rw [List.set_append_right _ _ (by simp), List.length_replicate, Nat.sub_self]
  obtain ⟨m, hm⟩ : ∃ m, 17 - i = m + 1 := ⟨16 - i, by omega⟩
  rw [hm, show 17 - (i + 1) = m by omega, List.replicate_succ, List.set_cons_zero, List.replicate_succ', List.append_assoc]
  rfl

theorem New_of {n first : Int} (h1 : 1 ≤ n) (h2 : n ≤ 65536) (hf : 0 ≤ first ∧ first ≤ n) {Q : Option Ptr → Int → Heap → Prop}
    (hq : ∀ fb tm wm h', Rep fb tm wm ⟨n, first, first, first :: List.replicate 16 0, List.replicate 17 n, tfill first.toNat, []⟩ h' → h.obj fb = none → h.obj tm = none → h.obj wm = none → Keeps none_ h h' → Q (some ⟨fb, 0⟩) 0 h') : frames_New n first Q h := by
  unfold frames_New
  refine br_f (decide_eq_false (by omega)) (br_f (decide_eq_false (by omega)) (br_f (decide_eq_false (by omega)) (br_f (decide_eq_false (by omega)) ?_)))
  refine alM_of (fun tm ga ht Mt ka => alM_of (fun wm gb hw Mw kb => ⟨rfl, al_of (fun fb gc hfb hoc kc => ?_)⟩))
  have hwa : h.obj wm = none := fresh_of ka hw
  have hfa : h.obj fb = none := fresh_of (ka.trans kb) hfb
  have R0 : Rep fb tm wm ⟨n, first, first, List.replicate 17 0, List.replicate 17 0, tfill 0, []⟩ gc :=
    ⟨by rw [hoc]; rfl, (Mt.keeps kb (fun f => f)).keeps kc (fun f => f), Mw.keeps kc (fun f => f), fun e => Mt.known (e ▸ hw), rfl, rfl⟩
  have K0 : Keeps (three fb tm wm) h gc := ((ka.trans kb).trans kc).mono (fun _ f => f.elim)
  clear hoc Mt Mw
  have fin : ∀ g F, Rep fb tm wm F g → F = ⟨n, first, first, first :: List.replicate 16 0, List.replicate 17 n, tfill first.toNat, []⟩ → Keeps (three fb tm wm) h g → Q (some ⟨fb, 0⟩) 0 g := by
    rintro g F Rg rfl kg
    refine hq fb tm wm g Rg hfa ht hwa (Keeps.fresh kg (fun x hx => ?_))
    rcases hx with rfl | rfl | rfl <;> assumption
  have quotas : ∀ g, Rep fb tm wm ⟨n, first, first, first :: List.replicate 16 0, List.replicate 17 0, tfill first.toNat, []⟩ g → Keeps (three fb tm wm) h g → frames_New.j11 n ⟨fb, 0⟩ 0 Q g := by
    intro g Rg kg
    unfold frames_New.j11
    intro I HI
    have key : ∀ (j i : Nat) (g : Heap), i + j = 17 → Rep fb tm wm ⟨n, first, first, first :: List.replicate 16 0, qfill n i, tfill first.toNat, []⟩ g → Keeps (three fb tm wm) h g → I n ⟨fb, 0⟩ (i : Int) g := by
      intro j
      induction j with
      | zero =>
        intro i g hi Rg kg
        obtain rfl : i = 17 := by omega
        refine HI _ _ _ _ ?_
        unfold frames_New.b11
        exact br_f rfl (fin g _ Rg (by simp [qfill]) kg)
      | succ j ih =>
        intro i g hi Rg kg
        refine HI _ _ _ _ ?_
        unfold frames_New.b11
        refine br_t (decide_eq_true (by omega)) (ix_of (by omega) (by omega) ?_)
        rw [Int.toNat_natCast]
        have e4 : (((⟨fb, 0⟩ : Ptr).add 21).add (i * 1)) = ⟨fb, 21 + i⟩ := by simp [Ptr.add]
        rw [e4]
        refine wr_M Rg.cell (cells_quo Rg.own Rg.quo (by omega)) (fun g1 ho1 k1 => ?_)
        have R1 := Rg.quoSet (by omega) ho1 k1
        simp only [qfill_set (show i < 17 by omega)] at R1
        rw [wrap64]
        have := ih (i + 1) g1 (by omega) R1 (kg.trans (k1.mono (fun x e => .inl e)))
        simpa using this
    exact key 17 0 g rfl Rg kg
  unfold frames_New.j4 frames_New.j5
  intro I HI
  have key : ∀ (j i : Nat) (g : Heap), (i : Int) + j = first → Rep fb tm wm ⟨n, first, first, List.replicate 17 0, List.replicate 17 0, tfill i, []⟩ g → Keeps (three fb tm wm) h g → I n first ⟨fb, 0⟩ first (i : Int) g := by
    intro j
    induction j with
    | zero =>
      intro i g hi Rg kg
      refine HI _ _ _ _ _ _ ?_
      unfold frames_New.b5
      refine br_f (decide_eq_false (by omega)) (ix_of (by decide) (by decide) ?_)
      have e4 : (((⟨fb, 0⟩ : Ptr).add 4).add ((0 : Int).toNat * 1)) = ⟨fb, 4 + 0⟩ := rfl
      rw [e4]
      refine wr_M Rg.cell (cells_own (i := 0) Rg.own (by omega)) (fun g1 ho1 k1 => ?_)
      have R1 := Rg.ownSet (by omega) ho1 k1
      have ei : first.toNat = i := by omega
      exact quotas g1 (by rw [ei]; exact R1) (kg.trans (k1.mono (fun x e => .inl e)))
    | succ j ih =>
      intro i g hi Rg kg
      refine HI _ _ _ _ _ _ ?_
      unfold frames_New.b5
      refine br_t (decide_eq_true (by omega)) (rt Rg (mapPut_of Rg.t (fun g1 M1 k1 => ?_)))
      rw [wrap64]
      have R1 : Rep fb tm wm ⟨n, first, first, List.replicate 17 0, List.replicate 17 0, tfill (i + 1), []⟩ g1 :=
        ⟨k1.obj Rg.cell (fun e => Rg.ft e.symm), M1, Rg.w.keeps k1 (fun e => Rg.ne e.symm), Rg.ne, rfl, rfl⟩
      have := ih (i + 1) g1 (by omega) R1 (kg.trans (k1.mono (fun x e => .inr (.inl e))))
      simpa using this
  exact key first.toNat 0 gc (by omega) R0 K0

end
end Go.Frames

import Derived.Test.YtmpjgafkdhineaaDoorKa

set_option linter.unusedSimpArgs false
set_option linter.unusedVariables false
set_option maxRecDepth 100000

/- A place of a map, taken ahead by an assignment. -/
namespace Go.Lift

theorem iput_iput {a : Int} {u v : V} : ∀ l : List (Int × V), iput a v (iput a u l) = iput a v l
  | [] => by simp [iput]
  | (a', v') :: l => by
    simp only [iput]
    by_cases e : a = a'
    · simp [e, iput]
    · simp [e, iput, iput_iput l]

theorem mset_ikeys {k : IntKind} {a : Int} {v : V} : ∀ l : List (Int × V), ifind a l ≠ none → mset (.int k a) v (ikeys k l) = ikeys k (iput a v l)
  | [], h => absurd rfl h
  | (a', v') :: l, h => by
    simp only [ifind] at h
    by_cases e : a = a'
    · subst e; simp [ikeys, mset, keq, iput]
    · rw [if_neg e] at h
      have ih := mset_ikeys (k := k) (v := v) l h
      simp only [ikeys, List.map_cons, mset, keq, beq_eq_false_iff_ne.2 e, cond_false, iput, if_neg e]
      simpa [ikeys] using ih

/-- The stamp of a key's entry. -/
def EntAt (h : Heap) (m : Nat) (k : IntKind) (a b : Int) : Prop :=
  ∃ es bs c, ∃ n : Nat, h.obj m = some (.map (.int k) es bs c) ∧ bfind (.int k a) es bs = some n ∧ (n : Int) = b

section
variable {h : Heap} {m : Nat} {k : IntKind} {l : List (Int × V)}

theorem mapEnt_of {a : Int} {z : V} {κ : V → Int → Heap → Prop} (M : MapAt h m k l) (hk : ∀ b h', MapAt h' m k (iput a ((ifind a l).getD z) l) → EntAt h' m k a b → Keeps (· = m) h h' → κ ((ifind a l).getD z) b h') : mapEnt (.int k) (some m) (.int k a) z κ h := by
  obtain ⟨bs, c, ho, h1, h2, h3⟩ := M
  refine ⟨_, bs, c, ho, fun b hb => ?_⟩
  rw [mfind_ikeys] at hb ⊢
  refine hk b _ ?_ ?_ (Keeps.setO ho)
  · unfold putO
    rw [mfind_ikeys]
    cases hf : ifind a l with
    | some w => exact ⟨bs, c, by simp [Heap.setO, mput_ikeys], h1, h2, by rw [iput_length, if_neg (by rw [hf]; simp)]; exact h3⟩
    | none =>
      refine ⟨bs ++ [c], c + 1, by simp [Heap.setO, mput_ikeys], ?_, ?_, by rw [iput_length, if_pos hf]; simp [h3]⟩
      · rw [List.nodup_append]
        exact ⟨h1, by simp, fun x hx y hy => by simp at hy; subst hy; have := h2 x hx; omega⟩
      · intro b hb
        rcases List.mem_append.1 hb with hb | hb
        · have := h2 b hb; omega
        · simp at hb; omega
  · generalize hp : putO (.int k) (ikeys k l) bs c (.int k a) ((ifind a l).getD z) = o at *
    cases o with
    | map ks es bs' c' =>
      have : ks = .int k := by
        unfold putO at hp
        rw [mfind_ikeys] at hp
        cases hf : ifind a l <;> rw [hf] at hp <;> cases hp <;> rfl
      subst this
      exact ⟨es, bs', c', b, by simp [Heap.setO], hb, rfl⟩
    | _ => cases hb

theorem entPut_of {a b : Int} {v : V} {κ : Heap → Prop} (M : MapAt h m k l) (E : EntAt h m k a b) (hf : ifind a l ≠ none) (hk : ∀ h', MapAt h' m k (iput a v l) → Keeps (· = m) h h' → κ h') : entPut (some m) b v κ h := by
  obtain ⟨bs, c, ho, h1, h2, h3⟩ := M
  obtain ⟨es, bs', c', n, ho', hb, hn⟩ := E
  rw [ho] at ho'
  cases ho'
  refine ⟨_, _, _, _, _, n, ho, hb, hn, hk _ ⟨bs, c, by simp [Heap.setO, mset_ikeys l hf], h1, h2, by rw [iput_length, if_neg hf]; exact h3⟩ (Keeps.setO ho)⟩

end
end Go.Lift

/- Frames: who has which. -/
namespace Go.Frames
open Go.Lift Go.Fn Go.Mem

structure FS where
  n : Int
  first : Int
  low : Int
  own : List Int
  quo : List Int
  t : List (Int × V)
  w : List (Int × V)

def FS.cells (F : FS) (tm wm : Nat) : List V :=
  [.int .i64 F.n, .int .i64 F.first, .map (some tm), .map (some wm)] ++ (F.own.map (V.int .i64) ++ (F.quo.map (V.int .i64) ++ [.int .i64 F.low]))

structure Rep (fb tm wm : Nat) (F : FS) (h : Heap) : Prop where
  cell : h.obj fb = some (.cells (F.cells tm wm) false)
  t : MapAt h tm .i64 F.t
  w : MapAt h wm .i64 F.w
  ne : tm ≠ wm
  own : F.own.length = 17
  quo : F.quo.length = 17

def three (a b c : Nat) : Nat → Prop := fun x => x = a ∨ x = b ∨ x = c

section
variable {fb tm wm : Nat} {F : FS} {h : Heap}

theorem asI_eq {k : IntKind} {x : Int} {r : V} {κ : Int → Prop} (e : r = .int k x) (h : κ x) : asI k r κ := by subst e; exact asI_of h

theorem cells_own {i : Nat} (hl : F.own.length = 17) (hi : i < 17) : (F.cells tm wm)[4 + i]? = some (.int .i64 (F.own.getD i 0)) := by
  unfold FS.cells
  rw [List.getElem?_append_right (by simp), List.getElem?_append_left (by simp; omega)]
  simp only [List.length_cons, List.length_nil, List.getElem?_map]
  rw [show 4 + i - (0 + 1 + 1 + 1 + 1) = i by omega, List.getElem?_eq_getElem (by omega)]
  simp [List.getD, List.getElem?_eq_getElem (show i < F.own.length by omega)]

theorem cells_quo {i : Nat} (hl : F.own.length = 17) (hq : F.quo.length = 17) (hi : i < 17) : (F.cells tm wm)[21 + i]? = some (.int .i64 (F.quo.getD i 0)) := by
  unfold FS.cells
  rw [List.getElem?_append_right (by simp; omega), List.getElem?_append_right (by simp; omega), List.getElem?_append_left (by simp; omega)]
  simp only [List.length_cons, List.length_nil, List.length_map, List.getElem?_map]
  rw [show 21 + i - (0 + 1 + 1 + 1 + 1) - F.own.length = i by omega, List.getElem?_eq_getElem (by omega)]
  simp [List.getD, List.getElem?_eq_getElem (show i < F.quo.length by omega)]

theorem cells_low (hl : F.own.length = 17) (hq : F.quo.length = 17) : (F.cells tm wm)[38]? = some (.int .i64 F.low) := by
  unfold FS.cells
  rw [List.getElem?_append_right (by simp), List.getElem?_append_right (by simp; omega), List.getElem?_append_right (by simp; omega)]
  simp only [List.length_cons, List.length_nil, List.length_map]
  rw [show 38 - (0 + 1 + 1 + 1 + 1) - F.own.length - F.quo.length = 0 by omega]
  rfl

theorem set_own {i : Nat} {v : Int} (hl : F.own.length = 17) (hi : i < 17) : (F.cells tm wm).set (4 + i) (.int .i64 v) = FS.cells { F with own := F.own.set i v } tm wm := by
  unfold FS.cells
  rw [List.set_append_right _ _ (by simp), List.set_append_left _ _ (by simp; omega)]
  simp only [List.length_cons, List.length_nil]
  rw [show 4 + i - (0 + 1 + 1 + 1 + 1) = i by omega, List.map_set]

theorem set_low {v : Int} (hl : F.own.length = 17) (hq : F.quo.length = 17) : (F.cells tm wm).set 38 (.int .i64 v) = FS.cells { F with low := v } tm wm := by
  unfold FS.cells
  rw [List.set_append_right _ _ (by simp), List.set_append_right _ _ (by simp; omega), List.set_append_right _ _ (by simp; omega)]
  simp only [List.length_cons, List.length_nil, List.length_map]
  rw [show 38 - (0 + 1 + 1 + 1 + 1) - F.own.length - F.quo.length = 0 by omega]
  rfl

theorem Rep.ft (R : Rep fb tm wm F h) : tm ≠ fb := R.t.cells R.cell
theorem Rep.fw (R : Rep fb tm wm F h) : wm ≠ fb := R.w.cells R.cell
theorem Rep.keeps {S : Nat → Prop} {h' : Heap} (R : Rep fb tm wm F h) (k : Keeps S h h') (h1 : ¬ S fb) (h2 : ¬ S tm) (h3 : ¬ S wm) : Rep fb tm wm F h' :=
  ⟨k.obj R.cell h1, R.t.keeps k h2, R.w.keeps k h3, R.ne, R.own, R.quo⟩
theorem Rep.keep0 {h' : Heap} (R : Rep fb tm wm F h) (k : Keeps none_ h h') : Rep fb tm wm F h' := R.keeps k (fun f => f) (fun f => f) (fun f => f)

theorem Rep.low {h' : Heap} {v : Int} (R : Rep fb tm wm F h) (ho : h'.obj fb = some (.cells ((F.cells tm wm).set 38 (.int .i64 v)) false)) (k : Keeps (· = fb) h h') : Rep fb tm wm { F with low := v } h' :=
  ⟨by rw [ho, set_low R.own R.quo], R.t.keeps k R.ft, R.w.keeps k R.fw, R.ne, R.own, R.quo⟩

theorem Rep.ownSet {h' : Heap} {i : Nat} {v : Int} (R : Rep fb tm wm F h) (hi : i < 17) (ho : h'.obj fb = some (.cells ((F.cells tm wm).set (4 + i) (.int .i64 v)) false)) (k : Keeps (· = fb) h h') : Rep fb tm wm { F with own := F.own.set i v } h' :=
  ⟨by rw [ho, set_own R.own hi], R.t.keeps k R.ft, R.w.keeps k R.fw, R.ne, by simp [R.own], R.quo⟩

theorem rlow {κ : Int → Prop} (R : Rep fb tm wm F h) (hk : κ F.low) : rdI .i64 ((⟨fb, 0⟩ : Ptr).add 38) κ h :=
  rdI_of ((get_cells R.cell _).trans (by simp only [Ptr.add, Nat.zero_add]; exact cells_low R.own R.quo)) hk
theorem rn {κ : Int → Prop} (R : Rep fb tm wm F h) (hk : κ F.n) : rdI .i64 ((⟨fb, 0⟩ : Ptr).add 0) κ h := rdI_of ((get_cells R.cell _).trans rfl) hk
theorem rt {κ : Option Nat → Prop} (R : Rep fb tm wm F h) (hk : κ (some tm)) : rdM ((⟨fb, 0⟩ : Ptr).add 2) κ h := rdM_of ((get_cells R.cell _).trans rfl) hk
theorem rw_ {κ : Option Nat → Prop} (R : Rep fb tm wm F h) (hk : κ (some wm)) : rdM ((⟨fb, 0⟩ : Ptr).add 3) κ h := rdM_of ((get_cells R.cell _).trans rfl) hk
theorem rown {o : Nat} {κ : Int → Prop} (R : Rep fb tm wm F h) (ho : o < 17) (hk : κ (F.own.getD o 0)) : rdI .i64 (((⟨fb, 0⟩ : Ptr).add 4).add (o * 1)) κ h :=
  rdI_of ((get_cells R.cell _).trans (by simp only [Ptr.add, Nat.zero_add, Nat.mul_one]; exact cells_own R.own ho)) hk
theorem rquo {o : Nat} {κ : Int → Prop} (R : Rep fb tm wm F h) (ho : o < 17) (hk : κ (F.quo.getD o 0)) : rdI .i64 (((⟨fb, 0⟩ : Ptr).add 21).add (o * 1)) κ h :=
  rdI_of ((get_cells R.cell _).trans (by simp only [Ptr.add, Nat.zero_add, Nat.mul_one]; exact cells_quo R.own R.quo ho)) hk

theorem none_of_ {Q : Bool → Heap → Prop} (R : Rep fb tm wm F h) (hq : Q false h) : zf17 (some ⟨fb, 0⟩) Q h := by
  unfold zf17
  exact br_f rfl (rt R hq)

/-- One owner is right. -/
theorem owned1 {s : Sl} {b : Nat} {o : Int} (R : Rep fb tm wm F h) (hs : s = ⟨some ⟨b, 0⟩, 1, 1⟩) (hb : h.obj b = some (.cells [.int .i64 o] false)) (ho : 0 ≤ o ∧ o < 17) {Q : Int → Heap → Prop} (hq : Q 0 h) : zf18 (some ⟨fb, 0⟩) s Q h := by
  subst hs
  unfold zf18
  refine none_of_ R (br_f rfl ?_)
  unfold zf18.j4
  intro I HI
  refine HI _ _ _ _ ?_
  unfold zf18.b4 zf20
  refine br_t rfl (ix_of (by omega) (by show (0 : Int) < ((1 : Nat) : Int); decide) ?_)
  rw [der_some]
  refine rdI_of ((get_cells hb _).trans rfl) (br_t (by simp; omega) (br_f (by simp; omega) ?_))
  refine HI _ _ _ _ ?_
  unfold zf18.b4
  exact br_f rfl hq

theorem Alloc_of (R : Rep fb tm wm F h) {o : Nat} (ho : o < 17) {d : Int} (h0 : 0 ≤ F.low) (hd : F.low ≤ d ∧ d < F.n) (hn : F.n ≤ 65536) (hown : 0 ≤ F.own.getD o 0) (hquo : F.own.getD o 0 < F.quo.getD o 0) (hq16 : F.quo.getD o 0 ≤ 65536)
    (used : ∀ x, F.low ≤ x → x < d → ∃ v, ifind x F.t = some (.int .i64 v) ∧ v > 0) (free : ifind d F.t = none) (wfree : ifind d F.w = none) {Q : Int → Int → Heap → Prop}
    (hQ : ∀ h', Rep fb tm wm { F with low := d, own := F.own.set o (F.own.getD o 0 + 1), t := iput d (.int .i64 1) F.t, w := iput d (.int .i64 o) F.w } h' → Keeps (three fb tm wm) h h' → Q d 0 h') {a2 : Int} (ea : a2 = (o : Int)) :
    zf16 (some ⟨fb, 0⟩) a2 Q h := by
  subst ea
  unfold zf16
  refine al_of (fun b g hb ho1 k1 => ?_)
  have R1 := R.keep0 k1
  refine owned1 R1 rfl ho1 (by omega) (br_f rfl ?_)
  rw [der_some]
  refine ix_of (by omega) (by omega) ?_
  rw [Int.toNat_natCast]
  refine rown R1 ho ?_
  rw [der_some]
  refine ix_of (by omega) (by omega) ?_
  rw [Int.toNat_natCast]
  refine rquo R1 ho (br_f (decide_eq_false (by omega)) ?_)
  unfold zf16.j6
  intro I HI
  have fin : ∀ g, Rep fb tm wm { F with low := d } g → Keeps (three fb tm wm) h g → zf16.j8 (some ⟨fb, 0⟩) (o : Int) Q g := by
    intro g Rg kg
    unfold zf16.j8
    rw [der_some]
    refine rlow Rg ?_
    rw [der_some]
    refine rn Rg (br_f (by simp; omega) ?_)
    rw [der_some]
    refine rt Rg ?_
    rw [der_some]
    refine rlow Rg ?_
    rw [der_some]
    refine rw_ Rg ?_
    rw [der_some]
    refine rlow Rg ?_
    have Mt := Rg.t
    have Mw := Rg.w
    refine mapEnt_of Mt (fun b1 g1 M1 E1 k1 => ?_)
    refine asI_eq (x := 0) (by show (ifind d F.t).getD _ = _; rw [free]; rfl) (entPut_of M1 E1 (by rw [ifind_iput, if_pos rfl]; simp) (fun g2 M2 k2 => ?_))
    rw [iput_iput] at M2
    have k12 := k1.trans k2
    refine mapEnt_of (Mw.keeps k12 (fun e => Rg.ne e.symm)) (fun b3 g3 M3 E3 k3 => ?_)
    refine asI_eq (x := 0) (by show (ifind d F.w).getD _ = _; rw [wfree]; rfl) (entPut_of M3 E3 (by rw [ifind_iput, if_pos rfl]; simp) (fun g4 M4 k4 => ?_))
    rw [iput_iput] at M4
    have k34 := k3.trans k4
    have R4 : Rep fb tm wm { F with low := d, t := iput d (.int .i64 1) F.t, w := iput d (.int .i64 (o : Int)) F.w } g4 :=
      ⟨k34.obj (k12.obj Rg.cell (fun e => Rg.ft e.symm)) (fun e => Rg.fw e.symm), M2.keeps k34 Rg.ne, M4, Rg.ne, Rg.own, Rg.quo⟩
    have K4 : Keeps (three fb tm wm) h g4 := (kg.trans (k12.mono (fun x e => .inr (.inl e)))).trans (k34.mono (fun x e => .inr (.inr e)))
    unfold zf16.j11
    rw [der_some]
    refine ix_of (by omega) (by omega) ?_
    rw [Int.toNat_natCast]
    refine rown R4 ho ?_
    rw [der_some]
    refine ix_of (by omega) (by omega) ?_
    rw [Int.toNat_natCast]
    have e4 : (((⟨fb, 0⟩ : Ptr).add 4).add (o * 1)) = ⟨fb, 4 + o⟩ := by simp [Ptr.add]
    rw [e4]
    refine wr_M R4.cell (cells_own R4.own ho) (fun g5 ho5 k5 => ?_)
    have ew : IntKind.i64.wrap (F.own.getD o 0 + 1) = F.own.getD o 0 + 1 := wrap64
    have ho5' : g5.obj fb = some (.cells ((FS.cells { F with low := d, t := iput d (.int .i64 1) F.t, w := iput d (.int .i64 (o : Int)) F.w } tm wm).set (4 + o) (.int .i64 (F.own.getD o 0 + 1))) false) := by rw [← ew]; exact ho5
    have R5 := R4.ownSet ho ho5' k5
    rw [der_some]
    refine rlow R5 ?_
    exact hQ g5 R5 (K4.trans (k5.mono (fun x e => .inl e)))
  have key : ∀ (j : Nat) (x : Int) (g : Heap), x + j = d → F.low ≤ x → Rep fb tm wm { F with low := x } g → Keeps (three fb tm wm) h g → I (some ⟨fb, 0⟩) (o : Int) g := by
    intro j
    induction j with
    | zero =>
      intro x g hx hl Rg kg
      have : x = d := by omega
      subst this
      refine HI _ _ _ ?_
      unfold zf16.b6
      rw [der_some]
      refine rlow Rg ?_
      rw [der_some]
      refine rn Rg (br_t (by simp; omega) ?_)
      rw [der_some]
      refine rt Rg ?_
      rw [der_some]
      refine rlow Rg (mapGet_of Rg.t ?_)
      exact asI_eq (x := 0) (by show (ifind x F.t).getD _ = _; rw [free]; rfl) (br_f rfl (fin g Rg kg))
    | succ j ih =>
      intro x g hx hl Rg kg
      obtain ⟨v, hv, hv0⟩ := used x hl (by omega)
      refine HI _ _ _ ?_
      unfold zf16.b6
      rw [der_some]
      refine rlow Rg ?_
      rw [der_some]
      refine rn Rg (br_t (by simp; omega) ?_)
      rw [der_some]
      refine rt Rg ?_
      rw [der_some]
      refine rlow Rg (mapGet_of Rg.t ?_)
      refine asI_eq (x := v) (by show (ifind x F.t).getD _ = _; rw [hv]; rfl) (br_t (by simpa using hv0) ?_)
      rw [der_some]
      refine rlow Rg ?_
      rw [der_some]
      have e4 : ((⟨fb, 0⟩ : Ptr).add 38) = ⟨fb, 38⟩ := rfl
      rw [e4]
      refine wr_M Rg.cell (cells_low Rg.own Rg.quo) (fun g1 ho1 k1 => ?_)
      have ew : IntKind.i64.wrap (x + 1) = x + 1 := wrap64
      have R1 := Rg.low (v := x + 1) (by rw [ho1, ew]) k1
      exact ih (x + 1) g1 (by omega) (by omega) R1 (kg.trans (k1.mono (fun y e => .inl e)))
  exact key (d - F.low).toNat F.low g (by omega) (Int.le_refl _) R1 (k1.mono (fun _ f => f.elim))

theorem Keeps.fresh {S : Nat → Prop} {a b : Heap} (k : Keeps S a b) (hs : ∀ x, S x → a.obj x = none) : Keeps none_ a b :=
  ⟨fun x hx _ => k.same x hx (fun s => hx (hs x s)), k.known⟩

theorem set_quo {i : Nat} {v : Int} (hl : F.own.length = 17) (hq : F.quo.length = 17) (hi : i < 17) : (F.cells tm wm).set (21 + i) (.int .i64 v) = FS.cells { F with quo := F.quo.set i v } tm wm := by
  unfold FS.cells
  rw [List.set_append_right _ _ (by simp; omega), List.set_append_right _ _ (by simp; omega), List.set_append_left _ _ (by simp; omega)]
  simp only [List.length_cons, List.length_nil, List.length_map]
  rw [show 21 + i - (0 + 1 + 1 + 1 + 1) - F.own.length = i by omega, List.map_set]

theorem Rep.quoSet {h' : Heap} {i : Nat} {v : Int} (R : Rep fb tm wm F h) (hi : i < 17) (ho : h'.obj fb = some (.cells ((F.cells tm wm).set (21 + i) (.int .i64 v)) false)) (k : Keeps (· = fb) h h') : Rep fb tm wm { F with quo := F.quo.set i v } h' :=
  ⟨by rw [ho, set_quo R.own R.quo hi], R.t.keeps k R.ft, R.w.keeps k R.fw, R.ne, R.own, by simp [R.quo]⟩

def tfill : Nat → List (Int × V)
  | 0 => []
  | k + 1 => iput (k : Int) (.int .i64 1) (tfill k)

theorem ifind_tfill {x : Int} : ∀ k : Nat, ifind x (tfill k) = if 0 ≤ x ∧ x < k then some (.int .i64 1) else none
  | 0 => by rw [if_neg (by omega)]; rfl
  | k + 1 => by
    unfold tfill
    rw [ifind_iput, ifind_tfill k]
    by_cases e : x = k
    · rw [if_pos e, if_pos (by omega)]
    · rw [if_neg e]
      by_cases e2 : 0 ≤ x ∧ x < k
      · rw [if_pos e2, if_pos (by omega)]
      · rw [if_neg e2, if_neg (by omega)]

def qfill (n : Int) (i : Nat) : List Int := List.replicate i n ++ List.replicate (17 - i) 0
theorem qfill_set {n : Int} {i : Nat} (hi : i < 17) : (qfill n i).set i n = qfill n (i + 1) := by
  unfold qfill
  rw [List.set_append_right _ _ (by simp), List.length_replicate, Nat.sub_self]
  obtain ⟨m, hm⟩ : ∃ m, 17 - i = m + 1 := ⟨16 - i, by omega⟩
  rw [hm, show 17 - (i + 1) = m by omega, List.replicate_succ, List.set_cons_zero, List.replicate_succ', List.append_assoc]
  rfl

theorem New_of {n first : Int} (h1 : 1 ≤ n) (h2 : n ≤ 65536) (hf : 0 ≤ first ∧ first ≤ n) {Q : Option Ptr → Int → Heap → Prop}
    (hq : ∀ fb tm wm h', Rep fb tm wm ⟨n, first, first, first :: List.replicate 16 0, List.replicate 17 n, tfill first.toNat, []⟩ h' → h.obj fb = none → h.obj tm = none → h.obj wm = none → Keeps none_ h h' → Q (some ⟨fb, 0⟩) 0 h') : zf19 n first Q h := by
  unfold zf19
  refine br_f (decide_eq_false (by omega)) (br_f (decide_eq_false (by omega)) (br_f (decide_eq_false (by omega)) (br_f (decide_eq_false (by omega)) ?_)))
  refine alM_of (fun tm ga ht Mt ka => alM_of (fun wm gb hw Mw kb => ⟨rfl, al_of (fun fb gc hfb hoc kc => ?_)⟩))
  have hwa : h.obj wm = none := fresh_of ka hw
  have hfa : h.obj fb = none := fresh_of (ka.trans kb) hfb
  have R0 : Rep fb tm wm ⟨n, first, first, List.replicate 17 0, List.replicate 17 0, tfill 0, []⟩ gc :=
    ⟨by rw [hoc]; rfl, (Mt.keeps kb (fun f => f)).keeps kc (fun f => f), Mw.keeps kc (fun f => f), fun e => Mt.known (e ▸ hw), rfl, rfl⟩
  have K0 : Keeps (three fb tm wm) h gc := ((ka.trans kb).trans kc).mono (fun _ f => f.elim)
  clear hoc Mt Mw
  have fin : ∀ g F, Rep fb tm wm F g → F = ⟨n, first, first, first :: List.replicate 16 0, List.replicate 17 n, tfill first.toNat, []⟩ → Keeps (three fb tm wm) h g → Q (some ⟨fb, 0⟩) 0 g := by
    rintro g F Rg rfl kg
    refine hq fb tm wm g Rg hfa ht hwa (Keeps.fresh kg (fun x hx => ?_))
    rcases hx with rfl | rfl | rfl <;> assumption
  have quotas : ∀ g, Rep fb tm wm ⟨n, first, first, first :: List.replicate 16 0, List.replicate 17 0, tfill first.toNat, []⟩ g → Keeps (three fb tm wm) h g → zf19.j11 n ⟨fb, 0⟩ 0 Q g := by
    intro g Rg kg
    unfold zf19.j11
    intro I HI
    have key : ∀ (j i : Nat) (g : Heap), i + j = 17 → Rep fb tm wm ⟨n, first, first, first :: List.replicate 16 0, qfill n i, tfill first.toNat, []⟩ g → Keeps (three fb tm wm) h g → I n ⟨fb, 0⟩ (i : Int) g := by
      intro j
      induction j with
      | zero =>
        intro i g hi Rg kg
        obtain rfl : i = 17 := by omega
        refine HI _ _ _ _ ?_
        unfold zf19.b11
        exact br_f rfl (fin g _ Rg (by simp [qfill]) kg)
      | succ j ih =>
        intro i g hi Rg kg
        refine HI _ _ _ _ ?_
        unfold zf19.b11
        refine br_t (decide_eq_true (by omega)) (ix_of (by omega) (by omega) ?_)
        rw [Int.toNat_natCast]
        have e4 : (((⟨fb, 0⟩ : Ptr).add 21).add (i * 1)) = ⟨fb, 21 + i⟩ := by simp [Ptr.add]
        rw [e4]
        refine wr_M Rg.cell (cells_quo Rg.own Rg.quo (by omega)) (fun g1 ho1 k1 => ?_)
        have R1 := Rg.quoSet (by omega) ho1 k1
        simp only [qfill_set (show i < 17 by omega)] at R1
        rw [wrap64]
        have := ih (i + 1) g1 (by omega) R1 (kg.trans (k1.mono (fun x e => .inl e)))
        simpa using this
    exact key 17 0 g rfl Rg kg
  unfold zf19.j4 zf19.j5
  intro I HI
  have key : ∀ (j i : Nat) (g : Heap), (i : Int) + j = first → Rep fb tm wm ⟨n, first, first, List.replicate 17 0, List.replicate 17 0, tfill i, []⟩ g → Keeps (three fb tm wm) h g → I n first ⟨fb, 0⟩ first (i : Int) g := by
    intro j
    induction j with
    | zero =>
      intro i g hi Rg kg
      refine HI _ _ _ _ _ _ ?_
      unfold zf19.b5
      refine br_f (decide_eq_false (by omega)) (ix_of (by decide) (by decide) ?_)
      have e4 : (((⟨fb, 0⟩ : Ptr).add 4).add ((0 : Int).toNat * 1)) = ⟨fb, 4 + 0⟩ := rfl
      rw [e4]
      refine wr_M Rg.cell (cells_own (i := 0) Rg.own (by omega)) (fun g1 ho1 k1 => ?_)
      have R1 := Rg.ownSet (by omega) ho1 k1
      have ei : first.toNat = i := by omega
      exact quotas g1 (by rw [ei]; exact R1) (kg.trans (k1.mono (fun x e => .inl e)))
    | succ j ih =>
      intro i g hi Rg kg
      refine HI _ _ _ _ _ _ ?_
      unfold zf19.b5
      refine br_t (decide_eq_true (by omega)) (rt Rg (mapPut_of Rg.t (fun g1 M1 k1 => ?_)))
      rw [wrap64]
      have R1 : Rep fb tm wm ⟨n, first, first, List.replicate 17 0, List.replicate 17 0, tfill (i + 1), []⟩ g1 :=
        ⟨k1.obj Rg.cell (fun e => Rg.ft e.symm), M1, Rg.w.keeps k1 (fun e => Rg.ne e.symm), Rg.ne, rfl, rfl⟩
      have := ih (i + 1) g1 (by omega) R1 (kg.trans (k1.mono (fun x e => .inr (.inl e))))
      simpa using this
  exact key first.toNat 0 gc (by omega) R0 K0

end
end Go.Frames

/- How the laws of the backend begin: two guests, a disk, rings and blocks. -/
namespace Go.Back
open Go.Lift Go.Fn Go.Mem Go.Frames

def A3 (fb tm wm : Nat) (F : FS) (bt : List Nat) (ct : Nat) (bw : List Nat) (cw : Nat) : List (Nat × HO) :=
  [(fb, .cells (F.cells tm wm) false), (tm, .map (.int .i64) (ikeys .i64 F.t) bt ct), (wm, .map (.int .i64) (ikeys .i64 F.w) bw cw)]

structure A3ok (F : FS) (bt : List Nat) (ct : Nat) (bw : List Nat) (cw : Nat) : Prop where
  t : bt.Nodup ∧ (∀ b, b ∈ bt → b < ct) ∧ bt.length = F.t.length
  w : bw.Nodup ∧ (∀ b, b ∈ bw → b < cw) ∧ bw.length = F.w.length
  own : F.own.length = 17
  quo : F.quo.length = 17

theorem rep_at {h0 h : Heap} {W : Nat → Prop} {L : List (Nat × HO)} {fb tm wm : Nat} {F : FS} {bt : List Nat} {ct : Nat} {bw : List Nat} {cw : Nat} {i j k : Nat} (S : St h0 W L h) (ok : A3ok F bt ct bw cw)
    (hi : L[i]? = some (fb, .cells (F.cells tm wm) false)) (hj : L[j]? = some (tm, .map (.int .i64) (ikeys .i64 F.t) bt ct)) (hk : L[k]? = some (wm, .map (.int .i64) (ikeys .i64 F.w) bw cw)) (hjk : j ≠ k) : Rep fb tm wm F h :=
  ⟨S.obj hi, ⟨bt, ct, S.obj hj, ok.t⟩, ⟨bw, cw, S.obj hk, ok.w⟩, S.ne hj hk hjk, ok.own, ok.quo⟩

theorem three_st {h0 h h' : Heap} {W : Nat → Prop} {fb tm wm : Nat} {F F' : FS} {bt : List Nat} {ct : Nat} {bw : List Nat} {cw : Nat} {B : List (Nat × HO)}
    (S : St h0 W (A3 fb tm wm F bt ct bw cw ++ B) h) (R : Rep fb tm wm F' h') (k : Keeps (three fb tm wm) h h') : ∃ bt' ct' bw' cw', St h0 W (A3 fb tm wm F' bt' ct' bw' cw' ++ B) h' ∧ A3ok F' bt' ct' bw' cw' := by
  obtain ⟨bt', ct', h1, o1⟩ := R.t
  obtain ⟨bw', cw', h2, o2⟩ := R.w
  refine ⟨bt', ct', bw', cw', ?_, o1, o2, R.own, R.quo⟩
  refine St.frame (A := A3 fb tm wm F bt ct bw cw) ⟨?_, ?_, ?_, ?_⟩ S
  · simp only [A3, List.map_cons, List.map_nil, List.nodup_cons, List.mem_cons, List.not_mem_nil, or_false, not_or, List.nodup_nil, and_true, not_false_eq_true]
    exact ⟨⟨fun e => R.ft e.symm, fun e => R.fw e.symm⟩, R.ne⟩
  · intro b x hb
    simp only [A3, List.mem_cons, List.not_mem_nil, or_false, Prod.mk.injEq] at hb
    rcases hb with ⟨rfl, rfl⟩ | ⟨rfl, rfl⟩ | ⟨rfl, rfl⟩
    · exact R.cell
    · exact h1
    · exact h2
  · intro b x hb
    refine .inr ?_
    simp only [A3, List.mem_cons, List.not_mem_nil, or_false, Prod.mk.injEq] at hb
    rcases hb with ⟨rfl, rfl⟩ | ⟨rfl, rfl⟩ | ⟨rfl, rfl⟩
    · exact ⟨_, List.Mem.head _⟩
    · exact ⟨_, .tail _ (List.Mem.head _)⟩
    · exact ⟨_, .tail _ (.tail _ (List.Mem.head _))⟩
  · refine k.mono (fun x hx => ?_)
    rcases hx with rfl | rfl | rfl
    · exact ⟨_, List.Mem.head _⟩
    · exact ⟨_, .tail _ (List.Mem.head _)⟩
    · exact ⟨_, .tail _ (.tail _ (List.Mem.head _))⟩

/-- New blocks of frames beside the others. -/
theorem new_three {h0 h h' : Heap} {W : Nat → Prop} {fb tm wm : Nat} {F : FS} {B : List (Nat × HO)}
    (S : St h0 W B h) (R : Rep fb tm wm F h') (k : Keeps none_ h h') (h1 : h.obj fb = none) (h2 : h.obj tm = none) (h3 : h.obj wm = none) : ∃ bt ct bw cw, St h0 W (A3 fb tm wm F bt ct bw cw ++ B) h' ∧ A3ok F bt ct bw cw := by
  obtain ⟨bt', ct', g1, o1⟩ := R.t
  obtain ⟨bw', cw', g2, o2⟩ := R.w
  have S1 := S.keep k
  have f1 := S.fresh (x := .cells [] false) h1
  have f2 := S.fresh (x := .cells [] false) h2
  have f3 := S.fresh (x := .cells [] false) h3
  have n1 : h0.obj fb = none := fresh_of S.keeps h1
  have n2 : h0.obj tm = none := fresh_of S.keeps h2
  have n3 : h0.obj wm = none := fresh_of S.keeps h3
  have S2 := S1.add g2 (.inl n3) f3
  have S3 := S2.add g1 (.inl n2) (by simp only [List.map_cons, List.mem_cons, not_or]; exact ⟨R.ne, f2⟩)
  have S4 := S3.add R.cell (.inl n1) (by simp only [List.map_cons, List.mem_cons, not_or]; exact ⟨fun e => R.ft e.symm, fun e => R.fw e.symm, f1⟩)
  exact ⟨bt', ct', bw', cw', S4, o1, o2, R.own, R.quo⟩

def wfill : Nat → List (Int × V)
  | 0 => []
  | c + 1 => iput ((4 + c : Nat) : Int) (.int .i64 ((1 + c / 16 : Nat) : Int)) (wfill c)

theorem ifind_wfill {x : Int} : ∀ c : Nat, ifind x (wfill c) = if 4 ≤ x ∧ x < 4 + c then some (.int .i64 ((1 + (x.toNat - 4) / 16 : Nat) : Int)) else none
  | 0 => by rw [if_neg (by omega)]; rfl
  | c + 1 => by
    unfold wfill
    rw [ifind_iput, ifind_wfill c]
    by_cases e : x = ((4 + c : Nat) : Int)
    · subst e
      rw [if_pos rfl, if_pos (by omega), show (((4 + c : Nat) : Int)).toNat - 4 = c by omega]
    · rw [if_neg e]
      by_cases e2 : 4 ≤ x ∧ x < 4 + (c : Int)
      · rw [if_pos e2, if_pos (by omega)]
      · rw [if_neg e2, if_neg (by omega)]

def Fc (c : Nat) : FS := ⟨40, 4, if c = 0 then 4 else ((3 + c : Nat) : Int), 4 :: ((min c 16 : Nat) : Int) :: ((c - 16 : Nat) : Int) :: List.replicate 14 0, List.replicate 17 40, tfill (4 + c), wfill c⟩

theorem fc_step {c o : Nat} (hc : c < 32) (ho : o = 1 + c / 16) : ({ Fc c with low := ((4 + c : Nat) : Int), own := (Fc c).own.set o ((Fc c).own.getD o 0 + 1), t := iput ((4 + c : Nat) : Int) (.int .i64 1) (Fc c).t, w := iput ((4 + c : Nat) : Int) (.int .i64 (o : Int)) (Fc c).w } : FS) = Fc (c + 1) := by
  subst ho
  have e1 : (Fc c).own.set (1 + c / 16) ((Fc c).own.getD (1 + c / 16) 0 + 1) = (Fc (c + 1)).own := by
    by_cases h : c < 16
    · have : c / 16 = 0 := by omega
      rw [this]
      simp only [Fc, List.set, List.getD, List.getElem?_cons_succ, List.getElem?_cons_zero, Option.getD_some]
      rw [show min c 16 = c by omega, show min (c + 1) 16 = c + 1 by omega, show c - 16 = 0 by omega, show c + 1 - 16 = 0 by omega]
      rfl
    · have : c / 16 = 1 := by omega
      rw [this]
      simp only [Fc, List.set, List.getD, List.getElem?_cons_succ, List.getElem?_cons_zero, Option.getD_some]
      rw [show min c 16 = 16 by omega, show min (c + 1) 16 = 16 by omega, show c + 1 - 16 = c - 16 + 1 by omega]
      rfl
  have e2 : ((4 + c : Nat) : Int) = if c + 1 = 0 then 4 else ((3 + (c + 1) : Nat) : Int) := by rw [if_neg (by omega)]; omega
  rw [e1]
  simp only [Fc]
  rw [← e2]
  rfl

theorem fc_get {c o : Nat} (hc : c < 32) (ho : o = 1 + c / 16) : 0 ≤ (Fc c).own.getD o 0 ∧ (Fc c).own.getD o 0 < 16 := by
  subst ho
  by_cases h : c < 16
  · have : c / 16 = 0 := by omega
    rw [this]
    simp only [Fc, List.getD, List.getElem?_cons_succ, List.getElem?_cons_zero, Option.getD_some]
    omega
  · have : c / 16 = 1 := by omega
    rw [this]
    simp only [Fc, List.getD, List.getElem?_cons_succ, List.getElem?_cons_zero, Option.getD_some]
    omega

section
variable {h : Heap}

theorem inner {i : Nat} (hi : i < 2) {fb tm wm : Nat} {bt : List Nat} {ct : Nat} {bw : List Nat} {cw : Nat} {B : List (Nat × HO)} {g : Heap} {I8 : Option Ptr → Option Ptr → Option Ptr → Ptr → Int → Heap → Prop} {a1 a3 : Option Ptr} {a4 : Ptr} {a5 : Int}
    (S : St h none_ (A3 fb tm wm (Fc (16 * i)) bt ct bw cw ++ B) g) (ok : A3ok (Fc (16 * i)) bt ct bw cw) {Q : Option Ptr → Heap → Prop}
    (hq : ∀ I12 bt ct bw cw g', St h none_ (A3 fb tm wm (Fc (16 * i + 16)) bt ct bw cw ++ B) g' → A3ok (Fc (16 * i + 16)) bt ct bw cw → zf38.b12 I8 I12 a1 (some ⟨fb, 0⟩) a3 a4 a5 16 Q g') (ea : a5 = (i : Int)) :
    zf38.j12 I8 a1 (some ⟨fb, 0⟩) a3 a4 a5 0 Q g := by
  subst ea
  unfold zf38.j12
  intro I HI
  have key : ∀ (j k : Nat) (bt : List Nat) (ct : Nat) (bw : List Nat) (cw : Nat) (g : Heap), k + j = 16 → St h none_ (A3 fb tm wm (Fc (16 * i + k)) bt ct bw cw ++ B) g → A3ok (Fc (16 * i + k)) bt ct bw cw → I a1 (some ⟨fb, 0⟩) a3 a4 (i : Int) (k : Int) g := by
    intro j
    induction j with
    | zero =>
      intro k bt ct bw cw g hk S ok
      obtain rfl : k = 16 := by omega
      exact HI _ _ _ _ _ _ _ (hq _ _ _ _ _ g S ok)
    | succ j ih =>
      intro k bt ct bw cw g hk S ok
      have R : Rep fb tm wm (Fc (16 * i + k)) g := rep_at (i := 0) (j := 1) (k := 2) S ok rfl rfl rfl (by decide)
      refine HI _ _ _ _ _ _ _ ?_
      unfold zf38.b12
      have ho : 1 + i = 1 + (16 * i + k) / 16 := by omega
      obtain ⟨h1, h2⟩ := fc_get (c := 16 * i + k) (by omega) ho
      have eq40 : (Fc (16 * i + k)).quo.getD (1 + i) 0 = 40 := by
        have : 1 + i = 1 ∨ 1 + i = 2 := by omega
        rcases this with e | e <;> rw [e] <;> rfl
      have elow : (Fc (16 * i + k)).low = if 16 * i + k = 0 then 4 else ((3 + (16 * i + k) : Nat) : Int) := rfl
      refine br_t (decide_eq_true (by omega)) (Alloc_of R (o := 1 + i) (by omega) (d := ((4 + (16 * i + k) : Nat) : Int)) ?_ ?_ (by show (40 : Int) ≤ 65536; decide) h1 (by rw [eq40]; omega) (by rw [eq40]; omega) ?_ ?_ ?_ (fun g1 R1 k1 => ?_) (by rw [wrap64]; omega))
      · rw [elow]; split <;> omega
      · rw [elow]; show _ ∧ _ < (40 : Int); split <;> omega
      · intro x hx1 hx2
        refine ⟨1, ?_, by decide⟩
        show ifind x (tfill (4 + (16 * i + k))) = _
        rw [elow] at hx1
        rw [ifind_tfill, if_pos (by split at hx1 <;> omega)]
      · show ifind _ (tfill (4 + (16 * i + k))) = _
        rw [ifind_tfill, if_neg (by omega)]
      · show ifind _ (wfill (16 * i + k)) = _
        rw [ifind_wfill, if_neg (by omega)]
      · rw [fc_step (c := 16 * i + k) (o := 1 + i) (by omega) ho] at R1
        obtain ⟨bt', ct', bw', cw', S1, ok1⟩ := three_st S R1 k1
        have e0 : IntKind.i64.wrap (IntKind.i64.wrap (4 + IntKind.i64.wrap (16 * (i : Int))) + (k : Int)) = ((4 + (16 * i + k) : Nat) : Int) := by
          rw [wrap64 (x := 16 * (i : Int)), wrap64 (x := 4 + 16 * (i : Int)), wrap64] <;> omega
        rw [e0]
        refine br_f (by simp) (br_f rfl ?_)
        rw [wrap64]
        have := ih (k + 1) bt' ct' bw' cw' g1 (by omega) S1 ok1
        simpa using this
  exact key 16 0 bt ct bw cw g rfl S ok

end
end Go.Back

/- The world of the backend's laws. -/
namespace Go.Back
open Go.Lift Go.Fn Go.Mem Go.Frames

def world (wb g0 g1 r0 r1 b0 b1 w0 w1 db dm pm bm fb : Nat) (mk : Bool) : List (Nat × HO) :=
  [(wb, .cells [.ptr (some ⟨pm, 0⟩), .ptr (some ⟨fb, 0⟩), .ptr (some ⟨db, 0⟩), .ptr (some ⟨g0, 0⟩), .ptr (some ⟨g1, 0⟩), .ptr (some ⟨r0, 0⟩), .ptr (some ⟨r1, 0⟩), .ptr (some ⟨b0, 0⟩), .ptr (some ⟨b1, 0⟩)] false), (g0, .cells [.ptr (some ⟨pm, 0⟩), .int .i64 4, .int .i64 16] false), (g1, .cells [.ptr (some ⟨pm, 0⟩), .int .i64 20, .int .i64 16] false), (r0, .cells [.int .u64 0, .int .u64 8, .int .u64 0, .int .u64 0, .bool false] false), (r1, .cells [.int .u64 0, .int .u64 8, .int .u64 0, .int .u64 0, .bool false] false), (b0, .cells [.ptr (some ⟨r0, 0⟩), .ptr (some ⟨db, 0⟩), .int .i64 0, .int .i64 4, .ptr (some ⟨fb, 0⟩), .int .i64 1, .int .i64 0, .map (some w0)] false), (b1, .cells [.ptr (some ⟨r1, 0⟩), .ptr (some ⟨db, 0⟩), .int .i64 4, .int .i64 4, .ptr (some ⟨fb, 0⟩), .int .i64 2, .int .i64 0, .map (some w1)] false), (w0, .map (.int .i64) [] [] 0), (w1, .map (.int .i64) [] [] 0), (db, .cells [.int .i64 12, .map (some dm), .sl ⟨none, 0, 0⟩] false), (dm, .map (.int .i64) [] [] 0), (pm, .cells [.sl ⟨some ⟨bm, 0⟩, 10240, 10240⟩] false), (bm, .cells (strCells (List.replicate 10240 0)) mk)]

section
variable {h : Heap}

theorem begin_of {Q : Option Ptr → Heap → Prop}
    (hq : ∀ wb g0 g1 r0 r1 b0 b1 w0 w1 db dm pm bm fb tm wm mk bt ct bw cw g, St h none_ (A3 fb tm wm (Fc 32) bt ct bw cw ++ world wb g0 g1 r0 r1 b0 b1 w0 w1 db dm pm bm fb mk) g → A3ok (Fc 32) bt ct bw cw → Q (some ⟨wb, 0⟩) g) : zf38 Q h := by
  unfold zf38
  have S := St.start h none_
  refine Mem.New_of (by decide) (by decide) (fun pm bm g1 M hp hb k1 => ?_)
  obtain ⟨mk, harr⟩ := M.arr
  have S1 := S.more2 hp hb M.ne M.cell harr k1
  refine New_of (by decide) (by decide) (by decide) (fun fb tm wm g2 R h1 h2 h3 k2 => ?_)
  obtain ⟨bt, ct, bw, cw, S2, ok⟩ := new_three (F := Fc 0) S1 R k2 h1 h2 h3
  clear S1 S R
  unfold zf15
  repeat (first | ((with_reducible first|apply St.rI|apply St.rB|apply St.rP|apply St.rSl|apply St.rV|apply St.rM|apply St.rS|apply St.rN|apply St.ckA);assumption;(first|exact i0|exact i1|exact i2|exact i3|exact i4|exact i5|exact i6|exact i7|exact i8|exact i9|exact i10|exact i11|exact i12|exact i13|exact i14|exact i15);(first|rfl|exact Nat.le_of_ble_eq_true rfl)) | with_reducible refine der_of ?_ | ((with_reducible refine br_t ?_ ?_);rfl) | ((with_reducible refine br_f ?_ ?_);rfl) | ((with_reducible refine br_t ?_ ?_);assumption) | ((with_reducible refine br_f ?_ ?_);assumption) | ((with_reducible first|apply St.wrL|apply St.wr);assumption;(first|exact i0|exact i1|exact i2|exact i3|exact i4|exact i5|exact i6|exact i7|exact i8|exact i9|exact i10|exact i11|exact i12|exact i13|exact i14|exact i15);(first|exact Nat.le_of_ble_eq_true rfl|rfl);intro g_ S_;simp only [Ptr.add, List.set, splice, List.take, List.drop, List.nil_append, List.append_nil, List.cons_append, List.length_cons, List.length_nil, Nat.zero_add, Nat.add_zero, Nat.reduceAdd, Nat.reduceMul, Nat.mul_one, Int.toNat_zero, Int.toNat_one, Int.reduceToNat] at S_) | ((with_reducible refine ix_of ?_ ?_ ?_);exact of_decide_eq_true rfl;exact of_decide_eq_true rfl) | ((with_reducible first|refine nz_of ?_ ?_|refine nneg_of ?_ ?_);exact of_decide_eq_true rfl) | ((with_reducible refine chk_of ?_ ?_);rfl) | (with_reducible first|apply asI_of|apply asB_of|apply asP_of|apply asSl_of|apply asAggV_of|apply asTupV_of|apply asCons_of|apply asNil_of|apply isNil_n|apply isNil_i|apply nilC_i|apply nilCU_i|apply nilCU_f|apply mthC_i) | ((with_reducible refine And.intro ?_ ?_);rfl) | ((with_reducible apply exAnd);rfl))
  ((with_reducible apply St.alM); assumption; intro dm g_ S_)
  ((with_reducible apply St.al); assumption; intro db g_ S_)
  repeat (first | ((with_reducible first|apply St.rI|apply St.rB|apply St.rP|apply St.rSl|apply St.rV|apply St.rM|apply St.rS|apply St.rN|apply St.ckA);assumption;(first|exact i0|exact i1|exact i2|exact i3|exact i4|exact i5|exact i6|exact i7|exact i8|exact i9|exact i10|exact i11|exact i12|exact i13|exact i14|exact i15);(first|rfl|exact Nat.le_of_ble_eq_true rfl)) | with_reducible refine der_of ?_ | ((with_reducible refine br_t ?_ ?_);rfl) | ((with_reducible refine br_f ?_ ?_);rfl) | ((with_reducible refine br_t ?_ ?_);assumption) | ((with_reducible refine br_f ?_ ?_);assumption) | ((with_reducible first|apply St.wrL|apply St.wr);assumption;(first|exact i0|exact i1|exact i2|exact i3|exact i4|exact i5|exact i6|exact i7|exact i8|exact i9|exact i10|exact i11|exact i12|exact i13|exact i14|exact i15);(first|exact Nat.le_of_ble_eq_true rfl|rfl);intro g_ S_;simp only [Ptr.add, List.set, splice, List.take, List.drop, List.nil_append, List.append_nil, List.cons_append, List.length_cons, List.length_nil, Nat.zero_add, Nat.add_zero, Nat.reduceAdd, Nat.reduceMul, Nat.mul_one, Int.toNat_zero, Int.toNat_one, Int.reduceToNat] at S_) | ((with_reducible refine ix_of ?_ ?_ ?_);exact of_decide_eq_true rfl;exact of_decide_eq_true rfl) | ((with_reducible first|refine nz_of ?_ ?_|refine nneg_of ?_ ?_);exact of_decide_eq_true rfl) | ((with_reducible refine chk_of ?_ ?_);rfl) | (with_reducible first|apply asI_of|apply asB_of|apply asP_of|apply asSl_of|apply asAggV_of|apply asTupV_of|apply asCons_of|apply asNil_of|apply isNil_n|apply isNil_i|apply nilC_i|apply nilCU_i|apply nilCU_f|apply mthC_i) | ((with_reducible refine And.intro ?_ ?_);rfl) | ((with_reducible apply exAnd);rfl))
  unfold zf38.j6
  ((with_reducible apply St.al); assumption; intro wb g_ S_)
  unfold zf38.j8
  intro I HI
  refine HI _ _ _ _ _ _ ?_
  unfold zf38.b8
  repeat (first | ((with_reducible first|apply St.rI|apply St.rB|apply St.rP|apply St.rSl|apply St.rV|apply St.rM|apply St.rS|apply St.rN|apply St.ckA);assumption;(first|exact i0|exact i1|exact i2|exact i3|exact i4|exact i5|exact i6|exact i7|exact i8|exact i9|exact i10|exact i11|exact i12|exact i13|exact i14|exact i15);(first|rfl|exact Nat.le_of_ble_eq_true rfl)) | with_reducible refine der_of ?_ | ((with_reducible refine br_t ?_ ?_);rfl) | ((with_reducible refine br_f ?_ ?_);rfl) | ((with_reducible refine br_t ?_ ?_);assumption) | ((with_reducible refine br_f ?_ ?_);assumption) | ((with_reducible first|apply St.wrL|apply St.wr);assumption;(first|exact i0|exact i1|exact i2|exact i3|exact i4|exact i5|exact i6|exact i7|exact i8|exact i9|exact i10|exact i11|exact i12|exact i13|exact i14|exact i15);(first|exact Nat.le_of_ble_eq_true rfl|rfl);intro g_ S_;simp only [Ptr.add, List.set, splice, List.take, List.drop, List.nil_append, List.append_nil, List.cons_append, List.length_cons, List.length_nil, Nat.zero_add, Nat.add_zero, Nat.reduceAdd, Nat.reduceMul, Nat.mul_one, Int.toNat_zero, Int.toNat_one, Int.reduceToNat] at S_) | ((with_reducible refine ix_of ?_ ?_ ?_);exact of_decide_eq_true rfl;exact of_decide_eq_true rfl) | ((with_reducible first|refine nz_of ?_ ?_|refine nneg_of ?_ ?_);exact of_decide_eq_true rfl) | ((with_reducible refine chk_of ?_ ?_);rfl) | (with_reducible first|apply asI_of|apply asB_of|apply asP_of|apply asSl_of|apply asAggV_of|apply asTupV_of|apply asCons_of|apply asNil_of|apply isNil_n|apply isNil_i|apply nilC_i|apply nilCU_i|apply nilCU_f|apply mthC_i) | ((with_reducible refine And.intro ?_ ?_);rfl) | ((with_reducible apply exAnd);rfl))
  ((with_reducible apply St.al); assumption; intro g0 g_ S_)
  repeat (first | ((with_reducible first|apply St.rI|apply St.rB|apply St.rP|apply St.rSl|apply St.rV|apply St.rM|apply St.rS|apply St.rN|apply St.ckA);assumption;(first|exact i0|exact i1|exact i2|exact i3|exact i4|exact i5|exact i6|exact i7|exact i8|exact i9|exact i10|exact i11|exact i12|exact i13|exact i14|exact i15);(first|rfl|exact Nat.le_of_ble_eq_true rfl)) | with_reducible refine der_of ?_ | ((with_reducible refine br_t ?_ ?_);rfl) | ((with_reducible refine br_f ?_ ?_);rfl) | ((with_reducible refine br_t ?_ ?_);assumption) | ((with_reducible refine br_f ?_ ?_);assumption) | ((with_reducible first|apply St.wrL|apply St.wr);assumption;(first|exact i0|exact i1|exact i2|exact i3|exact i4|exact i5|exact i6|exact i7|exact i8|exact i9|exact i10|exact i11|exact i12|exact i13|exact i14|exact i15);(first|exact Nat.le_of_ble_eq_true rfl|rfl);intro g_ S_;simp only [Ptr.add, List.set, splice, List.take, List.drop, List.nil_append, List.append_nil, List.cons_append, List.length_cons, List.length_nil, Nat.zero_add, Nat.add_zero, Nat.reduceAdd, Nat.reduceMul, Nat.mul_one, Int.toNat_zero, Int.toNat_one, Int.reduceToNat] at S_) | ((with_reducible refine ix_of ?_ ?_ ?_);exact of_decide_eq_true rfl;exact of_decide_eq_true rfl) | ((with_reducible first|refine nz_of ?_ ?_|refine nneg_of ?_ ?_);exact of_decide_eq_true rfl) | ((with_reducible refine chk_of ?_ ?_);rfl) | (with_reducible first|apply asI_of|apply asB_of|apply asP_of|apply asSl_of|apply asAggV_of|apply asTupV_of|apply asCons_of|apply asNil_of|apply isNil_n|apply isNil_i|apply nilC_i|apply nilCU_i|apply nilCU_f|apply mthC_i) | ((with_reducible refine And.intro ?_ ?_);rfl) | ((with_reducible apply exAnd);rfl))
  have S3 : St h none_ (A3 fb tm wm (Fc 0) bt ct bw cw ++ [(g0, .cells [.ptr (some ⟨pm, 0⟩), .int .i64 4, .int .i64 16] false), (wb, .cells [.ptr (some ⟨pm, 0⟩), .ptr (some ⟨fb, 0⟩), .ptr (some ⟨db, 0⟩), .ptr (some ⟨g0, 0⟩), .ptr none, .ptr none, .ptr none, .ptr none, .ptr none] false), (db, .cells [.int .i64 12, .map (some dm), .sl ⟨none, 0, 0⟩] false), (dm, .map (.int .i64) [] [] 0), (pm, .cells [.sl ⟨some ⟨bm, 0⟩, 10240, 10240⟩] false), (bm, .cells (strCells (List.replicate 10240 0)) mk)]) g_ := St.pick S_ [4, 5, 6, 0, 1, 2, 3, 7, 8] (by decide) rfl
  clear S_ S2
  refine inner (i := 0) (by decide) S3 ok (fun I12 bt ct bw cw g S4 ok => ?_) rfl
  clear S3
  unfold zf38.b12
  refine br_f rfl ?_
  simp only [A3, List.cons_append, List.nil_append] at S4
  unfold zf40 zf47
  repeat (first | ((with_reducible first|apply St.rI|apply St.rB|apply St.rP|apply St.rSl|apply St.rV|apply St.rM|apply St.rS|apply St.rN|apply St.ckA);assumption;(first|exact i0|exact i1|exact i2|exact i3|exact i4|exact i5|exact i6|exact i7|exact i8|exact i9|exact i10|exact i11|exact i12|exact i13|exact i14|exact i15);(first|rfl|exact Nat.le_of_ble_eq_true rfl)) | with_reducible refine der_of ?_ | ((with_reducible refine br_t ?_ ?_);rfl) | ((with_reducible refine br_f ?_ ?_);rfl) | ((with_reducible refine br_t ?_ ?_);assumption) | ((with_reducible refine br_f ?_ ?_);assumption) | ((with_reducible first|apply St.wrL|apply St.wr);assumption;(first|exact i0|exact i1|exact i2|exact i3|exact i4|exact i5|exact i6|exact i7|exact i8|exact i9|exact i10|exact i11|exact i12|exact i13|exact i14|exact i15);(first|exact Nat.le_of_ble_eq_true rfl|rfl);intro g_ S_;simp only [Ptr.add, List.set, splice, List.take, List.drop, List.nil_append, List.append_nil, List.cons_append, List.length_cons, List.length_nil, Nat.zero_add, Nat.add_zero, Nat.reduceAdd, Nat.reduceMul, Nat.mul_one, Int.toNat_zero, Int.toNat_one, Int.reduceToNat] at S_) | ((with_reducible refine ix_of ?_ ?_ ?_);exact of_decide_eq_true rfl;exact of_decide_eq_true rfl) | ((with_reducible first|refine nz_of ?_ ?_|refine nneg_of ?_ ?_);exact of_decide_eq_true rfl) | ((with_reducible refine chk_of ?_ ?_);rfl) | (with_reducible first|apply asI_of|apply asB_of|apply asP_of|apply asSl_of|apply asAggV_of|apply asTupV_of|apply asCons_of|apply asNil_of|apply isNil_n|apply isNil_i|apply nilC_i|apply nilCU_i|apply nilCU_f|apply mthC_i) | ((with_reducible refine And.intro ?_ ?_);rfl) | ((with_reducible apply exAnd);rfl))
  ((with_reducible apply St.al); assumption; intro r0 g_ S_)
  unfold zf4 zf13 zf14
  repeat (first | ((with_reducible first|apply St.rI|apply St.rB|apply St.rP|apply St.rSl|apply St.rV|apply St.rM|apply St.rS|apply St.rN|apply St.ckA);assumption;(first|exact i0|exact i1|exact i2|exact i3|exact i4|exact i5|exact i6|exact i7|exact i8|exact i9|exact i10|exact i11|exact i12|exact i13|exact i14|exact i15);(first|rfl|exact Nat.le_of_ble_eq_true rfl)) | with_reducible refine der_of ?_ | ((with_reducible refine br_t ?_ ?_);rfl) | ((with_reducible refine br_f ?_ ?_);rfl) | ((with_reducible refine br_t ?_ ?_);assumption) | ((with_reducible refine br_f ?_ ?_);assumption) | ((with_reducible first|apply St.wrL|apply St.wr);assumption;(first|exact i0|exact i1|exact i2|exact i3|exact i4|exact i5|exact i6|exact i7|exact i8|exact i9|exact i10|exact i11|exact i12|exact i13|exact i14|exact i15);(first|exact Nat.le_of_ble_eq_true rfl|rfl);intro g_ S_;simp only [Ptr.add, List.set, splice, List.take, List.drop, List.nil_append, List.append_nil, List.cons_append, List.length_cons, List.length_nil, Nat.zero_add, Nat.add_zero, Nat.reduceAdd, Nat.reduceMul, Nat.mul_one, Int.toNat_zero, Int.toNat_one, Int.reduceToNat] at S_) | ((with_reducible refine ix_of ?_ ?_ ?_);exact of_decide_eq_true rfl;exact of_decide_eq_true rfl) | ((with_reducible first|refine nz_of ?_ ?_|refine nneg_of ?_ ?_);exact of_decide_eq_true rfl) | ((with_reducible refine chk_of ?_ ?_);rfl) | (with_reducible first|apply asI_of|apply asB_of|apply asP_of|apply asSl_of|apply asAggV_of|apply asTupV_of|apply asCons_of|apply asNil_of|apply isNil_n|apply isNil_i|apply nilC_i|apply nilCU_i|apply nilCU_f|apply mthC_i) | ((with_reducible refine And.intro ?_ ?_);rfl) | ((with_reducible apply exAnd);rfl))
  unfold zf4.j5
  repeat (first | ((with_reducible first|apply St.rI|apply St.rB|apply St.rP|apply St.rSl|apply St.rV|apply St.rM|apply St.rS|apply St.rN|apply St.ckA);assumption;(first|exact i0|exact i1|exact i2|exact i3|exact i4|exact i5|exact i6|exact i7|exact i8|exact i9|exact i10|exact i11|exact i12|exact i13|exact i14|exact i15);(first|rfl|exact Nat.le_of_ble_eq_true rfl)) | with_reducible refine der_of ?_ | ((with_reducible refine br_t ?_ ?_);rfl) | ((with_reducible refine br_f ?_ ?_);rfl) | ((with_reducible refine br_t ?_ ?_);assumption) | ((with_reducible refine br_f ?_ ?_);assumption) | ((with_reducible first|apply St.wrL|apply St.wr);assumption;(first|exact i0|exact i1|exact i2|exact i3|exact i4|exact i5|exact i6|exact i7|exact i8|exact i9|exact i10|exact i11|exact i12|exact i13|exact i14|exact i15);(first|exact Nat.le_of_ble_eq_true rfl|rfl);intro g_ S_;simp only [Ptr.add, List.set, splice, List.take, List.drop, List.nil_append, List.append_nil, List.cons_append, List.length_cons, List.length_nil, Nat.zero_add, Nat.add_zero, Nat.reduceAdd, Nat.reduceMul, Nat.mul_one, Int.toNat_zero, Int.toNat_one, Int.reduceToNat] at S_) | ((with_reducible refine ix_of ?_ ?_ ?_);exact of_decide_eq_true rfl;exact of_decide_eq_true rfl) | ((with_reducible first|refine nz_of ?_ ?_|refine nneg_of ?_ ?_);exact of_decide_eq_true rfl) | ((with_reducible refine chk_of ?_ ?_);rfl) | (with_reducible first|apply asI_of|apply asB_of|apply asP_of|apply asSl_of|apply asAggV_of|apply asTupV_of|apply asCons_of|apply asNil_of|apply isNil_n|apply isNil_i|apply nilC_i|apply nilCU_i|apply nilCU_f|apply mthC_i) | ((with_reducible refine And.intro ?_ ?_);rfl) | ((with_reducible apply exAnd);rfl))
  ((with_reducible apply St.alM); assumption; intro w0 g_ S_)
  ((with_reducible apply St.al); assumption; intro b0 g_ S_)
  repeat (first | ((with_reducible first|apply St.rI|apply St.rB|apply St.rP|apply St.rSl|apply St.rV|apply St.rM|apply St.rS|apply St.rN|apply St.ckA);assumption;(first|exact i0|exact i1|exact i2|exact i3|exact i4|exact i5|exact i6|exact i7|exact i8|exact i9|exact i10|exact i11|exact i12|exact i13|exact i14|exact i15);(first|rfl|exact Nat.le_of_ble_eq_true rfl)) | with_reducible refine der_of ?_ | ((with_reducible refine br_t ?_ ?_);rfl) | ((with_reducible refine br_f ?_ ?_);rfl) | ((with_reducible refine br_t ?_ ?_);assumption) | ((with_reducible refine br_f ?_ ?_);assumption) | ((with_reducible first|apply St.wrL|apply St.wr);assumption;(first|exact i0|exact i1|exact i2|exact i3|exact i4|exact i5|exact i6|exact i7|exact i8|exact i9|exact i10|exact i11|exact i12|exact i13|exact i14|exact i15);(first|exact Nat.le_of_ble_eq_true rfl|rfl);intro g_ S_;simp only [Ptr.add, List.set, splice, List.take, List.drop, List.nil_append, List.append_nil, List.cons_append, List.length_cons, List.length_nil, Nat.zero_add, Nat.add_zero, Nat.reduceAdd, Nat.reduceMul, Nat.mul_one, Int.toNat_zero, Int.toNat_one, Int.reduceToNat] at S_) | ((with_reducible refine ix_of ?_ ?_ ?_);exact of_decide_eq_true rfl;exact of_decide_eq_true rfl) | ((with_reducible first|refine nz_of ?_ ?_|refine nneg_of ?_ ?_);exact of_decide_eq_true rfl) | ((with_reducible refine chk_of ?_ ?_);rfl) | (with_reducible first|apply asI_of|apply asB_of|apply asP_of|apply asSl_of|apply asAggV_of|apply asTupV_of|apply asCons_of|apply asNil_of|apply isNil_n|apply isNil_i|apply nilC_i|apply nilCU_i|apply nilCU_f|apply mthC_i) | ((with_reducible refine And.intro ?_ ?_);rfl) | ((with_reducible apply exAnd);rfl))
  unfold zf38.j21
  repeat (first | ((with_reducible first|apply St.rI|apply St.rB|apply St.rP|apply St.rSl|apply St.rV|apply St.rM|apply St.rS|apply St.rN|apply St.ckA);assumption;(first|exact i0|exact i1|exact i2|exact i3|exact i4|exact i5|exact i6|exact i7|exact i8|exact i9|exact i10|exact i11|exact i12|exact i13|exact i14|exact i15);(first|rfl|exact Nat.le_of_ble_eq_true rfl)) | with_reducible refine der_of ?_ | ((with_reducible refine br_t ?_ ?_);rfl) | ((with_reducible refine br_f ?_ ?_);rfl) | ((with_reducible refine br_t ?_ ?_);assumption) | ((with_reducible refine br_f ?_ ?_);assumption) | ((with_reducible first|apply St.wrL|apply St.wr);assumption;(first|exact i0|exact i1|exact i2|exact i3|exact i4|exact i5|exact i6|exact i7|exact i8|exact i9|exact i10|exact i11|exact i12|exact i13|exact i14|exact i15);(first|exact Nat.le_of_ble_eq_true rfl|rfl);intro g_ S_;simp only [Ptr.add, List.set, splice, List.take, List.drop, List.nil_append, List.append_nil, List.cons_append, List.length_cons, List.length_nil, Nat.zero_add, Nat.add_zero, Nat.reduceAdd, Nat.reduceMul, Nat.mul_one, Int.toNat_zero, Int.toNat_one, Int.reduceToNat] at S_) | ((with_reducible refine ix_of ?_ ?_ ?_);exact of_decide_eq_true rfl;exact of_decide_eq_true rfl) | ((with_reducible first|refine nz_of ?_ ?_|refine nneg_of ?_ ?_);exact of_decide_eq_true rfl) | ((with_reducible refine chk_of ?_ ?_);rfl) | (with_reducible first|apply asI_of|apply asB_of|apply asP_of|apply asSl_of|apply asAggV_of|apply asTupV_of|apply asCons_of|apply asNil_of|apply isNil_n|apply isNil_i|apply nilC_i|apply nilCU_i|apply nilCU_f|apply mthC_i) | ((with_reducible refine And.intro ?_ ?_);rfl) | ((with_reducible apply exAnd);rfl))
  unfold zf38.j9
  simp only [w64_0, w64_1, w64_2, w64_3, w64_4, w64_5, w64_6, w64_7, w64_8, w64_9, w64_10, w64_11, w64_12, w64_13, w64_14, w64_15, w64_16, w64_17, w64_18, w64_19]
  refine HI _ _ _ _ _ _ ?_
  unfold zf38.b8
  repeat (first | ((with_reducible first|apply St.rI|apply St.rB|apply St.rP|apply St.rSl|apply St.rV|apply St.rM|apply St.rS|apply St.rN|apply St.ckA);assumption;(first|exact i0|exact i1|exact i2|exact i3|exact i4|exact i5|exact i6|exact i7|exact i8|exact i9|exact i10|exact i11|exact i12|exact i13|exact i14|exact i15);(first|rfl|exact Nat.le_of_ble_eq_true rfl)) | with_reducible refine der_of ?_ | ((with_reducible refine br_t ?_ ?_);rfl) | ((with_reducible refine br_f ?_ ?_);rfl) | ((with_reducible refine br_t ?_ ?_);assumption) | ((with_reducible refine br_f ?_ ?_);assumption) | ((with_reducible first|apply St.wrL|apply St.wr);assumption;(first|exact i0|exact i1|exact i2|exact i3|exact i4|exact i5|exact i6|exact i7|exact i8|exact i9|exact i10|exact i11|exact i12|exact i13|exact i14|exact i15);(first|exact Nat.le_of_ble_eq_true rfl|rfl);intro g_ S_;simp only [Ptr.add, List.set, splice, List.take, List.drop, List.nil_append, List.append_nil, List.cons_append, List.length_cons, List.length_nil, Nat.zero_add, Nat.add_zero, Nat.reduceAdd, Nat.reduceMul, Nat.mul_one, Int.toNat_zero, Int.toNat_one, Int.reduceToNat] at S_) | ((with_reducible refine ix_of ?_ ?_ ?_);exact of_decide_eq_true rfl;exact of_decide_eq_true rfl) | ((with_reducible first|refine nz_of ?_ ?_|refine nneg_of ?_ ?_);exact of_decide_eq_true rfl) | ((with_reducible refine chk_of ?_ ?_);rfl) | (with_reducible first|apply asI_of|apply asB_of|apply asP_of|apply asSl_of|apply asAggV_of|apply asTupV_of|apply asCons_of|apply asNil_of|apply isNil_n|apply isNil_i|apply nilC_i|apply nilCU_i|apply nilCU_f|apply mthC_i) | ((with_reducible refine And.intro ?_ ?_);rfl) | ((with_reducible apply exAnd);rfl))
  ((with_reducible apply St.al); assumption; intro g1 g_ S_)
  repeat (first | ((with_reducible first|apply St.rI|apply St.rB|apply St.rP|apply St.rSl|apply St.rV|apply St.rM|apply St.rS|apply St.rN|apply St.ckA);assumption;(first|exact i0|exact i1|exact i2|exact i3|exact i4|exact i5|exact i6|exact i7|exact i8|exact i9|exact i10|exact i11|exact i12|exact i13|exact i14|exact i15);(first|rfl|exact Nat.le_of_ble_eq_true rfl)) | with_reducible refine der_of ?_ | ((with_reducible refine br_t ?_ ?_);rfl) | ((with_reducible refine br_f ?_ ?_);rfl) | ((with_reducible refine br_t ?_ ?_);assumption) | ((with_reducible refine br_f ?_ ?_);assumption) | ((with_reducible first|apply St.wrL|apply St.wr);assumption;(first|exact i0|exact i1|exact i2|exact i3|exact i4|exact i5|exact i6|exact i7|exact i8|exact i9|exact i10|exact i11|exact i12|exact i13|exact i14|exact i15);(first|exact Nat.le_of_ble_eq_true rfl|rfl);intro g_ S_;simp only [Ptr.add, List.set, splice, List.take, List.drop, List.nil_append, List.append_nil, List.cons_append, List.length_cons, List.length_nil, Nat.zero_add, Nat.add_zero, Nat.reduceAdd, Nat.reduceMul, Nat.mul_one, Int.toNat_zero, Int.toNat_one, Int.reduceToNat] at S_) | ((with_reducible refine ix_of ?_ ?_ ?_);exact of_decide_eq_true rfl;exact of_decide_eq_true rfl) | ((with_reducible first|refine nz_of ?_ ?_|refine nneg_of ?_ ?_);exact of_decide_eq_true rfl) | ((with_reducible refine chk_of ?_ ?_);rfl) | (with_reducible first|apply asI_of|apply asB_of|apply asP_of|apply asSl_of|apply asAggV_of|apply asTupV_of|apply asCons_of|apply asNil_of|apply isNil_n|apply isNil_i|apply nilC_i|apply nilCU_i|apply nilCU_f|apply mthC_i) | ((with_reducible refine And.intro ?_ ?_);rfl) | ((with_reducible apply exAnd);rfl))
  have S5 : St h none_ (A3 fb tm wm (Fc 16) bt ct bw cw ++ [(g1, .cells [.ptr (some ⟨pm, 0⟩), .int .i64 20, .int .i64 16] false), (wb, .cells [.ptr (some ⟨pm, 0⟩), .ptr (some ⟨fb, 0⟩), .ptr (some ⟨db, 0⟩), .ptr (some ⟨g0, 0⟩), .ptr (some ⟨g1, 0⟩), .ptr (some ⟨r0, 0⟩), .ptr none, .ptr (some ⟨b0, 0⟩), .ptr none] false), (g0, .cells [.ptr (some ⟨pm, 0⟩), .int .i64 4, .int .i64 16] false), (r0, .cells [.int .u64 0, .int .u64 8, .int .u64 0, .int .u64 0, .bool false] false), (b0, .cells [.ptr (some ⟨r0, 0⟩), .ptr (some ⟨db, 0⟩), .int .i64 0, .int .i64 4, .ptr (some ⟨fb, 0⟩), .int .i64 1, .int .i64 0, .map (some w0)] false), (w0, .map (.int .i64) [] [] 0), (db, .cells [.int .i64 12, .map (some dm), .sl ⟨none, 0, 0⟩] false), (dm, .map (.int .i64) [] [] 0), (pm, .cells [.sl ⟨some ⟨bm, 0⟩, 10240, 10240⟩] false), (bm, .cells (strCells (List.replicate 10240 0)) mk)]) g_ := St.pick S_ [4, 5, 6, 0, 8, 7, 3, 1, 2, 9, 10, 11, 12] (by decide) rfl
  clear S_ S4
  refine inner (i := 1) (by decide) S5 ok (fun I12 bt ct bw cw g S6 ok => ?_) rfl
  clear S5
  unfold zf38.b12
  refine br_f rfl ?_
  simp only [A3, List.cons_append, List.nil_append] at S6
  unfold zf40 zf47
  repeat (first | ((with_reducible first|apply St.rI|apply St.rB|apply St.rP|apply St.rSl|apply St.rV|apply St.rM|apply St.rS|apply St.rN|apply St.ckA);assumption;(first|exact i0|exact i1|exact i2|exact i3|exact i4|exact i5|exact i6|exact i7|exact i8|exact i9|exact i10|exact i11|exact i12|exact i13|exact i14|exact i15);(first|rfl|exact Nat.le_of_ble_eq_true rfl)) | with_reducible refine der_of ?_ | ((with_reducible refine br_t ?_ ?_);rfl) | ((with_reducible refine br_f ?_ ?_);rfl) | ((with_reducible refine br_t ?_ ?_);assumption) | ((with_reducible refine br_f ?_ ?_);assumption) | ((with_reducible first|apply St.wrL|apply St.wr);assumption;(first|exact i0|exact i1|exact i2|exact i3|exact i4|exact i5|exact i6|exact i7|exact i8|exact i9|exact i10|exact i11|exact i12|exact i13|exact i14|exact i15);(first|exact Nat.le_of_ble_eq_true rfl|rfl);intro g_ S_;simp only [Ptr.add, List.set, splice, List.take, List.drop, List.nil_append, List.append_nil, List.cons_append, List.length_cons, List.length_nil, Nat.zero_add, Nat.add_zero, Nat.reduceAdd, Nat.reduceMul, Nat.mul_one, Int.toNat_zero, Int.toNat_one, Int.reduceToNat] at S_) | ((with_reducible refine ix_of ?_ ?_ ?_);exact of_decide_eq_true rfl;exact of_decide_eq_true rfl) | ((with_reducible first|refine nz_of ?_ ?_|refine nneg_of ?_ ?_);exact of_decide_eq_true rfl) | ((with_reducible refine chk_of ?_ ?_);rfl) | (with_reducible first|apply asI_of|apply asB_of|apply asP_of|apply asSl_of|apply asAggV_of|apply asTupV_of|apply asCons_of|apply asNil_of|apply isNil_n|apply isNil_i|apply nilC_i|apply nilCU_i|apply nilCU_f|apply mthC_i) | ((with_reducible refine And.intro ?_ ?_);rfl) | ((with_reducible apply exAnd);rfl))
  ((with_reducible apply St.al); assumption; intro r1 g_ S_)
  unfold zf4 zf13 zf14
  repeat (first | ((with_reducible first|apply St.rI|apply St.rB|apply St.rP|apply St.rSl|apply St.rV|apply St.rM|apply St.rS|apply St.rN|apply St.ckA);assumption;(first|exact i0|exact i1|exact i2|exact i3|exact i4|exact i5|exact i6|exact i7|exact i8|exact i9|exact i10|exact i11|exact i12|exact i13|exact i14|exact i15);(first|rfl|exact Nat.le_of_ble_eq_true rfl)) | with_reducible refine der_of ?_ | ((with_reducible refine br_t ?_ ?_);rfl) | ((with_reducible refine br_f ?_ ?_);rfl) | ((with_reducible refine br_t ?_ ?_);assumption) | ((with_reducible refine br_f ?_ ?_);assumption) | ((with_reducible first|apply St.wrL|apply St.wr);assumption;(first|exact i0|exact i1|exact i2|exact i3|exact i4|exact i5|exact i6|exact i7|exact i8|exact i9|exact i10|exact i11|exact i12|exact i13|exact i14|exact i15);(first|exact Nat.le_of_ble_eq_true rfl|rfl);intro g_ S_;simp only [Ptr.add, List.set, splice, List.take, List.drop, List.nil_append, List.append_nil, List.cons_append, List.length_cons, List.length_nil, Nat.zero_add, Nat.add_zero, Nat.reduceAdd, Nat.reduceMul, Nat.mul_one, Int.toNat_zero, Int.toNat_one, Int.reduceToNat] at S_) | ((with_reducible refine ix_of ?_ ?_ ?_);exact of_decide_eq_true rfl;exact of_decide_eq_true rfl) | ((with_reducible first|refine nz_of ?_ ?_|refine nneg_of ?_ ?_);exact of_decide_eq_true rfl) | ((with_reducible refine chk_of ?_ ?_);rfl) | (with_reducible first|apply asI_of|apply asB_of|apply asP_of|apply asSl_of|apply asAggV_of|apply asTupV_of|apply asCons_of|apply asNil_of|apply isNil_n|apply isNil_i|apply nilC_i|apply nilCU_i|apply nilCU_f|apply mthC_i) | ((with_reducible refine And.intro ?_ ?_);rfl) | ((with_reducible apply exAnd);rfl))
  unfold zf4.j5
  repeat (first | ((with_reducible first|apply St.rI|apply St.rB|apply St.rP|apply St.rSl|apply St.rV|apply St.rM|apply St.rS|apply St.rN|apply St.ckA);assumption;(first|exact i0|exact i1|exact i2|exact i3|exact i4|exact i5|exact i6|exact i7|exact i8|exact i9|exact i10|exact i11|exact i12|exact i13|exact i14|exact i15);(first|rfl|exact Nat.le_of_ble_eq_true rfl)) | with_reducible refine der_of ?_ | ((with_reducible refine br_t ?_ ?_);rfl) | ((with_reducible refine br_f ?_ ?_);rfl) | ((with_reducible refine br_t ?_ ?_);assumption) | ((with_reducible refine br_f ?_ ?_);assumption) | ((with_reducible first|apply St.wrL|apply St.wr);assumption;(first|exact i0|exact i1|exact i2|exact i3|exact i4|exact i5|exact i6|exact i7|exact i8|exact i9|exact i10|exact i11|exact i12|exact i13|exact i14|exact i15);(first|exact Nat.le_of_ble_eq_true rfl|rfl);intro g_ S_;simp only [Ptr.add, List.set, splice, List.take, List.drop, List.nil_append, List.append_nil, List.cons_append, List.length_cons, List.length_nil, Nat.zero_add, Nat.add_zero, Nat.reduceAdd, Nat.reduceMul, Nat.mul_one, Int.toNat_zero, Int.toNat_one, Int.reduceToNat] at S_) | ((with_reducible refine ix_of ?_ ?_ ?_);exact of_decide_eq_true rfl;exact of_decide_eq_true rfl) | ((with_reducible first|refine nz_of ?_ ?_|refine nneg_of ?_ ?_);exact of_decide_eq_true rfl) | ((with_reducible refine chk_of ?_ ?_);rfl) | (with_reducible first|apply asI_of|apply asB_of|apply asP_of|apply asSl_of|apply asAggV_of|apply asTupV_of|apply asCons_of|apply asNil_of|apply isNil_n|apply isNil_i|apply nilC_i|apply nilCU_i|apply nilCU_f|apply mthC_i) | ((with_reducible refine And.intro ?_ ?_);rfl) | ((with_reducible apply exAnd);rfl))
  ((with_reducible apply St.alM); assumption; intro w1 g_ S_)
  ((with_reducible apply St.al); assumption; intro b1 g_ S_)
  repeat (first | ((with_reducible first|apply St.rI|apply St.rB|apply St.rP|apply St.rSl|apply St.rV|apply St.rM|apply St.rS|apply St.rN|apply St.ckA);assumption;(first|exact i0|exact i1|exact i2|exact i3|exact i4|exact i5|exact i6|exact i7|exact i8|exact i9|exact i10|exact i11|exact i12|exact i13|exact i14|exact i15);(first|rfl|exact Nat.le_of_ble_eq_true rfl)) | with_reducible refine der_of ?_ | ((with_reducible refine br_t ?_ ?_);rfl) | ((with_reducible refine br_f ?_ ?_);rfl) | ((with_reducible refine br_t ?_ ?_);assumption) | ((with_reducible refine br_f ?_ ?_);assumption) | ((with_reducible first|apply St.wrL|apply St.wr);assumption;(first|exact i0|exact i1|exact i2|exact i3|exact i4|exact i5|exact i6|exact i7|exact i8|exact i9|exact i10|exact i11|exact i12|exact i13|exact i14|exact i15);(first|exact Nat.le_of_ble_eq_true rfl|rfl);intro g_ S_;simp only [Ptr.add, List.set, splice, List.take, List.drop, List.nil_append, List.append_nil, List.cons_append, List.length_cons, List.length_nil, Nat.zero_add, Nat.add_zero, Nat.reduceAdd, Nat.reduceMul, Nat.mul_one, Int.toNat_zero, Int.toNat_one, Int.reduceToNat] at S_) | ((with_reducible refine ix_of ?_ ?_ ?_);exact of_decide_eq_true rfl;exact of_decide_eq_true rfl) | ((with_reducible first|refine nz_of ?_ ?_|refine nneg_of ?_ ?_);exact of_decide_eq_true rfl) | ((with_reducible refine chk_of ?_ ?_);rfl) | (with_reducible first|apply asI_of|apply asB_of|apply asP_of|apply asSl_of|apply asAggV_of|apply asTupV_of|apply asCons_of|apply asNil_of|apply isNil_n|apply isNil_i|apply nilC_i|apply nilCU_i|apply nilCU_f|apply mthC_i) | ((with_reducible refine And.intro ?_ ?_);rfl) | ((with_reducible apply exAnd);rfl))
  unfold zf38.j21
  repeat (first | ((with_reducible first|apply St.rI|apply St.rB|apply St.rP|apply St.rSl|apply St.rV|apply St.rM|apply St.rS|apply St.rN|apply St.ckA);assumption;(first|exact i0|exact i1|exact i2|exact i3|exact i4|exact i5|exact i6|exact i7|exact i8|exact i9|exact i10|exact i11|exact i12|exact i13|exact i14|exact i15);(first|rfl|exact Nat.le_of_ble_eq_true rfl)) | with_reducible refine der_of ?_ | ((with_reducible refine br_t ?_ ?_);rfl) | ((with_reducible refine br_f ?_ ?_);rfl) | ((with_reducible refine br_t ?_ ?_);assumption) | ((with_reducible refine br_f ?_ ?_);assumption) | ((with_reducible first|apply St.wrL|apply St.wr);assumption;(first|exact i0|exact i1|exact i2|exact i3|exact i4|exact i5|exact i6|exact i7|exact i8|exact i9|exact i10|exact i11|exact i12|exact i13|exact i14|exact i15);(first|exact Nat.le_of_ble_eq_true rfl|rfl);intro g_ S_;simp only [Ptr.add, List.set, splice, List.take, List.drop, List.nil_append, List.append_nil, List.cons_append, List.length_cons, List.length_nil, Nat.zero_add, Nat.add_zero, Nat.reduceAdd, Nat.reduceMul, Nat.mul_one, Int.toNat_zero, Int.toNat_one, Int.reduceToNat] at S_) | ((with_reducible refine ix_of ?_ ?_ ?_);exact of_decide_eq_true rfl;exact of_decide_eq_true rfl) | ((with_reducible first|refine nz_of ?_ ?_|refine nneg_of ?_ ?_);exact of_decide_eq_true rfl) | ((with_reducible refine chk_of ?_ ?_);rfl) | (with_reducible first|apply asI_of|apply asB_of|apply asP_of|apply asSl_of|apply asAggV_of|apply asTupV_of|apply asCons_of|apply asNil_of|apply isNil_n|apply isNil_i|apply nilC_i|apply nilCU_i|apply nilCU_f|apply mthC_i) | ((with_reducible refine And.intro ?_ ?_);rfl) | ((with_reducible apply exAnd);rfl))
  unfold zf38.j9
  simp only [w64_0, w64_1, w64_2, w64_3, w64_4, w64_5, w64_6, w64_7, w64_8, w64_9, w64_10, w64_11, w64_12, w64_13, w64_14, w64_15, w64_16, w64_17, w64_18, w64_19]
  refine HI _ _ _ _ _ _ ?_
  unfold zf38.b8
  repeat (first | ((with_reducible first|apply St.rI|apply St.rB|apply St.rP|apply St.rSl|apply St.rV|apply St.rM|apply St.rS|apply St.rN|apply St.ckA);assumption;(first|exact i0|exact i1|exact i2|exact i3|exact i4|exact i5|exact i6|exact i7|exact i8|exact i9|exact i10|exact i11|exact i12|exact i13|exact i14|exact i15);(first|rfl|exact Nat.le_of_ble_eq_true rfl)) | with_reducible refine der_of ?_ | ((with_reducible refine br_t ?_ ?_);rfl) | ((with_reducible refine br_f ?_ ?_);rfl) | ((with_reducible refine br_t ?_ ?_);assumption) | ((with_reducible refine br_f ?_ ?_);assumption) | ((with_reducible first|apply St.wrL|apply St.wr);assumption;(first|exact i0|exact i1|exact i2|exact i3|exact i4|exact i5|exact i6|exact i7|exact i8|exact i9|exact i10|exact i11|exact i12|exact i13|exact i14|exact i15);(first|exact Nat.le_of_ble_eq_true rfl|rfl);intro g_ S_;simp only [Ptr.add, List.set, splice, List.take, List.drop, List.nil_append, List.append_nil, List.cons_append, List.length_cons, List.length_nil, Nat.zero_add, Nat.add_zero, Nat.reduceAdd, Nat.reduceMul, Nat.mul_one, Int.toNat_zero, Int.toNat_one, Int.reduceToNat] at S_) | ((with_reducible refine ix_of ?_ ?_ ?_);exact of_decide_eq_true rfl;exact of_decide_eq_true rfl) | ((with_reducible first|refine nz_of ?_ ?_|refine nneg_of ?_ ?_);exact of_decide_eq_true rfl) | ((with_reducible refine chk_of ?_ ?_);rfl) | (with_reducible first|apply asI_of|apply asB_of|apply asP_of|apply asSl_of|apply asAggV_of|apply asTupV_of|apply asCons_of|apply asNil_of|apply isNil_n|apply isNil_i|apply nilC_i|apply nilCU_i|apply nilCU_f|apply mthC_i) | ((with_reducible refine And.intro ?_ ?_);rfl) | ((with_reducible apply exAnd);rfl))
  exact hq wb g0 g1 r0 r1 b0 b1 w0 w1 db dm pm bm fb tm wm mk bt ct bw cw _ (St.pick S_ [3, 4, 5, 7, 8, 6, 9, 2, 10, 0, 11, 1, 12, 13, 14, 15] (by decide) rfl) ok

end
end Go.Back

/- A guest whose pages lie in a memory one behind the other: its words. -/
namespace Go.Back
open Go.Lift Go.Fn Go.Mem Go.Frames

structure GU (U U' : Ifc) : Prop where
  glob : U.glob 1 = U'.glob 1
  ahead : ∀ p, U.ahead (.iface 4 (.ptr p)) "Put" = true
  load : ∀ p a w κ h, zf34 U' p a w (fun r1 r2 h => κ (.tup [.int .u64 r1, .int .i64 r2]) h) h → U.inv (.iface 4 (.ptr p)) "Load" [.int .u64 a, .int .i64 w] κ h
  store : ∀ p a w v κ h, zf36 U' p a w v (fun r1 h => κ (.int .i64 r1) h) h → U.inv (.iface 4 (.ptr p)) "Store" [.int .u64 a, .int .i64 w, .int .u64 v] κ h
  bytes : ∀ p a n κ h, zf32 p a n (fun r1 r2 h => κ (.tup [.sl r1, .int .i64 r2]) h) h → U.inv (.iface 4 (.ptr p)) "Bytes" [.int .u64 a, .int .i64 n] κ h
  put : ∀ p a s κ h, zf35 p a s (fun r1 h => κ (.int .i64 r1) h) h → U.inv (.iface 4 (.ptr p)) "Put" [.int .u64 a, .sl s] κ h

def flatC (pm : Nat) (base : Int) : List V := [.ptr (some ⟨pm, 0⟩), .int .i64 base, .int .i64 16]
def memC (bm : Nat) : List V := [.sl ⟨some ⟨bm, 0⟩, 10240, 10240⟩]

/-- The words of a guest. -/
structure MemIs (bs : List UInt8) (base : Nat) (m : Nat → Int) : Prop where
  len : bs.length = 10240
  word : ∀ j, j < 512 → valN 8 bs ((256 * base + 8 * j : Nat) : Int) = m j

def upd (m : Nat → Int) (k : Nat) (v : Int) : Nat → Int := fun j => if j = k then v else m j

theorem val8_put {bs : List UInt8} {a : Nat} {w : Int} (ha : a + 8 ≤ bs.length) (h0 : 0 ≤ w) (h1 : w ≤ 18446744073709551615) : valN 8 (put bs a (le 8 w.toNat)) (a : Int) = w := by
  have hl := le_length 8 w.toNat
  have e : ((put bs a (le 8 w.toNat)).drop ((a : Int)).toNat).take 8 = le 8 w.toNat := by
    refine List.ext_getElem? (fun i => ?_)
    by_cases hi : i < 8
    · rw [List.getElem?_take_of_lt hi, List.getElem?_drop, Int.toNat_natCast, put_get (by omega), if_pos (by omega), Nat.add_sub_cancel_left]
    · rw [List.getElem?_eq_none (by simp; omega), List.getElem?_eq_none (by omega)]
  have e2 : valN 8 (put bs a (le 8 w.toNat)) (a : Int) = ((byteSum (((put bs a (le 8 w.toNat)).drop ((a : Int)).toNat).take 8) : Nat) : Int) := rfl
  rw [e2, e, byteSum_le 8 _ (by have : (256 : Nat) ^ 8 = 18446744073709551616 := by decide
                                omega)]
  omega

theorem val_put_ne {n : Nat} {bs x : List UInt8} {a b : Nat} (ha : a + x.length ≤ bs.length) (hb : b + n ≤ a ∨ a + x.length ≤ b) : valN n (put bs a x) (b : Int) = valN n bs (b : Int) := by
  unfold valN
  congr 3
  refine List.ext_getElem? (fun i => ?_)
  by_cases hi : i < n
  · rw [List.getElem?_take_of_lt hi, List.getElem?_drop, Int.toNat_natCast, put_get ha, if_neg (by omega), List.getElem?_take_of_lt hi, List.getElem?_drop]
  · rw [List.getElem?_eq_none (by simp; omega), List.getElem?_eq_none (by simp; omega)]

theorem MemIs.put {bs : List UInt8} {base k : Nat} {m : Nat → Int} {v : Int} (M : MemIs bs base m) (hb : base + 16 ≤ 40) (hk : k < 512) (h0 : 0 ≤ v) (h1 : v ≤ 18446744073709551615) : MemIs (put bs (256 * base + 8 * k) (le 8 v.toNat)) base (upd m k v) := by
  have hl := M.len
  have h8 := le_length 8 v.toNat
  refine ⟨by rw [put_length (by omega)]; exact hl, fun j hj => ?_⟩
  unfold upd
  by_cases e : j = k
  · subst e
    rw [if_pos rfl]
    exact val8_put (by omega) h0 h1
  · rw [if_neg e, val_put_ne (by omega) (by omega)]
    exact M.word j hj

/-- Bytes are put elsewhere, or the words there are no longer known. -/
theorem MemIs.other {bs xs : List UInt8} {base a : Nat} {m : Nat → Int} (M : MemIs bs base m) (ha : a + xs.length ≤ 10240) :
    ∃ m', MemIs (Go.Mem.put bs a xs) base m' ∧ ∀ j, j < 512 → 256 * base + 8 * j + 8 ≤ a ∨ a + xs.length ≤ 256 * base + 8 * j → m' j = m j := by
  have hl := M.len
  refine ⟨fun j => valN 8 (Go.Mem.put bs a xs) ((256 * base + 8 * j : Nat) : Int), ⟨by rw [put_length (by omega)]; exact hl, fun j hj => rfl⟩, fun j hj hd => ?_⟩
  show valN 8 _ _ = _
  rw [val_put_ne (by omega) hd]
  exact M.word j hj

theorem MemIs.zero {base : Nat} (hb : base + 16 ≤ 40) : MemIs (List.replicate 10240 0) base (fun _ => 0) := by
  refine ⟨by simp, fun j hj => ?_⟩
  unfold valN sx
  rw [if_neg (by decide), List.drop_replicate, List.take_replicate]
  have : ∀ n, byteSum (List.replicate n 0) = 0 := by
    intro n
    induction n with
    | zero => rfl
    | succ n ih => rw [List.replicate_succ]; simp [byteSum, ih]
  rw [this]; rfl

section
variable {U U' : Ifc} {x : Nat → Int} {h0 h : Heap} {W : Nat → Prop} {L : List (Nat × HO)}

theorem mrep {i j pm bm : Nat} {bs : List UInt8} {mk : Bool} (S : St h0 W L h) (hi : L[i]? = some (pm, .cells (memC bm) false)) (hj : L[j]? = some (bm, .cells (strCells bs) mk)) (hij : i ≠ j) (hl : bs.length = 10240) : Mem.Rep pm bm bs h :=
  ⟨by rw [hl]; exact S.obj hi, ⟨mk, S.obj hj⟩, S.ne hi hj hij, by omega⟩

theorem err_ok {a : Nat} (h8 : a % 8 = 0) (ha : a + 8 ≤ 10240) : errN 8 10240 (a : Int) = 0 := by
  unfold errN
  rw [if_neg (by rw [Int.tmod_eq_emod_of_nonneg (by omega)]; omega), show lies 10240 (a : Int) ((8 : Nat) : Int) = true by simp [lies]; omega]
  rfl

theorem gstore (w : Wid U h0 x) (hw : ¬ W (U.glob 1)) (hk8 : knownB x 8 = true) {gb pm bm g p b base k : Nat} {bs : List UInt8} {mk : Bool} {m : Nat → Int} (S : St h0 W L h)
    (hg : L[g]? = some (gb, .cells (flatC pm (base : Int)) false)) (hp : L[p]? = some (pm, .cells (memC bm) false)) (hm : L[b]? = some (bm, .cells (strCells bs) mk)) (hpb : p ≠ b) (M : MemIs bs base m) (hb : base + 16 ≤ 40) (hk : k < 512) {v a : Int} (ea : a = ((8 * k : Nat) : Int))
    (h0' : 0 ≤ v) (h1 : v ≤ 18446744073709551615) {Q : Int → Heap → Prop} (hq : ∀ bs' mk' h', MemIs bs' base (upd m k v) → St h0 W (L.set b (bm, .cells (strCells bs') mk')) h' → Q 0 h') : zf36 U (some ⟨gb, 0⟩) a 8 v Q h := by
  subst ea
  unfold zf36
  rw [der_some]
  refine S.rI hg rfl (br_f (decide_eq_false (by rw [show IntKind.u64.wrap (IntKind.i64.wrap (256 * 16)) = 4096 by decide]; omega)) ?_)
  rw [der_some]
  refine S.rP hg rfl ?_
  rw [der_some]
  refine S.rI hg rfl ?_
  have e : IntKind.u64.wrap (((8 * k : Nat) : Int) + IntKind.u64.wrap (IntKind.i64.wrap (256 * (base : Int)))) = ((256 * base + 8 * k : Nat) : Int) := by
    rw [wrap64 (x := 256 * (base : Int)), wrapu64 (x := 256 * (base : Int)), wrapu64] <;> omega
  rw [e]
  refine StoreN_of (w.keeps S.keeps hw) (mrep S hp hm hpb M.len) (n := 8) (.inr (.inr rfl)) hk8 (by omega) (by omega) h0' (fun _ _ g1 R1 k1 => ?_) (fun hne => absurd (by rw [M.len]; exact err_ok (by omega) (by omega)) hne) rfl
  obtain ⟨mk', harr⟩ := R1.arr
  have S1 := S.put hm harr k1
  rw [Int.toNat_natCast] at S1
  exact hq _ mk' g1 (M.put hb hk h0' h1) S1

theorem gload (w : Wid U h0 x) (hw : ¬ W (U.glob 1)) (hk8 : knownB x 8 = true) {gb pm bm g p b base k : Nat} {bs : List UInt8} {mk : Bool} {m : Nat → Int} (S : St h0 W L h)
    (hg : L[g]? = some (gb, .cells (flatC pm (base : Int)) false)) (hp : L[p]? = some (pm, .cells (memC bm) false)) (hm : L[b]? = some (bm, .cells (strCells bs) mk)) (hpb : p ≠ b) (M : MemIs bs base m) (hb : base + 16 ≤ 40) (hk : k < 512) {a : Int} (ea : a = ((8 * k : Nat) : Int))
    {Q : Int → Int → Heap → Prop} (hq : ∀ h', Keeps none_ h h' → Q (m k) 0 h') : zf34 U (some ⟨gb, 0⟩) a 8 Q h := by
  subst ea
  unfold zf34
  rw [der_some]
  refine S.rI hg rfl (br_f (decide_eq_false (by rw [show IntKind.u64.wrap (IntKind.i64.wrap (256 * 16)) = 4096 by decide]; omega)) ?_)
  rw [der_some]
  refine S.rP hg rfl ?_
  rw [der_some]
  refine S.rI hg rfl ?_
  have e : IntKind.u64.wrap (((8 * k : Nat) : Int) + IntKind.u64.wrap (IntKind.i64.wrap (256 * (base : Int)))) = ((256 * base + 8 * k : Nat) : Int) := by
    rw [wrap64 (x := 256 * (base : Int)), wrapu64 (x := 256 * (base : Int)), wrapu64] <;> omega
  rw [e]
  refine LoadN_of (w.keeps S.keeps hw) (mrep S hp hm hpb M.len) (n := 8) (.inr (.inr rfl)) hk8 (by omega) (by omega) (fun _ g1 k1 => ?_) (fun hne => absurd (by rw [M.len]; exact err_ok (by omega) (by omega)) hne) rfl
  rw [M.word k hk]
  exact hq g1 k1

def rdC (gb : Nat) : List V := [.iface 4 (.ptr (some ⟨gb, 0⟩)), .bool false]

theorem set_same {L : List (Nat × HO)} {i : Nat} {e : Nat × HO} (h : L[i]? = some e) : L.set i e = L := by
  refine List.ext_getElem? (fun j => ?_)
  rw [List.getElem?_set]
  by_cases e1 : i = j
  · subst e1
    have : i < L.length := by
      rcases Nat.lt_or_ge i L.length with h2 | h2
      · exact h2
      · rw [List.getElem?_eq_none h2] at h; cases h
    rw [if_pos rfl, if_pos this, h]
  · rw [if_neg e1]

theorem number (hu : GU U U') (w : Wid U' h0 x) (hw : ¬ W (U'.glob 1)) (hk8 : knownB x 8 = true) {rd gb pm bm r g p b base k : Nat} {bs : List UInt8} {mk : Bool} {m : Nat → Int} (S : St h0 W L h) (hr : L[r]? = some (rd, .cells (rdC gb) false))
    (hg : L[g]? = some (gb, .cells (flatC pm (base : Int)) false)) (hp : L[p]? = some (pm, .cells (memC bm) false)) (hm : L[b]? = some (bm, .cells (strCells bs) mk)) (hpb : p ≠ b) (M : MemIs bs base m) (hb : base + 16 ≤ 40) (hk : k < 512) {a : Int} (ea : a = ((8 * k : Nat) : Int))
    {Q : Int → Heap → Prop} (hq : ∀ h', St h0 W L h' → Q (m k) h') : zf45 U (some ⟨rd, 0⟩) a Q h := by
  unfold zf45
  rw [der_some]
  refine S.rV hr rfl (hu.load _ _ _ _ _ (gload w hw hk8 S hg hp hm hpb M hb hk ea (fun h1 k1 => ?_)))
  have S1 := S.keep k1
  refine asTupV_of (asCons_of (asI_of (asCons_of (asI_of (asNil_of ?_)))))
  rw [der_some]
  refine S1.rB hr rfl (br_f rfl ?_)
  rw [der_some]
  refine S1.wr hr rfl (fun h2 S2 => ?_)
  refine hq h2 ?_
  have e := set_same hr
  exact e ▸ S2

end
end Go.Back

/- A ring of a guest: the next chain of three parts. -/
namespace Go.Back
open Go.Lift Go.Fn Go.Mem Go.Frames

section
variable {U U' : Ifc} {x : Nat → Int} {h0 h : Heap} {W : Nat → Prop} {L : List (Nat × HO)}

theorem app_nil {sz bytes : Nat} {z new : List V} {κ : Sl → Heap → Prop} (S : St h0 W L h) (hnew : new.length = sz) (hz : z.length = sz) (hb : bytes ≤ 1000)
    (hk : ∀ cb c rest mk h', St h0 W ((cb, .cells (new ++ rest) mk) :: L) h' → 1 ≤ c → rest.length = (c - 1) * sz → κ ⟨some ⟨cb, 0⟩, 1, c⟩ h') : appS sz bytes z ⟨none, 0, 0⟩ new 1 κ h := by
  refine appS_nil (by omega) (by decide) hz (by omega) (by decide) (fun s h1 cb O hl hb k1 => ?_)
  obtain ⟨rest, mk, ho, hr⟩ := O.obj
  have hp := O.p
  have hc := O.cap
  obtain ⟨sp, sl, sc⟩ := s
  simp only at hp hl hc hr
  subst hp hl
  exact hk cb sc rest mk h1 (S.more hb ho k1) hc hr

theorem app_own {sz bytes n c cb : Nat} {z vs rest new : List V} {mk : Bool} {κ : Sl → Heap → Prop} (S : St h0 W ((cb, .cells (vs ++ rest) mk) :: L) h) (hvs : vs.length = n * sz) (hc : n ≤ c) (hr : rest.length = (c - n) * sz) (hnew : new.length = sz) (hz : z.length = sz) (hb : bytes ≤ 1000) (hn : n ≤ 1000)
    (hk : ∀ cb' c' rest' mk' h', St h0 W ((cb', .cells (vs ++ new ++ rest') mk') :: L) h' → n + 1 ≤ c' → rest'.length = (c' - (n + 1)) * sz → κ ⟨some ⟨cb', 0⟩, n + 1, c'⟩ h') : appS sz bytes z ⟨some ⟨cb, 0⟩, n, c⟩ new 1 κ h := by
  have O : Own h ⟨some ⟨cb, 0⟩, n, c⟩ sz vs cb := ⟨rfl, hc, hvs, rest, mk, S.obj i0, hr⟩
  refine appS_own O (by omega) hz (by show (n + 1) * bytes ≤ _; have := Nat.mul_le_mul (show n + 1 ≤ 1001 by omega) hb; omega) (by show n + 1 ≤ _; omega) (fun s h1 cb' O1 hl hbb k1 => ?_)
  obtain ⟨rest', mk', ho, hr'⟩ := O1.obj
  have hp := O1.p
  have hc' := O1.cap
  obtain ⟨sp, sl, sc⟩ := s
  simp only at hp hl hc' hr'
  subst hp hl
  rcases hbb with rfl | hf
  · exact hk cb' sc rest' mk' h1 (S.put i0 ho k1) hc' hr'
  · have S1 : St h0 W L h1 := S.tail.keepW k1 (fun b y hb e => by
      have := S.nodup
      simp only [List.map_cons, List.nodup_cons] at this
      exact this.1 (List.mem_map.2 ⟨(b, y), hb, e⟩)) (fun zz e hz => by
        rcases S.new cb _ (List.mem_cons_self) with h2 | h2
        · exact absurd h2 (by rw [← e]; exact hz)
        · rw [e]; exact h2)
    have hn0 : h0.obj cb' = none := fresh_of S.keeps hf
    exact hk cb' sc rest' mk' h1 (S1.add ho (.inl hn0) (S.tail.fresh (x := .cells [] false) hf)) hc' hr'

theorem part (hu : GU U U') (w : Wid U' h0 x) (hw : ¬ W (U'.glob 1)) (hk8 : knownB x 8 = true) {rd gb pm bm r g p b base i : Nat} {bs : List UInt8} {mk : Bool} {m : Nat → Int} (S : St h0 W L h) (hr : L[r]? = some (rd, .cells (rdC gb) false))
    (hg : L[g]? = some (gb, .cells (flatC pm (base : Int)) false)) (hp : L[p]? = some (pm, .cells (memC bm) false)) (hm : L[b]? = some (bm, .cells (strCells bs) mk)) (hpb : p ≠ b) (M : MemIs bs base m) (hb : base + 16 ≤ 40) (hi : i < 64) {a w0 w1 w2 w3 : Int} (ea : a = ((32 * i : Nat) : Int))
    (e0 : m (4 * i) = w0) (e1 : m (4 * i + 1) = w1) (e2 : m (4 * i + 2) = w2) (e3 : m (4 * i + 3) = w3) (b1 : 1 ≤ w1 ∧ w1 ≤ 4096) (b2 : 0 ≤ w2 ∧ w2 ≤ 3) (b0 : 0 ≤ w0 ∧ w0 ≤ 1000000)
    {Q : Int → Int → Bool → Int → Bool → Heap → Prop} (hq : ∀ h', St h0 W L h' → Q w0 w1 (ibits .and .u64 w2 2 != 0) w3 (ibits .and .u64 w2 1 != 0) h') : zf46 U (some ⟨rd, 0⟩) a Q h := by
  subst ea
  unfold zf46
  ((with_reducible apply St.al); assumption; intro c1 g_ S_)
  ((with_reducible apply St.al); assumption; intro c2 g_ S_)
  unfold zf46.j3
  intro I HI
  refine HI _ _ _ _ _ _ ?_
  unfold zf46.b3
  refine br_t rfl ?_
  rw [der_some]
  refine S_.rB (i := r + 2) hr rfl (br_t rfl ?_)
  refine number (r := r + 2) (g := g + 2) (p := p + 2) (b := b + 2) (k := 4 * i + 0) hu w hw hk8 S_ hr hg hp hm (by omega) M hb (by omega) (by rw [show IntKind.u64.wrap (8 * IntKind.u64.wrap 0) = 0 by decide, wrapu64] <;> omega) (fun h1 S1 => ?_)
  rw [show m (4 * i + 0) = w0 from e0]
  clear S_
  repeat (first | ((with_reducible first|apply St.rI|apply St.rB|apply St.rP|apply St.rSl|apply St.rV|apply St.rM|apply St.rS|apply St.rN|apply St.ckA);assumption;(first|exact i0|exact i1|exact i2|exact i3|exact i4|exact i5|exact i6|exact i7|exact i8|exact i9|exact i10|exact i11|exact i12|exact i13|exact i14|exact i15);(first|rfl|exact Nat.le_of_ble_eq_true rfl)) | with_reducible refine der_of ?_ | ((with_reducible refine br_t ?_ ?_);rfl) | ((with_reducible refine br_f ?_ ?_);rfl) | ((with_reducible refine br_t ?_ ?_);assumption) | ((with_reducible refine br_f ?_ ?_);assumption) | ((with_reducible first|apply St.wrL|apply St.wr);assumption;(first|exact i0|exact i1|exact i2|exact i3|exact i4|exact i5|exact i6|exact i7|exact i8|exact i9|exact i10|exact i11|exact i12|exact i13|exact i14|exact i15);(first|exact Nat.le_of_ble_eq_true rfl|rfl);intro g_ S_;simp only [Ptr.add, List.set, splice, List.take, List.drop, List.nil_append, List.append_nil, List.cons_append, List.length_cons, List.length_nil, Nat.zero_add, Nat.add_zero, Nat.reduceAdd, Nat.reduceMul, Nat.mul_one, Int.toNat_zero, Int.toNat_one, Int.reduceToNat] at S_) | ((with_reducible refine ix_of ?_ ?_ ?_);exact of_decide_eq_true rfl;exact of_decide_eq_true rfl) | ((with_reducible first|refine nz_of ?_ ?_|refine nneg_of ?_ ?_);exact of_decide_eq_true rfl) | ((with_reducible refine chk_of ?_ ?_);rfl) | (with_reducible first|apply asI_of|apply asB_of|apply asP_of|apply asSl_of|apply asAggV_of|apply asTupV_of|apply asCons_of|apply asNil_of|apply isNil_n|apply isNil_i|apply nilC_i|apply nilCU_i|apply nilCU_f|apply mthC_i) | ((with_reducible refine And.intro ?_ ?_);rfl) | ((with_reducible apply exAnd);rfl))
  unfold zf46.j7
  simp only [w64_0, w64_1, w64_2, w64_3, w64_4, w64_5, w64_6, w64_7, w64_8, w64_9, w64_10, w64_11, w64_12, w64_13, w64_14, w64_15, w64_16, w64_17, w64_18, w64_19]
  refine HI _ _ _ _ _ _ ?_
  unfold zf46.b3
  refine br_t rfl ?_
  rw [der_some]
  refine S_.rB (i := r + 2) hr rfl (br_t rfl ?_)
  refine number (r := r + 2) (g := g + 2) (p := p + 2) (b := b + 2) (k := 4 * i + 1) hu w hw hk8 S_ hr hg hp hm (by omega) M hb (by omega) (by rw [show IntKind.u64.wrap (8 * IntKind.u64.wrap 1) = 8 by decide, wrapu64] <;> omega) (fun h1 S1 => ?_)
  rw [e1]
  clear S_
  repeat (first | ((with_reducible first|apply St.rI|apply St.rB|apply St.rP|apply St.rSl|apply St.rV|apply St.rM|apply St.rS|apply St.rN|apply St.ckA);assumption;(first|exact i0|exact i1|exact i2|exact i3|exact i4|exact i5|exact i6|exact i7|exact i8|exact i9|exact i10|exact i11|exact i12|exact i13|exact i14|exact i15);(first|rfl|exact Nat.le_of_ble_eq_true rfl)) | with_reducible refine der_of ?_ | ((with_reducible refine br_t ?_ ?_);rfl) | ((with_reducible refine br_f ?_ ?_);rfl) | ((with_reducible refine br_t ?_ ?_);assumption) | ((with_reducible refine br_f ?_ ?_);assumption) | ((with_reducible first|apply St.wrL|apply St.wr);assumption;(first|exact i0|exact i1|exact i2|exact i3|exact i4|exact i5|exact i6|exact i7|exact i8|exact i9|exact i10|exact i11|exact i12|exact i13|exact i14|exact i15);(first|exact Nat.le_of_ble_eq_true rfl|rfl);intro g_ S_;simp only [Ptr.add, List.set, splice, List.take, List.drop, List.nil_append, List.append_nil, List.cons_append, List.length_cons, List.length_nil, Nat.zero_add, Nat.add_zero, Nat.reduceAdd, Nat.reduceMul, Nat.mul_one, Int.toNat_zero, Int.toNat_one, Int.reduceToNat] at S_) | ((with_reducible refine ix_of ?_ ?_ ?_);exact of_decide_eq_true rfl;exact of_decide_eq_true rfl) | ((with_reducible first|refine nz_of ?_ ?_|refine nneg_of ?_ ?_);exact of_decide_eq_true rfl) | ((with_reducible refine chk_of ?_ ?_);rfl) | (with_reducible first|apply asI_of|apply asB_of|apply asP_of|apply asSl_of|apply asAggV_of|apply asTupV_of|apply asCons_of|apply asNil_of|apply isNil_n|apply isNil_i|apply nilC_i|apply nilCU_i|apply nilCU_f|apply mthC_i) | ((with_reducible refine And.intro ?_ ?_);rfl) | ((with_reducible apply exAnd);rfl))
  unfold zf46.j7
  simp only [w64_0, w64_1, w64_2, w64_3, w64_4, w64_5, w64_6, w64_7, w64_8, w64_9, w64_10, w64_11, w64_12, w64_13, w64_14, w64_15, w64_16, w64_17, w64_18, w64_19]
  refine HI _ _ _ _ _ _ ?_
  unfold zf46.b3
  refine br_t rfl ?_
  rw [der_some]
  refine S_.rB (i := r + 2) hr rfl (br_t rfl ?_)
  refine number (r := r + 2) (g := g + 2) (p := p + 2) (b := b + 2) (k := 4 * i + 2) hu w hw hk8 S_ hr hg hp hm (by omega) M hb (by omega) (by rw [show IntKind.u64.wrap (8 * IntKind.u64.wrap 2) = 16 by decide, wrapu64] <;> omega) (fun h1 S1 => ?_)
  rw [e2]
  clear S_
  repeat (first | ((with_reducible first|apply St.rI|apply St.rB|apply St.rP|apply St.rSl|apply St.rV|apply St.rM|apply St.rS|apply St.rN|apply St.ckA);assumption;(first|exact i0|exact i1|exact i2|exact i3|exact i4|exact i5|exact i6|exact i7|exact i8|exact i9|exact i10|exact i11|exact i12|exact i13|exact i14|exact i15);(first|rfl|exact Nat.le_of_ble_eq_true rfl)) | with_reducible refine der_of ?_ | ((with_reducible refine br_t ?_ ?_);rfl) | ((with_reducible refine br_f ?_ ?_);rfl) | ((with_reducible refine br_t ?_ ?_);assumption) | ((with_reducible refine br_f ?_ ?_);assumption) | ((with_reducible first|apply St.wrL|apply St.wr);assumption;(first|exact i0|exact i1|exact i2|exact i3|exact i4|exact i5|exact i6|exact i7|exact i8|exact i9|exact i10|exact i11|exact i12|exact i13|exact i14|exact i15);(first|exact Nat.le_of_ble_eq_true rfl|rfl);intro g_ S_;simp only [Ptr.add, List.set, splice, List.take, List.drop, List.nil_append, List.append_nil, List.cons_append, List.length_cons, List.length_nil, Nat.zero_add, Nat.add_zero, Nat.reduceAdd, Nat.reduceMul, Nat.mul_one, Int.toNat_zero, Int.toNat_one, Int.reduceToNat] at S_) | ((with_reducible refine ix_of ?_ ?_ ?_);exact of_decide_eq_true rfl;exact of_decide_eq_true rfl) | ((with_reducible first|refine nz_of ?_ ?_|refine nneg_of ?_ ?_);exact of_decide_eq_true rfl) | ((with_reducible refine chk_of ?_ ?_);rfl) | (with_reducible first|apply asI_of|apply asB_of|apply asP_of|apply asSl_of|apply asAggV_of|apply asTupV_of|apply asCons_of|apply asNil_of|apply isNil_n|apply isNil_i|apply nilC_i|apply nilCU_i|apply nilCU_f|apply mthC_i) | ((with_reducible refine And.intro ?_ ?_);rfl) | ((with_reducible apply exAnd);rfl))
  unfold zf46.j7
  simp only [w64_0, w64_1, w64_2, w64_3, w64_4, w64_5, w64_6, w64_7, w64_8, w64_9, w64_10, w64_11, w64_12, w64_13, w64_14, w64_15, w64_16, w64_17, w64_18, w64_19]
  refine HI _ _ _ _ _ _ ?_
  unfold zf46.b3
  refine br_t rfl ?_
  rw [der_some]
  refine S_.rB (i := r + 2) hr rfl (br_t rfl ?_)
  refine number (r := r + 2) (g := g + 2) (p := p + 2) (b := b + 2) (k := 4 * i + 3) hu w hw hk8 S_ hr hg hp hm (by omega) M hb (by omega) (by rw [show IntKind.u64.wrap (8 * IntKind.u64.wrap 3) = 24 by decide, wrapu64] <;> omega) (fun h1 S1 => ?_)
  rw [e3]
  clear S_
  repeat (first | ((with_reducible first|apply St.rI|apply St.rB|apply St.rP|apply St.rSl|apply St.rV|apply St.rM|apply St.rS|apply St.rN|apply St.ckA);assumption;(first|exact i0|exact i1|exact i2|exact i3|exact i4|exact i5|exact i6|exact i7|exact i8|exact i9|exact i10|exact i11|exact i12|exact i13|exact i14|exact i15);(first|rfl|exact Nat.le_of_ble_eq_true rfl)) | with_reducible refine der_of ?_ | ((with_reducible refine br_t ?_ ?_);rfl) | ((with_reducible refine br_f ?_ ?_);rfl) | ((with_reducible refine br_t ?_ ?_);assumption) | ((with_reducible refine br_f ?_ ?_);assumption) | ((with_reducible first|apply St.wrL|apply St.wr);assumption;(first|exact i0|exact i1|exact i2|exact i3|exact i4|exact i5|exact i6|exact i7|exact i8|exact i9|exact i10|exact i11|exact i12|exact i13|exact i14|exact i15);(first|exact Nat.le_of_ble_eq_true rfl|rfl);intro g_ S_;simp only [Ptr.add, List.set, splice, List.take, List.drop, List.nil_append, List.append_nil, List.cons_append, List.length_cons, List.length_nil, Nat.zero_add, Nat.add_zero, Nat.reduceAdd, Nat.reduceMul, Nat.mul_one, Int.toNat_zero, Int.toNat_one, Int.reduceToNat] at S_) | ((with_reducible refine ix_of ?_ ?_ ?_);exact of_decide_eq_true rfl;exact of_decide_eq_true rfl) | ((with_reducible first|refine nz_of ?_ ?_|refine nneg_of ?_ ?_);exact of_decide_eq_true rfl) | ((with_reducible refine chk_of ?_ ?_);rfl) | (with_reducible first|apply asI_of|apply asB_of|apply asP_of|apply asSl_of|apply asAggV_of|apply asTupV_of|apply asCons_of|apply asNil_of|apply isNil_n|apply isNil_i|apply nilC_i|apply nilCU_i|apply nilCU_f|apply mthC_i) | ((with_reducible refine And.intro ?_ ?_);rfl) | ((with_reducible apply exAnd);rfl))
  unfold zf46.j7
  simp only [w64_0, w64_1, w64_2, w64_3, w64_4, w64_5, w64_6, w64_7, w64_8, w64_9, w64_10, w64_11, w64_12, w64_13, w64_14, w64_15, w64_16, w64_17, w64_18, w64_19]
  refine HI _ _ _ _ _ _ ?_
  unfold zf46.b3
  have ew1 : IntKind.i64.wrap w1 = w1 := wrap64
  have eb : IntKind.u64.wrap (1099511627776 - w1) = 1099511627776 - w1 := wrapu64
  refine br_f rfl ?_
  repeat (first | ((with_reducible first|apply St.rI|apply St.rB|apply St.rP|apply St.rSl|apply St.rV|apply St.rM|apply St.rS|apply St.rN|apply St.ckA);assumption;(first|exact i0|exact i1|exact i2|exact i3|exact i4|exact i5|exact i6|exact i7|exact i8|exact i9|exact i10|exact i11|exact i12|exact i13|exact i14|exact i15);(first|rfl|exact Nat.le_of_ble_eq_true rfl)) | with_reducible refine der_of ?_ | ((with_reducible refine br_t ?_ ?_);rfl) | ((with_reducible refine br_f ?_ ?_);rfl) | ((with_reducible refine br_t ?_ ?_);assumption) | ((with_reducible refine br_f ?_ ?_);assumption) | ((with_reducible first|apply St.wrL|apply St.wr);assumption;(first|exact i0|exact i1|exact i2|exact i3|exact i4|exact i5|exact i6|exact i7|exact i8|exact i9|exact i10|exact i11|exact i12|exact i13|exact i14|exact i15);(first|exact Nat.le_of_ble_eq_true rfl|rfl);intro g_ S_;simp only [Ptr.add, List.set, splice, List.take, List.drop, List.nil_append, List.append_nil, List.cons_append, List.length_cons, List.length_nil, Nat.zero_add, Nat.add_zero, Nat.reduceAdd, Nat.reduceMul, Nat.mul_one, Int.toNat_zero, Int.toNat_one, Int.reduceToNat] at S_) | ((with_reducible refine ix_of ?_ ?_ ?_);exact of_decide_eq_true rfl;exact of_decide_eq_true rfl) | ((with_reducible first|refine nz_of ?_ ?_|refine nneg_of ?_ ?_);exact of_decide_eq_true rfl) | ((with_reducible refine chk_of ?_ ?_);rfl) | (with_reducible first|apply asI_of|apply asB_of|apply asP_of|apply asSl_of|apply asAggV_of|apply asTupV_of|apply asCons_of|apply asNil_of|apply isNil_n|apply isNil_i|apply nilC_i|apply nilCU_i|apply nilCU_f|apply mthC_i) | ((with_reducible refine And.intro ?_ ?_);rfl) | ((with_reducible apply exAnd);rfl))
  refine br_f (decide_eq_false (by omega)) ?_
  repeat (first | ((with_reducible first|apply St.rI|apply St.rB|apply St.rP|apply St.rSl|apply St.rV|apply St.rM|apply St.rS|apply St.rN|apply St.ckA);assumption;(first|exact i0|exact i1|exact i2|exact i3|exact i4|exact i5|exact i6|exact i7|exact i8|exact i9|exact i10|exact i11|exact i12|exact i13|exact i14|exact i15);(first|rfl|exact Nat.le_of_ble_eq_true rfl)) | with_reducible refine der_of ?_ | ((with_reducible refine br_t ?_ ?_);rfl) | ((with_reducible refine br_f ?_ ?_);rfl) | ((with_reducible refine br_t ?_ ?_);assumption) | ((with_reducible refine br_f ?_ ?_);assumption) | ((with_reducible first|apply St.wrL|apply St.wr);assumption;(first|exact i0|exact i1|exact i2|exact i3|exact i4|exact i5|exact i6|exact i7|exact i8|exact i9|exact i10|exact i11|exact i12|exact i13|exact i14|exact i15);(first|exact Nat.le_of_ble_eq_true rfl|rfl);intro g_ S_;simp only [Ptr.add, List.set, splice, List.take, List.drop, List.nil_append, List.append_nil, List.cons_append, List.length_cons, List.length_nil, Nat.zero_add, Nat.add_zero, Nat.reduceAdd, Nat.reduceMul, Nat.mul_one, Int.toNat_zero, Int.toNat_one, Int.reduceToNat] at S_) | ((with_reducible refine ix_of ?_ ?_ ?_);exact of_decide_eq_true rfl;exact of_decide_eq_true rfl) | ((with_reducible first|refine nz_of ?_ ?_|refine nneg_of ?_ ?_);exact of_decide_eq_true rfl) | ((with_reducible refine chk_of ?_ ?_);rfl) | (with_reducible first|apply asI_of|apply asB_of|apply asP_of|apply asSl_of|apply asAggV_of|apply asTupV_of|apply asCons_of|apply asNil_of|apply isNil_n|apply isNil_i|apply nilC_i|apply nilCU_i|apply nilCU_f|apply mthC_i) | ((with_reducible refine And.intro ?_ ?_);rfl) | ((with_reducible apply exAnd);rfl))
  refine br_f (decide_eq_false (by omega)) ?_
  repeat (first | ((with_reducible first|apply St.rI|apply St.rB|apply St.rP|apply St.rSl|apply St.rV|apply St.rM|apply St.rS|apply St.rN|apply St.ckA);assumption;(first|exact i0|exact i1|exact i2|exact i3|exact i4|exact i5|exact i6|exact i7|exact i8|exact i9|exact i10|exact i11|exact i12|exact i13|exact i14|exact i15);(first|rfl|exact Nat.le_of_ble_eq_true rfl)) | with_reducible refine der_of ?_ | ((with_reducible refine br_t ?_ ?_);rfl) | ((with_reducible refine br_f ?_ ?_);rfl) | ((with_reducible refine br_t ?_ ?_);assumption) | ((with_reducible refine br_f ?_ ?_);assumption) | ((with_reducible first|apply St.wrL|apply St.wr);assumption;(first|exact i0|exact i1|exact i2|exact i3|exact i4|exact i5|exact i6|exact i7|exact i8|exact i9|exact i10|exact i11|exact i12|exact i13|exact i14|exact i15);(first|exact Nat.le_of_ble_eq_true rfl|rfl);intro g_ S_;simp only [Ptr.add, List.set, splice, List.take, List.drop, List.nil_append, List.append_nil, List.cons_append, List.length_cons, List.length_nil, Nat.zero_add, Nat.add_zero, Nat.reduceAdd, Nat.reduceMul, Nat.mul_one, Int.toNat_zero, Int.toNat_one, Int.reduceToNat] at S_) | ((with_reducible refine ix_of ?_ ?_ ?_);exact of_decide_eq_true rfl;exact of_decide_eq_true rfl) | ((with_reducible first|refine nz_of ?_ ?_|refine nneg_of ?_ ?_);exact of_decide_eq_true rfl) | ((with_reducible refine chk_of ?_ ?_);rfl) | (with_reducible first|apply asI_of|apply asB_of|apply asP_of|apply asSl_of|apply asAggV_of|apply asTupV_of|apply asCons_of|apply asNil_of|apply isNil_n|apply isNil_i|apply nilC_i|apply nilCU_i|apply nilCU_f|apply mthC_i) | ((with_reducible refine And.intro ?_ ?_);rfl) | ((with_reducible apply exAnd);rfl))
  refine br_f (decide_eq_false (by omega)) ?_
  repeat (first | ((with_reducible first|apply St.rI|apply St.rB|apply St.rP|apply St.rSl|apply St.rV|apply St.rM|apply St.rS|apply St.rN|apply St.ckA);assumption;(first|exact i0|exact i1|exact i2|exact i3|exact i4|exact i5|exact i6|exact i7|exact i8|exact i9|exact i10|exact i11|exact i12|exact i13|exact i14|exact i15);(first|rfl|exact Nat.le_of_ble_eq_true rfl)) | with_reducible refine der_of ?_ | ((with_reducible refine br_t ?_ ?_);rfl) | ((with_reducible refine br_f ?_ ?_);rfl) | ((with_reducible refine br_t ?_ ?_);assumption) | ((with_reducible refine br_f ?_ ?_);assumption) | ((with_reducible first|apply St.wrL|apply St.wr);assumption;(first|exact i0|exact i1|exact i2|exact i3|exact i4|exact i5|exact i6|exact i7|exact i8|exact i9|exact i10|exact i11|exact i12|exact i13|exact i14|exact i15);(first|exact Nat.le_of_ble_eq_true rfl|rfl);intro g_ S_;simp only [Ptr.add, List.set, splice, List.take, List.drop, List.nil_append, List.append_nil, List.cons_append, List.length_cons, List.length_nil, Nat.zero_add, Nat.add_zero, Nat.reduceAdd, Nat.reduceMul, Nat.mul_one, Int.toNat_zero, Int.toNat_one, Int.reduceToNat] at S_) | ((with_reducible refine ix_of ?_ ?_ ?_);exact of_decide_eq_true rfl;exact of_decide_eq_true rfl) | ((with_reducible first|refine nz_of ?_ ?_|refine nneg_of ?_ ?_);exact of_decide_eq_true rfl) | ((with_reducible refine chk_of ?_ ?_);rfl) | (with_reducible first|apply asI_of|apply asB_of|apply asP_of|apply asSl_of|apply asAggV_of|apply asTupV_of|apply asCons_of|apply asNil_of|apply isNil_n|apply isNil_i|apply nilC_i|apply nilCU_i|apply nilCU_f|apply mthC_i) | ((with_reducible refine And.intro ?_ ?_);rfl) | ((with_reducible apply exAnd);rfl))
  refine br_f (decide_eq_false (by rw [eb]; omega)) ?_
  repeat (first | ((with_reducible first|apply St.rI|apply St.rB|apply St.rP|apply St.rSl|apply St.rV|apply St.rM|apply St.rS|apply St.rN|apply St.ckA);assumption;(first|exact i0|exact i1|exact i2|exact i3|exact i4|exact i5|exact i6|exact i7|exact i8|exact i9|exact i10|exact i11|exact i12|exact i13|exact i14|exact i15);(first|rfl|exact Nat.le_of_ble_eq_true rfl)) | with_reducible refine der_of ?_ | ((with_reducible refine br_t ?_ ?_);rfl) | ((with_reducible refine br_f ?_ ?_);rfl) | ((with_reducible refine br_t ?_ ?_);assumption) | ((with_reducible refine br_f ?_ ?_);assumption) | ((with_reducible first|apply St.wrL|apply St.wr);assumption;(first|exact i0|exact i1|exact i2|exact i3|exact i4|exact i5|exact i6|exact i7|exact i8|exact i9|exact i10|exact i11|exact i12|exact i13|exact i14|exact i15);(first|exact Nat.le_of_ble_eq_true rfl|rfl);intro g_ S_;simp only [Ptr.add, List.set, splice, List.take, List.drop, List.nil_append, List.append_nil, List.cons_append, List.length_cons, List.length_nil, Nat.zero_add, Nat.add_zero, Nat.reduceAdd, Nat.reduceMul, Nat.mul_one, Int.toNat_zero, Int.toNat_one, Int.reduceToNat] at S_) | ((with_reducible refine ix_of ?_ ?_ ?_);exact of_decide_eq_true rfl;exact of_decide_eq_true rfl) | ((with_reducible first|refine nz_of ?_ ?_|refine nneg_of ?_ ?_);exact of_decide_eq_true rfl) | ((with_reducible refine chk_of ?_ ?_);rfl) | (with_reducible first|apply asI_of|apply asB_of|apply asP_of|apply asSl_of|apply asAggV_of|apply asTupV_of|apply asCons_of|apply asNil_of|apply isNil_n|apply isNil_i|apply nilC_i|apply nilCU_i|apply nilCU_f|apply mthC_i) | ((with_reducible refine And.intro ?_ ?_);rfl) | ((with_reducible apply exAnd);rfl))
  rw [ew1]
  exact hq _ S_.tail.tail

end
end Go.Back

/- A ring of a guest: the next chain of three parts. -/
namespace Go.Back
open Go.Lift Go.Fn Go.Mem Go.Frames

def ringC (t g : Int) (b : Bool) : List V := [.int .u64 0, .int .u64 8, .int .u64 t, .int .u64 g, .bool b]
/-- Three descriptors stand there, the last one to be written. -/
structure Three (m : Nat → Int) (a0 l0 a1 l1 : Int) (w1 : Bool) (a2 l2 : Int) : Prop where
  q0 : m 0 = a0
  q1 : m 1 = l0
  q2 : m 2 = 1
  q3 : m 3 = 1
  q4 : m 4 = a1
  q5 : m 5 = l1
  q6 : ∃ f, m 6 = f ∧ (0 ≤ f ∧ f ≤ 3) ∧ (ibits .and .u64 f 2 != 0) = w1 ∧ (ibits .and .u64 f 1 != 0) = true
  q7 : m 7 = 2
  q8 : m 8 = a2
  q9 : m 9 = l2
  q10 : m 10 = 2
  rl0 : 1 ≤ l0 ∧ l0 ≤ 4096
  rl1 : 1 ≤ l1 ∧ l1 ≤ 4096
  rl2 : 1 ≤ l2 ∧ l2 ≤ 4096
  ra0 : 0 ≤ a0 ∧ a0 ≤ 1000000
  ra1 : 0 ≤ a1 ∧ a1 ≤ 1000000
  ra2 : 0 ≤ a2 ∧ a2 ≤ 1000000

end Go.Back

/- A ring of a guest: the next chain, and none. -/
namespace Go.Back
open Go.Lift Go.Fn Go.Mem Go.Frames

section
variable {U U' : Ifc} {x : Nat → Int} {h0 h : Heap} {W : Nat → Prop}

theorem next0 (hu : GU U U') (w : Wid U' h0 x) (hw : ¬ W (U'.glob 1)) (hk8 : knownB x 8 = true) {rg gb pm bm base : Nat} {bs : List UInt8} {mk : Bool} {m : Nat → Int} {t : Nat} {gv : Int} (M : MemIs bs base m) (hb : base + 16 ≤ 40) (ht : t ≤ 1000) (hcnt : m 32 = (t : Int))
    (S : St h0 W [(rg, .cells (ringC (t : Int) gv false) false), (gb, .cells (flatC pm (base : Int)) false), (pm, .cells (memC bm) false), (bm, .cells (strCells bs) mk)] h)
    {Q : Int → Sl → Bool → Int → Heap → Prop} (hq : ∀ h', St h0 W [(rg, .cells (ringC (t : Int) gv false) false), (gb, .cells (flatC pm (base : Int)) false), (pm, .cells (memC bm) false), (bm, .cells (strCells bs) mk)] h' → Q 0 ⟨none, 0, 0⟩ false 0 h') : zf41 U (some ⟨rg, 0⟩) (.iface 4 (.ptr (some ⟨gb, 0⟩))) Q h := by
  unfold zf41
  ((with_reducible apply St.al); assumption; intro n1 g_ S_)
  unfold zf44
  repeat (first | ((with_reducible first|apply St.rI|apply St.rB|apply St.rP|apply St.rSl|apply St.rV|apply St.rM|apply St.rS|apply St.rN|apply St.ckA);assumption;(first|exact i0|exact i1|exact i2|exact i3|exact i4|exact i5|exact i6|exact i7|exact i8|exact i9|exact i10|exact i11|exact i12|exact i13|exact i14|exact i15);(first|rfl|exact Nat.le_of_ble_eq_true rfl)) | with_reducible refine der_of ?_ | ((with_reducible refine br_t ?_ ?_);rfl) | ((with_reducible refine br_f ?_ ?_);rfl) | ((with_reducible refine br_t ?_ ?_);assumption) | ((with_reducible refine br_f ?_ ?_);assumption) | ((with_reducible first|apply St.wrL|apply St.wr);assumption;(first|exact i0|exact i1|exact i2|exact i3|exact i4|exact i5|exact i6|exact i7|exact i8|exact i9|exact i10|exact i11|exact i12|exact i13|exact i14|exact i15);(first|exact Nat.le_of_ble_eq_true rfl|rfl);intro g_ S_;simp only [Ptr.add, List.set, splice, List.take, List.drop, List.nil_append, List.append_nil, List.cons_append, List.length_cons, List.length_nil, Nat.zero_add, Nat.add_zero, Nat.reduceAdd, Nat.reduceMul, Nat.mul_one, Int.toNat_zero, Int.toNat_one, Int.reduceToNat] at S_) | ((with_reducible refine ix_of ?_ ?_ ?_);exact of_decide_eq_true rfl;exact of_decide_eq_true rfl) | ((with_reducible first|refine nz_of ?_ ?_|refine nneg_of ?_ ?_);exact of_decide_eq_true rfl) | ((with_reducible refine chk_of ?_ ?_);rfl) | (with_reducible first|apply asI_of|apply asB_of|apply asP_of|apply asSl_of|apply asAggV_of|apply asTupV_of|apply asCons_of|apply asNil_of|apply isNil_n|apply isNil_i|apply nilC_i|apply nilCU_i|apply nilCU_f|apply mthC_i) | ((with_reducible refine And.intro ?_ ?_);rfl) | ((with_reducible apply exAnd);rfl))
  ((with_reducible apply St.al); assumption; intro rd g_ S_)
  repeat (first | ((with_reducible first|apply St.rI|apply St.rB|apply St.rP|apply St.rSl|apply St.rV|apply St.rM|apply St.rS|apply St.rN|apply St.ckA);assumption;(first|exact i0|exact i1|exact i2|exact i3|exact i4|exact i5|exact i6|exact i7|exact i8|exact i9|exact i10|exact i11|exact i12|exact i13|exact i14|exact i15);(first|rfl|exact Nat.le_of_ble_eq_true rfl)) | with_reducible refine der_of ?_ | ((with_reducible refine br_t ?_ ?_);rfl) | ((with_reducible refine br_f ?_ ?_);rfl) | ((with_reducible refine br_t ?_ ?_);assumption) | ((with_reducible refine br_f ?_ ?_);assumption) | ((with_reducible first|apply St.wrL|apply St.wr);assumption;(first|exact i0|exact i1|exact i2|exact i3|exact i4|exact i5|exact i6|exact i7|exact i8|exact i9|exact i10|exact i11|exact i12|exact i13|exact i14|exact i15);(first|exact Nat.le_of_ble_eq_true rfl|rfl);intro g_ S_;simp only [Ptr.add, List.set, splice, List.take, List.drop, List.nil_append, List.append_nil, List.cons_append, List.length_cons, List.length_nil, Nat.zero_add, Nat.add_zero, Nat.reduceAdd, Nat.reduceMul, Nat.mul_one, Int.toNat_zero, Int.toNat_one, Int.reduceToNat] at S_) | ((with_reducible refine ix_of ?_ ?_ ?_);exact of_decide_eq_true rfl;exact of_decide_eq_true rfl) | ((with_reducible first|refine nz_of ?_ ?_|refine nneg_of ?_ ?_);exact of_decide_eq_true rfl) | ((with_reducible refine chk_of ?_ ?_);rfl) | (with_reducible first|apply asI_of|apply asB_of|apply asP_of|apply asSl_of|apply asAggV_of|apply asTupV_of|apply asCons_of|apply asNil_of|apply isNil_n|apply isNil_i|apply nilC_i|apply nilCU_i|apply nilCU_f|apply mthC_i) | ((with_reducible refine And.intro ?_ ?_);rfl) | ((with_reducible apply exAnd);rfl))
  refine number (r := 0) (g := 3) (p := 4) (b := 5) (k := 32) hu w hw hk8 S_ rfl rfl rfl rfl (by decide) M hb (by decide) (by decide) (fun g1 S1 => ?_)
  rw [hcnt]
  clear S_
  unfold zf41.j7
  repeat (first | ((with_reducible first|apply St.rI|apply St.rB|apply St.rP|apply St.rSl|apply St.rV|apply St.rM|apply St.rS|apply St.rN|apply St.ckA);assumption;(first|exact i0|exact i1|exact i2|exact i3|exact i4|exact i5|exact i6|exact i7|exact i8|exact i9|exact i10|exact i11|exact i12|exact i13|exact i14|exact i15);(first|rfl|exact Nat.le_of_ble_eq_true rfl)) | with_reducible refine der_of ?_ | ((with_reducible refine br_t ?_ ?_);rfl) | ((with_reducible refine br_f ?_ ?_);rfl) | ((with_reducible refine br_t ?_ ?_);assumption) | ((with_reducible refine br_f ?_ ?_);assumption) | ((with_reducible first|apply St.wrL|apply St.wr);assumption;(first|exact i0|exact i1|exact i2|exact i3|exact i4|exact i5|exact i6|exact i7|exact i8|exact i9|exact i10|exact i11|exact i12|exact i13|exact i14|exact i15);(first|exact Nat.le_of_ble_eq_true rfl|rfl);intro g_ S_;simp only [Ptr.add, List.set, splice, List.take, List.drop, List.nil_append, List.append_nil, List.cons_append, List.length_cons, List.length_nil, Nat.zero_add, Nat.add_zero, Nat.reduceAdd, Nat.reduceMul, Nat.mul_one, Int.toNat_zero, Int.toNat_one, Int.reduceToNat] at S_) | ((with_reducible refine ix_of ?_ ?_ ?_);exact of_decide_eq_true rfl;exact of_decide_eq_true rfl) | ((with_reducible first|refine nz_of ?_ ?_|refine nneg_of ?_ ?_);exact of_decide_eq_true rfl) | ((with_reducible refine chk_of ?_ ?_);rfl) | (with_reducible first|apply asI_of|apply asB_of|apply asP_of|apply asSl_of|apply asAggV_of|apply asTupV_of|apply asCons_of|apply asNil_of|apply isNil_n|apply isNil_i|apply nilC_i|apply nilCU_i|apply nilCU_f|apply mthC_i) | ((with_reducible refine And.intro ?_ ?_);rfl) | ((with_reducible apply exAnd);rfl))
  refine br_t (beq_self_eq_true _) ?_
  repeat (first | ((with_reducible first|apply St.rI|apply St.rB|apply St.rP|apply St.rSl|apply St.rV|apply St.rM|apply St.rS|apply St.rN|apply St.ckA);assumption;(first|exact i0|exact i1|exact i2|exact i3|exact i4|exact i5|exact i6|exact i7|exact i8|exact i9|exact i10|exact i11|exact i12|exact i13|exact i14|exact i15);(first|rfl|exact Nat.le_of_ble_eq_true rfl)) | with_reducible refine der_of ?_ | ((with_reducible refine br_t ?_ ?_);rfl) | ((with_reducible refine br_f ?_ ?_);rfl) | ((with_reducible refine br_t ?_ ?_);assumption) | ((with_reducible refine br_f ?_ ?_);assumption) | ((with_reducible first|apply St.wrL|apply St.wr);assumption;(first|exact i0|exact i1|exact i2|exact i3|exact i4|exact i5|exact i6|exact i7|exact i8|exact i9|exact i10|exact i11|exact i12|exact i13|exact i14|exact i15);(first|exact Nat.le_of_ble_eq_true rfl|rfl);intro g_ S_;simp only [Ptr.add, List.set, splice, List.take, List.drop, List.nil_append, List.append_nil, List.cons_append, List.length_cons, List.length_nil, Nat.zero_add, Nat.add_zero, Nat.reduceAdd, Nat.reduceMul, Nat.mul_one, Int.toNat_zero, Int.toNat_one, Int.reduceToNat] at S_) | ((with_reducible refine ix_of ?_ ?_ ?_);exact of_decide_eq_true rfl;exact of_decide_eq_true rfl) | ((with_reducible first|refine nz_of ?_ ?_|refine nneg_of ?_ ?_);exact of_decide_eq_true rfl) | ((with_reducible refine chk_of ?_ ?_);rfl) | (with_reducible first|apply asI_of|apply asB_of|apply asP_of|apply asSl_of|apply asAggV_of|apply asTupV_of|apply asCons_of|apply asNil_of|apply isNil_n|apply isNil_i|apply nilC_i|apply nilCU_i|apply nilCU_f|apply mthC_i) | ((with_reducible refine And.intro ?_ ?_);rfl) | ((with_reducible apply exAnd);rfl))
  exact hq _ (St.pick S_ [2, 3, 4, 5] (by decide) rfl)

end
end Go.Back

/- A ring of a guest: what is given back. -/
namespace Go.Back
open Go.Lift Go.Fn Go.Mem Go.Frames

section
variable {U U' : Ifc} {x : Nat → Int} {h0 h : Heap} {W : Nat → Prop}

theorem push (hu : GU U U') (w : Wid U' h0 x) (hw : ¬ W (U'.glob 1)) (hk8 : knownB x 8 = true) {rg gb pm bm base : Nat} {bs : List UInt8} {mk : Bool} {m : Nat → Int} {t gv : Nat} {n : Int} (M : MemIs bs base m) (hb : base + 16 ≤ 40) (ht : t ≤ 1000) (hg : gv < t) (hn : 0 ≤ n ∧ n ≤ 1000000)
    (S : St h0 W [(rg, .cells (ringC (t : Int) (gv : Int) false) false), (gb, .cells (flatC pm (base : Int)) false), (pm, .cells (memC bm) false), (bm, .cells (strCells bs) mk)] h)
    {Q : Int → Heap → Prop} (hq : ∀ bs' mk' h', MemIs bs' base (upd (upd (upd m (42 + 2 * (gv % 8)) 0) (43 + 2 * (gv % 8)) n) 41 ((gv + 1 : Nat) : Int)) → St h0 W [(rg, .cells (ringC (t : Int) ((gv + 1 : Nat) : Int) false) false), (gb, .cells (flatC pm (base : Int)) false), (pm, .cells (memC bm) false), (bm, .cells (strCells bs') mk')] h' → Q 0 h') : zf42 U (some ⟨rg, 0⟩) (.iface 4 (.ptr (some ⟨gb, 0⟩))) 0 n Q h := by
  unfold zf42 zf44
  repeat (first | ((with_reducible first|apply St.rI|apply St.rB|apply St.rP|apply St.rSl|apply St.rV|apply St.rM|apply St.rS|apply St.rN|apply St.ckA);assumption;(first|exact i0|exact i1|exact i2|exact i3|exact i4|exact i5|exact i6|exact i7|exact i8|exact i9|exact i10|exact i11|exact i12|exact i13|exact i14|exact i15);(first|rfl|exact Nat.le_of_ble_eq_true rfl)) | with_reducible refine der_of ?_ | ((with_reducible refine br_t ?_ ?_);rfl) | ((with_reducible refine br_f ?_ ?_);rfl) | ((with_reducible refine br_t ?_ ?_);assumption) | ((with_reducible refine br_f ?_ ?_);assumption) | ((with_reducible first|apply St.wrL|apply St.wr);assumption;(first|exact i0|exact i1|exact i2|exact i3|exact i4|exact i5|exact i6|exact i7|exact i8|exact i9|exact i10|exact i11|exact i12|exact i13|exact i14|exact i15);(first|exact Nat.le_of_ble_eq_true rfl|rfl);intro g_ S_;simp only [Ptr.add, List.set, splice, List.take, List.drop, List.nil_append, List.append_nil, List.cons_append, List.length_cons, List.length_nil, Nat.zero_add, Nat.add_zero, Nat.reduceAdd, Nat.reduceMul, Nat.mul_one, Int.toNat_zero, Int.toNat_one, Int.reduceToNat] at S_) | ((with_reducible refine ix_of ?_ ?_ ?_);exact of_decide_eq_true rfl;exact of_decide_eq_true rfl) | ((with_reducible first|refine nz_of ?_ ?_|refine nneg_of ?_ ?_);exact of_decide_eq_true rfl) | ((with_reducible refine chk_of ?_ ?_);rfl) | (with_reducible first|apply asI_of|apply asB_of|apply asP_of|apply asSl_of|apply asAggV_of|apply asTupV_of|apply asCons_of|apply asNil_of|apply isNil_n|apply isNil_i|apply nilC_i|apply nilCU_i|apply nilCU_f|apply mthC_i) | ((with_reducible refine And.intro ?_ ?_);rfl) | ((with_reducible apply exAnd);rfl))
  refine br_f (decide_eq_false (by omega)) ?_
  repeat (first | ((with_reducible first|apply St.rI|apply St.rB|apply St.rP|apply St.rSl|apply St.rV|apply St.rM|apply St.rS|apply St.rN|apply St.ckA);assumption;(first|exact i0|exact i1|exact i2|exact i3|exact i4|exact i5|exact i6|exact i7|exact i8|exact i9|exact i10|exact i11|exact i12|exact i13|exact i14|exact i15);(first|rfl|exact Nat.le_of_ble_eq_true rfl)) | with_reducible refine der_of ?_ | ((with_reducible refine br_t ?_ ?_);rfl) | ((with_reducible refine br_f ?_ ?_);rfl) | ((with_reducible refine br_t ?_ ?_);assumption) | ((with_reducible refine br_f ?_ ?_);assumption) | ((with_reducible first|apply St.wrL|apply St.wr);assumption;(first|exact i0|exact i1|exact i2|exact i3|exact i4|exact i5|exact i6|exact i7|exact i8|exact i9|exact i10|exact i11|exact i12|exact i13|exact i14|exact i15);(first|exact Nat.le_of_ble_eq_true rfl|rfl);intro g_ S_;simp only [Ptr.add, List.set, splice, List.take, List.drop, List.nil_append, List.append_nil, List.cons_append, List.length_cons, List.length_nil, Nat.zero_add, Nat.add_zero, Nat.reduceAdd, Nat.reduceMul, Nat.mul_one, Int.toNat_zero, Int.toNat_one, Int.reduceToNat] at S_) | ((with_reducible refine ix_of ?_ ?_ ?_);exact of_decide_eq_true rfl;exact of_decide_eq_true rfl) | ((with_reducible first|refine nz_of ?_ ?_|refine nneg_of ?_ ?_);exact of_decide_eq_true rfl) | ((with_reducible refine chk_of ?_ ?_);rfl) | (with_reducible first|apply asI_of|apply asB_of|apply asP_of|apply asSl_of|apply asAggV_of|apply asTupV_of|apply asCons_of|apply asNil_of|apply isNil_n|apply isNil_i|apply nilC_i|apply nilCU_i|apply nilCU_f|apply mthC_i) | ((with_reducible refine And.intro ?_ ?_);rfl) | ((with_reducible apply exAnd);rfl))
  refine br_f (by simp; omega) ?_
  unfold zf42.j8
  repeat (first | ((with_reducible first|apply St.rI|apply St.rB|apply St.rP|apply St.rSl|apply St.rV|apply St.rM|apply St.rS|apply St.rN|apply St.ckA);assumption;(first|exact i0|exact i1|exact i2|exact i3|exact i4|exact i5|exact i6|exact i7|exact i8|exact i9|exact i10|exact i11|exact i12|exact i13|exact i14|exact i15);(first|rfl|exact Nat.le_of_ble_eq_true rfl)) | with_reducible refine der_of ?_ | ((with_reducible refine br_t ?_ ?_);rfl) | ((with_reducible refine br_f ?_ ?_);rfl) | ((with_reducible refine br_t ?_ ?_);assumption) | ((with_reducible refine br_f ?_ ?_);assumption) | ((with_reducible first|apply St.wrL|apply St.wr);assumption;(first|exact i0|exact i1|exact i2|exact i3|exact i4|exact i5|exact i6|exact i7|exact i8|exact i9|exact i10|exact i11|exact i12|exact i13|exact i14|exact i15);(first|exact Nat.le_of_ble_eq_true rfl|rfl);intro g_ S_;simp only [Ptr.add, List.set, splice, List.take, List.drop, List.nil_append, List.append_nil, List.cons_append, List.length_cons, List.length_nil, Nat.zero_add, Nat.add_zero, Nat.reduceAdd, Nat.reduceMul, Nat.mul_one, Int.toNat_zero, Int.toNat_one, Int.reduceToNat] at S_) | ((with_reducible refine ix_of ?_ ?_ ?_);exact of_decide_eq_true rfl;exact of_decide_eq_true rfl) | ((with_reducible first|refine nz_of ?_ ?_|refine nneg_of ?_ ?_);exact of_decide_eq_true rfl) | ((with_reducible refine chk_of ?_ ?_);rfl) | (with_reducible first|apply asI_of|apply asB_of|apply asP_of|apply asSl_of|apply asAggV_of|apply asTupV_of|apply asCons_of|apply asNil_of|apply isNil_n|apply isNil_i|apply nilC_i|apply nilCU_i|apply nilCU_f|apply mthC_i) | ((with_reducible refine And.intro ?_ ?_);rfl) | ((with_reducible apply exAnd);rfl))
  unfold zf42.j10
  repeat (first | ((with_reducible first|apply St.rI|apply St.rB|apply St.rP|apply St.rSl|apply St.rV|apply St.rM|apply St.rS|apply St.rN|apply St.ckA);assumption;(first|exact i0|exact i1|exact i2|exact i3|exact i4|exact i5|exact i6|exact i7|exact i8|exact i9|exact i10|exact i11|exact i12|exact i13|exact i14|exact i15);(first|rfl|exact Nat.le_of_ble_eq_true rfl)) | with_reducible refine der_of ?_ | ((with_reducible refine br_t ?_ ?_);rfl) | ((with_reducible refine br_f ?_ ?_);rfl) | ((with_reducible refine br_t ?_ ?_);assumption) | ((with_reducible refine br_f ?_ ?_);assumption) | ((with_reducible first|apply St.wrL|apply St.wr);assumption;(first|exact i0|exact i1|exact i2|exact i3|exact i4|exact i5|exact i6|exact i7|exact i8|exact i9|exact i10|exact i11|exact i12|exact i13|exact i14|exact i15);(first|exact Nat.le_of_ble_eq_true rfl|rfl);intro g_ S_;simp only [Ptr.add, List.set, splice, List.take, List.drop, List.nil_append, List.append_nil, List.cons_append, List.length_cons, List.length_nil, Nat.zero_add, Nat.add_zero, Nat.reduceAdd, Nat.reduceMul, Nat.mul_one, Int.toNat_zero, Int.toNat_one, Int.reduceToNat] at S_) | ((with_reducible refine ix_of ?_ ?_ ?_);exact of_decide_eq_true rfl;exact of_decide_eq_true rfl) | ((with_reducible first|refine nz_of ?_ ?_|refine nneg_of ?_ ?_);exact of_decide_eq_true rfl) | ((with_reducible refine chk_of ?_ ?_);rfl) | (with_reducible first|apply asI_of|apply asB_of|apply asP_of|apply asSl_of|apply asAggV_of|apply asTupV_of|apply asCons_of|apply asNil_of|apply isNil_n|apply isNil_i|apply nilC_i|apply nilCU_i|apply nilCU_f|apply mthC_i) | ((with_reducible refine And.intro ?_ ?_);rfl) | ((with_reducible apply exAnd);rfl))
  ((with_reducible apply St.al); assumption; intro b3 g_ S_)
  unfold zf42.j11
  have eat : IntKind.u64.wrap (IntKind.u64.wrap (IntKind.u64.wrap (IntKind.u64.wrap (0 + IntKind.u64.wrap (40 * 8)) + 8) + 8) + IntKind.u64.wrap (16 * (gv : Int).tmod 8)) = ((8 * (42 + 2 * (gv % 8)) : Nat) : Int) := by
    rw [Int.tmod_eq_emod_of_nonneg (by omega), wrapu64 (x := 16 * ((gv : Int) % 8)), show IntKind.u64.wrap (IntKind.u64.wrap (IntKind.u64.wrap (0 + IntKind.u64.wrap (40 * 8)) + 8) + 8) = 336 by decide, wrapu64] <;> omega
  have eat2 : IntKind.u64.wrap (((8 * (42 + 2 * (gv % 8)) : Nat) : Int) + 8) = ((8 * (43 + 2 * (gv % 8)) : Nat) : Int) := by rw [wrapu64] <;> omega
  have en : IntKind.u64.wrap n = n := wrapu64
  have eg : IntKind.u64.wrap ((gv : Int) + 1) = ((gv + 1 : Nat) : Int) := by rw [wrapu64] <;> omega
  rw [eat, eat2, en, eg] at S_
  intro I HI
  refine HI _ _ _ _ _ _ ?_
  unfold zf42.b11
  repeat (first | ((with_reducible first|apply St.rI|apply St.rB|apply St.rP|apply St.rSl|apply St.rV|apply St.rM|apply St.rS|apply St.rN|apply St.ckA);assumption;(first|exact i0|exact i1|exact i2|exact i3|exact i4|exact i5|exact i6|exact i7|exact i8|exact i9|exact i10|exact i11|exact i12|exact i13|exact i14|exact i15);(first|rfl|exact Nat.le_of_ble_eq_true rfl)) | with_reducible refine der_of ?_ | ((with_reducible refine br_t ?_ ?_);rfl) | ((with_reducible refine br_f ?_ ?_);rfl) | ((with_reducible refine br_t ?_ ?_);assumption) | ((with_reducible refine br_f ?_ ?_);assumption) | ((with_reducible first|apply St.wrL|apply St.wr);assumption;(first|exact i0|exact i1|exact i2|exact i3|exact i4|exact i5|exact i6|exact i7|exact i8|exact i9|exact i10|exact i11|exact i12|exact i13|exact i14|exact i15);(first|exact Nat.le_of_ble_eq_true rfl|rfl);intro g_ S_;simp only [Ptr.add, List.set, splice, List.take, List.drop, List.nil_append, List.append_nil, List.cons_append, List.length_cons, List.length_nil, Nat.zero_add, Nat.add_zero, Nat.reduceAdd, Nat.reduceMul, Nat.mul_one, Int.toNat_zero, Int.toNat_one, Int.reduceToNat] at S_) | ((with_reducible refine ix_of ?_ ?_ ?_);exact of_decide_eq_true rfl;exact of_decide_eq_true rfl) | ((with_reducible first|refine nz_of ?_ ?_|refine nneg_of ?_ ?_);exact of_decide_eq_true rfl) | ((with_reducible refine chk_of ?_ ?_);rfl) | (with_reducible first|apply asI_of|apply asB_of|apply asP_of|apply asSl_of|apply asAggV_of|apply asTupV_of|apply asCons_of|apply asNil_of|apply isNil_n|apply isNil_i|apply nilC_i|apply nilCU_i|apply nilCU_f|apply mthC_i) | ((with_reducible refine And.intro ?_ ?_);rfl) | ((with_reducible apply exAnd);rfl))
  ((with_reducible apply St.al); assumption; intro c1 g_ S_)
  repeat (first | ((with_reducible first|apply St.rI|apply St.rB|apply St.rP|apply St.rSl|apply St.rV|apply St.rM|apply St.rS|apply St.rN|apply St.ckA);assumption;(first|exact i0|exact i1|exact i2|exact i3|exact i4|exact i5|exact i6|exact i7|exact i8|exact i9|exact i10|exact i11|exact i12|exact i13|exact i14|exact i15);(first|rfl|exact Nat.le_of_ble_eq_true rfl)) | with_reducible refine der_of ?_ | ((with_reducible refine br_t ?_ ?_);rfl) | ((with_reducible refine br_f ?_ ?_);rfl) | ((with_reducible refine br_t ?_ ?_);assumption) | ((with_reducible refine br_f ?_ ?_);assumption) | ((with_reducible first|apply St.wrL|apply St.wr);assumption;(first|exact i0|exact i1|exact i2|exact i3|exact i4|exact i5|exact i6|exact i7|exact i8|exact i9|exact i10|exact i11|exact i12|exact i13|exact i14|exact i15);(first|exact Nat.le_of_ble_eq_true rfl|rfl);intro g_ S_;simp only [Ptr.add, List.set, splice, List.take, List.drop, List.nil_append, List.append_nil, List.cons_append, List.length_cons, List.length_nil, Nat.zero_add, Nat.add_zero, Nat.reduceAdd, Nat.reduceMul, Nat.mul_one, Int.toNat_zero, Int.toNat_one, Int.reduceToNat] at S_) | ((with_reducible refine ix_of ?_ ?_ ?_);exact of_decide_eq_true rfl;exact of_decide_eq_true rfl) | ((with_reducible first|refine nz_of ?_ ?_|refine nneg_of ?_ ?_);exact of_decide_eq_true rfl) | ((with_reducible refine chk_of ?_ ?_);rfl) | (with_reducible first|apply asI_of|apply asB_of|apply asP_of|apply asSl_of|apply asAggV_of|apply asTupV_of|apply asCons_of|apply asNil_of|apply isNil_n|apply isNil_i|apply nilC_i|apply nilCU_i|apply nilCU_f|apply mthC_i) | ((with_reducible refine And.intro ?_ ?_);rfl) | ((with_reducible apply exAnd);rfl))
  refine hu.store _ _ _ _ _ _ (gstore (g := 3) (p := 4) (b := 5) w hw hk8 S_ rfl rfl rfl (by decide) M hb (k := 42 + 2 * (gv % 8)) (by omega) rfl (by decide) (by decide) (fun bs1 mk1 g1 M1 S1 => ?_))
  simp only [List.set] at S1
  clear S_
  repeat (first | ((with_reducible first|apply St.rI|apply St.rB|apply St.rP|apply St.rSl|apply St.rV|apply St.rM|apply St.rS|apply St.rN|apply St.ckA);assumption;(first|exact i0|exact i1|exact i2|exact i3|exact i4|exact i5|exact i6|exact i7|exact i8|exact i9|exact i10|exact i11|exact i12|exact i13|exact i14|exact i15);(first|rfl|exact Nat.le_of_ble_eq_true rfl)) | with_reducible refine der_of ?_ | ((with_reducible refine br_t ?_ ?_);rfl) | ((with_reducible refine br_f ?_ ?_);rfl) | ((with_reducible refine br_t ?_ ?_);assumption) | ((with_reducible refine br_f ?_ ?_);assumption) | ((with_reducible first|apply St.wrL|apply St.wr);assumption;(first|exact i0|exact i1|exact i2|exact i3|exact i4|exact i5|exact i6|exact i7|exact i8|exact i9|exact i10|exact i11|exact i12|exact i13|exact i14|exact i15);(first|exact Nat.le_of_ble_eq_true rfl|rfl);intro g_ S_;simp only [Ptr.add, List.set, splice, List.take, List.drop, List.nil_append, List.append_nil, List.cons_append, List.length_cons, List.length_nil, Nat.zero_add, Nat.add_zero, Nat.reduceAdd, Nat.reduceMul, Nat.mul_one, Int.toNat_zero, Int.toNat_one, Int.reduceToNat] at S_) | ((with_reducible refine ix_of ?_ ?_ ?_);exact of_decide_eq_true rfl;exact of_decide_eq_true rfl) | ((with_reducible first|refine nz_of ?_ ?_|refine nneg_of ?_ ?_);exact of_decide_eq_true rfl) | ((with_reducible refine chk_of ?_ ?_);rfl) | (with_reducible first|apply asI_of|apply asB_of|apply asP_of|apply asSl_of|apply asAggV_of|apply asTupV_of|apply asCons_of|apply asNil_of|apply isNil_n|apply isNil_i|apply nilC_i|apply nilCU_i|apply nilCU_f|apply mthC_i) | ((with_reducible refine And.intro ?_ ?_);rfl) | ((with_reducible apply exAnd);rfl))
  simp only [w64_0, w64_1, w64_2, w64_3, w64_4, w64_5, w64_6, w64_7, w64_8, w64_9, w64_10, w64_11, w64_12, w64_13, w64_14, w64_15, w64_16, w64_17, w64_18, w64_19]
  refine HI _ _ _ _ _ _ ?_
  unfold zf42.b11
  repeat (first | ((with_reducible first|apply St.rI|apply St.rB|apply St.rP|apply St.rSl|apply St.rV|apply St.rM|apply St.rS|apply St.rN|apply St.ckA);assumption;(first|exact i0|exact i1|exact i2|exact i3|exact i4|exact i5|exact i6|exact i7|exact i8|exact i9|exact i10|exact i11|exact i12|exact i13|exact i14|exact i15);(first|rfl|exact Nat.le_of_ble_eq_true rfl)) | with_reducible refine der_of ?_ | ((with_reducible refine br_t ?_ ?_);rfl) | ((with_reducible refine br_f ?_ ?_);rfl) | ((with_reducible refine br_t ?_ ?_);assumption) | ((with_reducible refine br_f ?_ ?_);assumption) | ((with_reducible first|apply St.wrL|apply St.wr);assumption;(first|exact i0|exact i1|exact i2|exact i3|exact i4|exact i5|exact i6|exact i7|exact i8|exact i9|exact i10|exact i11|exact i12|exact i13|exact i14|exact i15);(first|exact Nat.le_of_ble_eq_true rfl|rfl);intro g_ S_;simp only [Ptr.add, List.set, splice, List.take, List.drop, List.nil_append, List.append_nil, List.cons_append, List.length_cons, List.length_nil, Nat.zero_add, Nat.add_zero, Nat.reduceAdd, Nat.reduceMul, Nat.mul_one, Int.toNat_zero, Int.toNat_one, Int.reduceToNat] at S_) | ((with_reducible refine ix_of ?_ ?_ ?_);exact of_decide_eq_true rfl;exact of_decide_eq_true rfl) | ((with_reducible first|refine nz_of ?_ ?_|refine nneg_of ?_ ?_);exact of_decide_eq_true rfl) | ((with_reducible refine chk_of ?_ ?_);rfl) | (with_reducible first|apply asI_of|apply asB_of|apply asP_of|apply asSl_of|apply asAggV_of|apply asTupV_of|apply asCons_of|apply asNil_of|apply isNil_n|apply isNil_i|apply nilC_i|apply nilCU_i|apply nilCU_f|apply mthC_i) | ((with_reducible refine And.intro ?_ ?_);rfl) | ((with_reducible apply exAnd);rfl))
  ((with_reducible apply St.al); assumption; intro c2 g_ S_)
  repeat (first | ((with_reducible first|apply St.rI|apply St.rB|apply St.rP|apply St.rSl|apply St.rV|apply St.rM|apply St.rS|apply St.rN|apply St.ckA);assumption;(first|exact i0|exact i1|exact i2|exact i3|exact i4|exact i5|exact i6|exact i7|exact i8|exact i9|exact i10|exact i11|exact i12|exact i13|exact i14|exact i15);(first|rfl|exact Nat.le_of_ble_eq_true rfl)) | with_reducible refine der_of ?_ | ((with_reducible refine br_t ?_ ?_);rfl) | ((with_reducible refine br_f ?_ ?_);rfl) | ((with_reducible refine br_t ?_ ?_);assumption) | ((with_reducible refine br_f ?_ ?_);assumption) | ((with_reducible first|apply St.wrL|apply St.wr);assumption;(first|exact i0|exact i1|exact i2|exact i3|exact i4|exact i5|exact i6|exact i7|exact i8|exact i9|exact i10|exact i11|exact i12|exact i13|exact i14|exact i15);(first|exact Nat.le_of_ble_eq_true rfl|rfl);intro g_ S_;simp only [Ptr.add, List.set, splice, List.take, List.drop, List.nil_append, List.append_nil, List.cons_append, List.length_cons, List.length_nil, Nat.zero_add, Nat.add_zero, Nat.reduceAdd, Nat.reduceMul, Nat.mul_one, Int.toNat_zero, Int.toNat_one, Int.reduceToNat] at S_) | ((with_reducible refine ix_of ?_ ?_ ?_);exact of_decide_eq_true rfl;exact of_decide_eq_true rfl) | ((with_reducible first|refine nz_of ?_ ?_|refine nneg_of ?_ ?_);exact of_decide_eq_true rfl) | ((with_reducible refine chk_of ?_ ?_);rfl) | (with_reducible first|apply asI_of|apply asB_of|apply asP_of|apply asSl_of|apply asAggV_of|apply asTupV_of|apply asCons_of|apply asNil_of|apply isNil_n|apply isNil_i|apply nilC_i|apply nilCU_i|apply nilCU_f|apply mthC_i) | ((with_reducible refine And.intro ?_ ?_);rfl) | ((with_reducible apply exAnd);rfl))
  refine hu.store _ _ _ _ _ _ (gstore (g := 4) (p := 5) (b := 6) w hw hk8 S_ rfl rfl rfl (by decide) M1 hb (k := 43 + 2 * (gv % 8)) (by omega) rfl (by omega) (by omega) (fun bs2 mk2 g2 M2 S2 => ?_))
  simp only [List.set] at S2
  clear S_ S1
  repeat (first | ((with_reducible first|apply St.rI|apply St.rB|apply St.rP|apply St.rSl|apply St.rV|apply St.rM|apply St.rS|apply St.rN|apply St.ckA);assumption;(first|exact i0|exact i1|exact i2|exact i3|exact i4|exact i5|exact i6|exact i7|exact i8|exact i9|exact i10|exact i11|exact i12|exact i13|exact i14|exact i15);(first|rfl|exact Nat.le_of_ble_eq_true rfl)) | with_reducible refine der_of ?_ | ((with_reducible refine br_t ?_ ?_);rfl) | ((with_reducible refine br_f ?_ ?_);rfl) | ((with_reducible refine br_t ?_ ?_);assumption) | ((with_reducible refine br_f ?_ ?_);assumption) | ((with_reducible first|apply St.wrL|apply St.wr);assumption;(first|exact i0|exact i1|exact i2|exact i3|exact i4|exact i5|exact i6|exact i7|exact i8|exact i9|exact i10|exact i11|exact i12|exact i13|exact i14|exact i15);(first|exact Nat.le_of_ble_eq_true rfl|rfl);intro g_ S_;simp only [Ptr.add, List.set, splice, List.take, List.drop, List.nil_append, List.append_nil, List.cons_append, List.length_cons, List.length_nil, Nat.zero_add, Nat.add_zero, Nat.reduceAdd, Nat.reduceMul, Nat.mul_one, Int.toNat_zero, Int.toNat_one, Int.reduceToNat] at S_) | ((with_reducible refine ix_of ?_ ?_ ?_);exact of_decide_eq_true rfl;exact of_decide_eq_true rfl) | ((with_reducible first|refine nz_of ?_ ?_|refine nneg_of ?_ ?_);exact of_decide_eq_true rfl) | ((with_reducible refine chk_of ?_ ?_);rfl) | (with_reducible first|apply asI_of|apply asB_of|apply asP_of|apply asSl_of|apply asAggV_of|apply asTupV_of|apply asCons_of|apply asNil_of|apply isNil_n|apply isNil_i|apply nilC_i|apply nilCU_i|apply nilCU_f|apply mthC_i) | ((with_reducible refine And.intro ?_ ?_);rfl) | ((with_reducible apply exAnd);rfl))
  simp only [w64_0, w64_1, w64_2, w64_3, w64_4, w64_5, w64_6, w64_7, w64_8, w64_9, w64_10, w64_11, w64_12, w64_13, w64_14, w64_15, w64_16, w64_17, w64_18, w64_19]
  refine HI _ _ _ _ _ _ ?_
  unfold zf42.b11
  repeat (first | ((with_reducible first|apply St.rI|apply St.rB|apply St.rP|apply St.rSl|apply St.rV|apply St.rM|apply St.rS|apply St.rN|apply St.ckA);assumption;(first|exact i0|exact i1|exact i2|exact i3|exact i4|exact i5|exact i6|exact i7|exact i8|exact i9|exact i10|exact i11|exact i12|exact i13|exact i14|exact i15);(first|rfl|exact Nat.le_of_ble_eq_true rfl)) | with_reducible refine der_of ?_ | ((with_reducible refine br_t ?_ ?_);rfl) | ((with_reducible refine br_f ?_ ?_);rfl) | ((with_reducible refine br_t ?_ ?_);assumption) | ((with_reducible refine br_f ?_ ?_);assumption) | ((with_reducible first|apply St.wrL|apply St.wr);assumption;(first|exact i0|exact i1|exact i2|exact i3|exact i4|exact i5|exact i6|exact i7|exact i8|exact i9|exact i10|exact i11|exact i12|exact i13|exact i14|exact i15);(first|exact Nat.le_of_ble_eq_true rfl|rfl);intro g_ S_;simp only [Ptr.add, List.set, splice, List.take, List.drop, List.nil_append, List.append_nil, List.cons_append, List.length_cons, List.length_nil, Nat.zero_add, Nat.add_zero, Nat.reduceAdd, Nat.reduceMul, Nat.mul_one, Int.toNat_zero, Int.toNat_one, Int.reduceToNat] at S_) | ((with_reducible refine ix_of ?_ ?_ ?_);exact of_decide_eq_true rfl;exact of_decide_eq_true rfl) | ((with_reducible first|refine nz_of ?_ ?_|refine nneg_of ?_ ?_);exact of_decide_eq_true rfl) | ((with_reducible refine chk_of ?_ ?_);rfl) | (with_reducible first|apply asI_of|apply asB_of|apply asP_of|apply asSl_of|apply asAggV_of|apply asTupV_of|apply asCons_of|apply asNil_of|apply isNil_n|apply isNil_i|apply nilC_i|apply nilCU_i|apply nilCU_f|apply mthC_i) | ((with_reducible refine And.intro ?_ ?_);rfl) | ((with_reducible apply exAnd);rfl))
  ((with_reducible apply St.al); assumption; intro c3 g_ S_)
  repeat (first | ((with_reducible first|apply St.rI|apply St.rB|apply St.rP|apply St.rSl|apply St.rV|apply St.rM|apply St.rS|apply St.rN|apply St.ckA);assumption;(first|exact i0|exact i1|exact i2|exact i3|exact i4|exact i5|exact i6|exact i7|exact i8|exact i9|exact i10|exact i11|exact i12|exact i13|exact i14|exact i15);(first|rfl|exact Nat.le_of_ble_eq_true rfl)) | with_reducible refine der_of ?_ | ((with_reducible refine br_t ?_ ?_);rfl) | ((with_reducible refine br_f ?_ ?_);rfl) | ((with_reducible refine br_t ?_ ?_);assumption) | ((with_reducible refine br_f ?_ ?_);assumption) | ((with_reducible first|apply St.wrL|apply St.wr);assumption;(first|exact i0|exact i1|exact i2|exact i3|exact i4|exact i5|exact i6|exact i7|exact i8|exact i9|exact i10|exact i11|exact i12|exact i13|exact i14|exact i15);(first|exact Nat.le_of_ble_eq_true rfl|rfl);intro g_ S_;simp only [Ptr.add, List.set, splice, List.take, List.drop, List.nil_append, List.append_nil, List.cons_append, List.length_cons, List.length_nil, Nat.zero_add, Nat.add_zero, Nat.reduceAdd, Nat.reduceMul, Nat.mul_one, Int.toNat_zero, Int.toNat_one, Int.reduceToNat] at S_) | ((with_reducible refine ix_of ?_ ?_ ?_);exact of_decide_eq_true rfl;exact of_decide_eq_true rfl) | ((with_reducible first|refine nz_of ?_ ?_|refine nneg_of ?_ ?_);exact of_decide_eq_true rfl) | ((with_reducible refine chk_of ?_ ?_);rfl) | (with_reducible first|apply asI_of|apply asB_of|apply asP_of|apply asSl_of|apply asAggV_of|apply asTupV_of|apply asCons_of|apply asNil_of|apply isNil_n|apply isNil_i|apply nilC_i|apply nilCU_i|apply nilCU_f|apply mthC_i) | ((with_reducible refine And.intro ?_ ?_);rfl) | ((with_reducible apply exAnd);rfl))
  refine hu.store _ _ _ _ _ _ (gstore (g := 5) (p := 6) (b := 7) w hw hk8 S_ rfl rfl rfl (by decide) M2 hb (k := 41) (by decide) rfl (by omega) (by omega) (fun bs3 mk3 g3 M3 S3 => ?_))
  simp only [List.set] at S3
  clear S_ S2
  repeat (first | ((with_reducible first|apply St.rI|apply St.rB|apply St.rP|apply St.rSl|apply St.rV|apply St.rM|apply St.rS|apply St.rN|apply St.ckA);assumption;(first|exact i0|exact i1|exact i2|exact i3|exact i4|exact i5|exact i6|exact i7|exact i8|exact i9|exact i10|exact i11|exact i12|exact i13|exact i14|exact i15);(first|rfl|exact Nat.le_of_ble_eq_true rfl)) | with_reducible refine der_of ?_ | ((with_reducible refine br_t ?_ ?_);rfl) | ((with_reducible refine br_f ?_ ?_);rfl) | ((with_reducible refine br_t ?_ ?_);assumption) | ((with_reducible refine br_f ?_ ?_);assumption) | ((with_reducible first|apply St.wrL|apply St.wr);assumption;(first|exact i0|exact i1|exact i2|exact i3|exact i4|exact i5|exact i6|exact i7|exact i8|exact i9|exact i10|exact i11|exact i12|exact i13|exact i14|exact i15);(first|exact Nat.le_of_ble_eq_true rfl|rfl);intro g_ S_;simp only [Ptr.add, List.set, splice, List.take, List.drop, List.nil_append, List.append_nil, List.cons_append, List.length_cons, List.length_nil, Nat.zero_add, Nat.add_zero, Nat.reduceAdd, Nat.reduceMul, Nat.mul_one, Int.toNat_zero, Int.toNat_one, Int.reduceToNat] at S_) | ((with_reducible refine ix_of ?_ ?_ ?_);exact of_decide_eq_true rfl;exact of_decide_eq_true rfl) | ((with_reducible first|refine nz_of ?_ ?_|refine nneg_of ?_ ?_);exact of_decide_eq_true rfl) | ((with_reducible refine chk_of ?_ ?_);rfl) | (with_reducible first|apply asI_of|apply asB_of|apply asP_of|apply asSl_of|apply asAggV_of|apply asTupV_of|apply asCons_of|apply asNil_of|apply isNil_n|apply isNil_i|apply nilC_i|apply nilCU_i|apply nilCU_f|apply mthC_i) | ((with_reducible refine And.intro ?_ ?_);rfl) | ((with_reducible apply exAnd);rfl))
  simp only [w64_0, w64_1, w64_2, w64_3, w64_4, w64_5, w64_6, w64_7, w64_8, w64_9, w64_10, w64_11, w64_12, w64_13, w64_14, w64_15, w64_16, w64_17, w64_18, w64_19]
  refine HI _ _ _ _ _ _ ?_
  unfold zf42.b11
  repeat (first | ((with_reducible first|apply St.rI|apply St.rB|apply St.rP|apply St.rSl|apply St.rV|apply St.rM|apply St.rS|apply St.rN|apply St.ckA);assumption;(first|exact i0|exact i1|exact i2|exact i3|exact i4|exact i5|exact i6|exact i7|exact i8|exact i9|exact i10|exact i11|exact i12|exact i13|exact i14|exact i15);(first|rfl|exact Nat.le_of_ble_eq_true rfl)) | with_reducible refine der_of ?_ | ((with_reducible refine br_t ?_ ?_);rfl) | ((with_reducible refine br_f ?_ ?_);rfl) | ((with_reducible refine br_t ?_ ?_);assumption) | ((with_reducible refine br_f ?_ ?_);assumption) | ((with_reducible first|apply St.wrL|apply St.wr);assumption;(first|exact i0|exact i1|exact i2|exact i3|exact i4|exact i5|exact i6|exact i7|exact i8|exact i9|exact i10|exact i11|exact i12|exact i13|exact i14|exact i15);(first|exact Nat.le_of_ble_eq_true rfl|rfl);intro g_ S_;simp only [Ptr.add, List.set, splice, List.take, List.drop, List.nil_append, List.append_nil, List.cons_append, List.length_cons, List.length_nil, Nat.zero_add, Nat.add_zero, Nat.reduceAdd, Nat.reduceMul, Nat.mul_one, Int.toNat_zero, Int.toNat_one, Int.reduceToNat] at S_) | ((with_reducible refine ix_of ?_ ?_ ?_);exact of_decide_eq_true rfl;exact of_decide_eq_true rfl) | ((with_reducible first|refine nz_of ?_ ?_|refine nneg_of ?_ ?_);exact of_decide_eq_true rfl) | ((with_reducible refine chk_of ?_ ?_);rfl) | (with_reducible first|apply asI_of|apply asB_of|apply asP_of|apply asSl_of|apply asAggV_of|apply asTupV_of|apply asCons_of|apply asNil_of|apply isNil_n|apply isNil_i|apply nilC_i|apply nilCU_i|apply nilCU_f|apply mthC_i) | ((with_reducible refine And.intro ?_ ?_);rfl) | ((with_reducible apply exAnd);rfl))
  rw [eg] at S_
  exact hq bs3 mk3 _ M3 (St.pick S_ [4, 5, 6, 7] (by decide) rfl)

end
end Go.Back

/- Numbers of bytes; what a guest is asked for beside its words. -/
namespace Go.Back
open Go.Lift Go.Fn Go.Mem Go.Frames

theorem shl8 {v x : Nat} (hv : v < 72057594037927936) (hx : x < 256) : ibits .or .u64 (shlI .u64 (v : Int) 8) (x : Int) = ((x + 256 * v : Nat) : Int) := by
  have e : shlI .u64 (v : Int) 8 = ((v * 256 : Nat) : Int) := by
    unfold shlI
    have : (v : Int) * 2 ^ min ((8 : Int)).toNat IntKind.u64.bits = ((v * 256 : Nat) : Int) := by
      have h8 : min ((8 : Int)).toNat IntKind.u64.bits = 8 := by decide
      rw [h8]; push_cast; rfl
    rw [this, wrapu64] <;> omega
  rw [e, or_u64 (by omega) (by omega)]
  have := Nat.shiftLeft_add_eq_or_of_lt (show x < 2 ^ 8 by omega) v
  rw [Nat.shiftLeft_eq] at this
  rw [show (256 : Nat) = 2 ^ 8 by decide, ← this]
  congr 1; omega

theorem byteSum_le8 : ∀ l : List UInt8, byteSum l < 256 ^ l.length
  | [] => by simp [byteSum]
  | b :: l => by
    have := byteSum_le8 l
    have hb : b.toNat < 256 := b.toNat_lt
    simp only [byteSum, List.length_cons, Nat.pow_succ]
    omega

theorem num8 {h : Heap} {s : Sl} {l : List UInt8} (H : Held h s 1 (strCells l)) (hl : 8 ≤ l.length) {Q : Int → Heap → Prop} (hq : Q ((byteSum (l.take 8) : Nat) : Int) h) : zf9 s Q h := by
  unfold zf9 zf9.j2
  intro I HI
  have hlen : s.len = l.length := by have := H.len; rw [strCells_length] at this; omega
  obtain ⟨p, hp⟩ : ∃ p, s.p = some p := by
    cases hp : s.p with
    | none => have := H.nil hp; omega
    | some p => exact ⟨p, rfl⟩
  have key : ∀ (k : Nat) (v : Int), k ≤ 8 → v = ((byteSum ((l.take 8).drop k) : Nat) : Int) → I s v ((k : Int) - 1) h := by
    intro k
    induction k with
    | zero =>
      intro v hk hv
      refine HI _ _ _ _ ?_
      unfold zf9.b2
      refine br_f (by simp) ?_
      rw [hv]
      exact hq
    | succ k ih =>
      intro v hk hv
      refine HI _ _ _ _ ?_
      unfold zf9.b2
      have hkl : k < l.length := by omega
      have hget : l[k]? = some l[k] := List.getElem?_eq_getElem hkl
      refine br_t (decide_eq_true (by omega)) (nneg_of (by decide) (ix_of (by omega) (by omega) ?_))
      rw [hp, der_some]
      have ek : (((k + 1 : Nat) : Int) - 1).toNat = k := by omega
      rw [ek]
      refine rdI_of (x := (l[k].toNat : Int)) (by rw [Nat.mul_one]; exact H.row p hp k _ (by rw [strCells_get, hget]; rfl)) ?_
      have eu : IntKind.u64.wrap (l[k].toNat : Int) = l[k].toNat := by have := l[k].toNat_lt; rw [wrapu64] <;> omega
      have ew : IntKind.i64.wrap (((k + 1 : Nat) : Int) - 1 - 1) = (k : Int) - 1 := by rw [wrap64] <;> omega
      have hd : (l.take 8).drop k = l[k] :: (l.take 8).drop (k + 1) := by
        have hk8 : k < (l.take 8).length := by simp; omega
        rw [List.drop_eq_getElem_cons hk8]
        congr 1
        simp
      have hlt : byteSum ((l.take 8).drop (k + 1)) < 72057594037927936 := by
        have h1 := byteSum_le8 ((l.take 8).drop (k + 1))
        have h2 : ((l.take 8).drop (k + 1)).length ≤ 7 := by simp; omega
        have h3 : (256 : Nat) ^ ((l.take 8).drop (k + 1)).length ≤ 256 ^ 7 := Nat.pow_le_pow_right (by decide) h2
        have : (256 : Nat) ^ 7 = 72057594037927936 := by decide
        omega
      rw [eu, ew, hv, shl8 hlt l[k].toNat_lt]
      refine ih _ (by omega) ?_
      rw [hd]
      rfl
  exact key 8 0 (by decide) (by rw [List.drop_eq_nil_of_le (by simp; omega)]; rfl)

section
variable {U U' : Ifc} {x : Nat → Int} {h0 h : Heap} {W : Nat → Prop} {L : List (Nat × HO)}

/-- A guest's bytes are read: a fresh copy. -/
theorem gbytes {gb pm bm g p b base k n : Nat} {bs : List UInt8} {mk : Bool} {m : Nat → Int} (S : St h0 W L h)
    (hg : L[g]? = some (gb, .cells (flatC pm (base : Int)) false)) (hp : L[p]? = some (pm, .cells (memC bm) false)) (hm : L[b]? = some (bm, .cells (strCells bs) mk)) (hpb : p ≠ b) (M : MemIs bs base m) (hb : base + 16 ≤ 40) (hk : k + n ≤ 4096) {a n' : Int} (ea : a = (k : Int)) (en : n' = (n : Int))
    {Q : Sl → Int → Heap → Prop} (hq : ∀ s cb rest mk' h', St h0 W ((cb, .cells (strCells ((bs.drop (256 * base + k)).take n) ++ rest) mk') :: L) h' → s.p = some ⟨cb, 0⟩ → s.len = n → n ≤ s.cap → Q s 0 h') : zf32 (some ⟨gb, 0⟩) a n' Q h := by
  subst ea en
  have e16 : IntKind.u64.wrap (IntKind.i64.wrap (256 * 16)) = 4096 := by decide
  unfold zf32
  refine br_f (decide_eq_false (by omega)) ?_
  rw [der_some]
  refine S.rI hg rfl (br_f (decide_eq_false (by rw [e16]; omega)) ?_)
  rw [der_some]
  refine S.rI hg rfl (br_f (decide_eq_false (by rw [e16, wrapu64 (x := (n : Int)), wrapu64] <;> omega)) ?_)
  unfold zf32.j3
  rw [der_some]
  refine S.rP hg rfl ?_
  rw [der_some]
  refine S.rI hg rfl ?_
  have e : IntKind.u64.wrap ((k : Int) + IntKind.u64.wrap (IntKind.i64.wrap (256 * (base : Int)))) = ((256 * base + k : Nat) : Int) := by
    rw [wrap64 (x := 256 * (base : Int)), wrapu64 (x := 256 * (base : Int)), wrapu64] <;> omega
  rw [e]
  have hl := M.len
  refine Bytes_of (mrep S hp hm hpb M.len) (by omega) (by omega) (by omega) (by omega) (fun hn => absurd hn (by omega)) (fun _ hn => ?_) (fun _ _ _ s g1 cb O hs hcb k1 => ?_)
  · exfalso
    rw [hl] at hn
    simp [lies] at hn
    omega
  · obtain ⟨rest, mk', ho, _⟩ := O.obj
    rw [Int.toNat_natCast, Int.toNat_natCast] at ho
    rw [Int.toNat_natCast] at hs
    exact hq s cb rest mk' g1 (S.more hcb ho k1) O.p hs (by have := O.cap; omega)

end
end Go.Back

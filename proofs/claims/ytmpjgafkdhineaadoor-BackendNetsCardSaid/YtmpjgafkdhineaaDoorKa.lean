/- Words on shallow memories: reading, writing, what is kept. -/
import Derived.Test.YtmpjgafkdhineaaDoorLa
import Derived.Test.YtmpjgafkdhineaaDoorLb
import Derived.Test.YtmpjgafkdhineaaDoorFa

set_option linter.unusedSimpArgs false
set_option linter.unusedVariables false
set_option maxRecDepth 100000
namespace Go.Lift

theorem Heap.get_of_W {h : Heap} {b o : Nat} {v : V} (hg : h.getW b o = some v) : h.get b o = some v := by
  unfold Heap.getW at hg
  unfold Heap.get
  split at hg
  · rename_i l m hl; rw [hl]; exact hg
  · cases hg

theorem Heap.obj_of_W {h : Heap} {b o : Nat} {v : V} (hg : h.getW b o = some v) : h.obj b ≠ none := by
  unfold Heap.getW at hg
  intro hn
  rw [hn] at hg
  cases hg

theorem Heap.getW_set {h : Heap} {b o : Nat} {u v : V} (hg : h.getW b o = some u) (b' o' : Nat) : (h.set b o v).getW b' o' = if b' = b ∧ o' = o then some v else h.getW b' o' := by
  unfold Heap.getW at hg
  simp only [Heap.getW, Heap.set]
  by_cases hb : b' = b
  · subst hb
    simp only [if_true, true_and]
    cases hx : h.obj b' with
    | none => rw [hx] at hg; cases hg
    | some x =>
      rw [hx] at hg
      cases x with
      | map ks es bs c => cases hg
      | iter m a b c => cases hg
      | siter a b => cases hg
      | chan a b => cases hg
      | ro f => cases hg
      | cells l m =>
        simp only at hg
        simp only [Option.map_some, HO.set]
        by_cases ho : o' = o
        · subst ho
          rw [if_pos rfl, List.getElem?_set_self]
          rcases Nat.lt_or_ge o' l.length with h | h
          · exact h
          · rw [List.getElem?_eq_none h] at hg; cases hg
        · rw [if_neg ho, List.getElem?_set_ne (fun h => ho h.symm)]
  · simp [hb]

theorem Heap.obj_set {h : Heap} {b o : Nat} {v : V} {b' : Nat} (hb : b' ≠ b) : (h.set b o v).obj b' = h.obj b' := by
  simp [Heap.set, hb]

theorem Heap.getW_obj {h h' : Heap} {b : Nat} (e : h'.obj b = h.obj b) (o : Nat) : h'.getW b o = h.getW b o := by
  simp [Heap.getW, e]

theorem Heap.get_obj {h h' : Heap} {b : Nat} (e : h'.obj b = h.obj b) (o : Nat) : h'.get b o = h.get b o := by
  simp [Heap.get, e]

/-- All blocks that were known are as they were, but those of S, which are known still. -/
structure Keeps (S : Nat → Prop) (h h' : Heap) : Prop where
  same : ∀ b, h.obj b ≠ none → ¬ S b → h'.obj b = h.obj b
  known : ∀ b, h.obj b ≠ none → h'.obj b ≠ none

def none_ : Nat → Prop := fun _ => False

theorem Keeps.refl (S : Nat → Prop) (h : Heap) : Keeps S h h := ⟨fun _ _ _ => rfl, fun _ h => h⟩

theorem Keeps.trans {S : Nat → Prop} {a b c : Heap} (h : Keeps S a b) (k : Keeps S b c) : Keeps S a c :=
  ⟨fun x hx hs => (k.same x (h.known x hx) hs).trans (h.same x hx hs), fun x hx => k.known x (h.known x hx)⟩

theorem Keeps.mono {S S' : Nat → Prop} {a b : Heap} (h : Keeps S a b) (hs : ∀ x, S x → S' x) : Keeps S' a b :=
  ⟨fun x hx hn => h.same x hx (fun s => hn (hs x s)), h.known⟩

theorem Keeps.set {h : Heap} {b o : Nat} {u v : V} (hg : h.getW b o = some u) : Keeps (· = b) h (h.set b o v) := by
  refine ⟨fun x _ hs => Heap.obj_set hs, fun x hx => ?_⟩
  by_cases hb : x = b
  · subst hb
    simp only [Heap.set, if_true]
    cases hy : h.obj x with
    | none => exact absurd hy hx
    | some y => simp
  · rw [Heap.obj_set hb]; exact hx

theorem Keeps.new {S : Nat → Prop} {h : Heap} {b : Nat} (hb : h.obj b = none) (x : HO) : Keeps S h (h.new b x) := by
  refine ⟨fun y hy _ => ?_, fun y hy => ?_⟩ <;>
  · have : y ≠ b := fun e => hy (e ▸ hb)
    simp only [Heap.new, if_neg this]
    try exact hy

theorem Heap.new_obj {h : Heap} {b : Nat} {x : HO} : (h.new b x).obj b = some x := by simp [Heap.new]

theorem getW_cells {h : Heap} {b : Nat} {l : List V} {m : Bool} (e : h.obj b = some (.cells l m)) (o : Nat) : h.getW b o = l[o]? := by simp [Heap.getW, e]
theorem get_cells {h : Heap} {b : Nat} {l : List V} {m : Bool} (e : h.obj b = some (.cells l m)) (o : Nat) : h.get b o = l[o]? := by simp [Heap.get, e]

/-! ### steps -/

theorem rdI_of {k : IntKind} {p : Ptr} {κ : Int → Prop} {h : Heap} {x : Int} (hg : h.get p.b p.o = some (.int k x)) (hk : κ x) : rdI k p κ h := ⟨x, hg, hk⟩
theorem rdB_of {p : Ptr} {κ : Bool → Prop} {h : Heap} {x : Bool} (hg : h.get p.b p.o = some (.bool x)) (hk : κ x) : rdB p κ h := ⟨x, hg, hk⟩
theorem rdStr_of {p : Ptr} {κ : List UInt8 → Prop} {h : Heap} {x : List UInt8} (hg : h.get p.b p.o = some (.str x)) (hk : κ x) : rdStr p κ h := ⟨x, hg, hk⟩
theorem rdP_of {p : Ptr} {κ : Option Ptr → Prop} {h : Heap} {x : Option Ptr} (hg : h.get p.b p.o = some (.ptr x)) (hk : κ x) : rdP p κ h := ⟨x, hg, hk⟩
theorem rdSl_of {p : Ptr} {κ : Sl → Prop} {h : Heap} {x : Sl} (hg : h.get p.b p.o = some (.sl x)) (hk : κ x) : rdSl p κ h := ⟨x, hg, hk⟩
theorem rdM_of {p : Ptr} {κ : Option Nat → Prop} {h : Heap} {x : Option Nat} (hg : h.get p.b p.o = some (.map x)) (hk : κ x) : rdM p κ h := ⟨x, hg, hk⟩
theorem rdC_of {p : Ptr} {κ : Option Nat → Prop} {h : Heap} {x : Option Nat} (hg : h.get p.b p.o = some (.chan x)) (hk : κ x) : rdC p κ h := ⟨x, hg, hk⟩
theorem rdV_of {p : Ptr} {κ : V → Prop} {h : Heap} {x : V} (hg : h.get p.b p.o = some x) (hk : κ x) : rdV p κ h := ⟨x, hg, hk⟩
theorem wr_of {p : Ptr} {v u : V} {κ : Heap → Prop} {h : Heap} (hg : h.getW p.b p.o = some u) (hk : κ (h.set p.b p.o v)) : wr p v κ h := ⟨⟨u, hg⟩, hk⟩

theorem br_if {c : Bool} {A B : Prop} (h1 : c = true → A) (h2 : c = false → B) : br c A B := by
  cases c
  · exact h2 rfl
  · exact h1 rfl

theorem br_f {c : Bool} {A B : Prop} (h : c = false) (hB : B) : br c A B := by rw [h]; exact hB
theorem br_t {c : Bool} {A B : Prop} (h : c = true) (hA : A) : br c A B := by rw [h]; exact hA

theorem ix_of {i : Int} {n : Nat} {κ : Nat → Prop} (h0 : 0 ≤ i) (h1 : i < n) (hk : κ i.toNat) : ix i n κ := ⟨h0, h1, hk⟩

theorem br_true {A B : Prop} : br true A B = A := rfl
theorem br_false {A B : Prop} : br false A B = B := rfl
theorem der_some {p : Ptr} {κ : Ptr → Prop} : der (some p) κ = κ p := rfl

theorem al_of {z : List V} {κ : Nat → Heap → Prop} {h : Heap} (hk : ∀ b h', h.obj b = none → h'.obj b = some (.cells z false) → Keeps none_ h h' → κ b h') : al z κ h :=
  fun b hb => hk b _ hb Heap.new_obj (Keeps.new hb _)

end Go.Lift

namespace Go.Lift

theorem loc_I {l : List V} {m : Bool} {b o : Nat} {k : IntKind} {x : Int} {κ : Int → Prop} {h : Heap} (ho : h.obj b = some (.cells l m)) (hx : l[o]? = some (.int k x)) (hk : κ x) : rdI k ⟨b, o⟩ κ h := rdI_of ((get_cells ho _).trans hx) hk
theorem loc_P {l : List V} {m : Bool} {b o : Nat} {x : Option Ptr} {κ : Option Ptr → Prop} {h : Heap} (ho : h.obj b = some (.cells l m)) (hx : l[o]? = some (.ptr x)) (hk : κ x) : rdP ⟨b, o⟩ κ h := rdP_of ((get_cells ho _).trans hx) hk
theorem loc_Sl {l : List V} {m : Bool} {b o : Nat} {x : Sl} {κ : Sl → Prop} {h : Heap} (ho : h.obj b = some (.cells l m)) (hx : l[o]? = some (.sl x)) (hk : κ x) : rdSl ⟨b, o⟩ κ h := rdSl_of ((get_cells ho _).trans hx) hk
theorem Keeps.obj {S : Nat → Prop} {h h' : Heap} {b : Nat} {x : HO} (k : Keeps S h h') (e : h.obj b = some x) (hs : ¬ S b) : h'.obj b = some x := (k.same b (by rw [e]; simp) hs).trans e
theorem Keeps.ne {S : Nat → Prop} {h h' : Heap} {b c : Nat} (k : Keeps S h h') (hb : h.obj b ≠ none) (hc : h'.obj c = none) : b ≠ c := fun e => k.known b hb (e ▸ hc)

/-- A row of integers. -/
def IntArr (k : IntKind) (n : Nat) (p : Ptr) (f : Nat → Int) (h : Heap) : Prop := ∀ i, i < n → h.getW p.b (p.o + i * 1) = some (.int k (f i))

section
variable {k : IntKind} {n : Nat} {p : Ptr} {f : Nat → Int} {h h' : Heap}
theorem IntArr.stay (R : IntArr k n p f h) (e : h'.obj p.b = h.obj p.b) : IntArr k n p f h' := fun i hi => (Heap.getW_obj e _).trans (R i hi)
theorem IntArr.known (R : IntArr k n p f h) (hn : 0 < n) : h.obj p.b ≠ none := Heap.obj_of_W (R 0 hn)
theorem IntArr.keeps {S : Nat → Prop} (R : IntArr k n p f h) (hk : Keeps S h h') (hn : 0 < n) (hs : ¬ S p.b) : IntArr k n p f h' := R.stay (hk.same _ (R.known hn) hs)
theorem IntArr.rd (R : IntArr k n p f h) {i : Nat} (hi : i < n) {κ : Int → Prop} (hk : κ (f i)) : rdI k (p.add (i * 1)) κ h := rdI_of (Heap.get_of_W (R i hi)) hk
theorem IntArr.wr (R : IntArr k n p f h) {i : Nat} (hi : i < n) {x : Int} {κ : Heap → Prop} (hk : ∀ h', IntArr k n p (fun j => if j = i then x else f j) h' → Keeps (· = p.b) h h' → κ h') : wr (p.add (i * 1)) (.int k x) κ h := by
  have hg := R i hi
  refine wr_of hg (hk _ ?_ (Keeps.set hg))
  intro j hj
  refine (Heap.getW_set hg _ _).trans ?_
  by_cases e : j = i
  · subst e; rw [if_pos ⟨rfl, rfl⟩]; simp
  · rw [if_neg (by rintro ⟨_, e2⟩; omega)]; simp only [if_neg e]; exact R j hj
end

/-! ### records from lists -/

def isS : Option V → Bool | some (.str _) => true | _ => false
end Go.Lift

set_option linter.unusedSimpArgs false
set_option linter.unusedVariables false
set_option maxRecDepth 100000
namespace Go.Lift

theorem wrap64 {x : Int} (h1 : -9223372036854775808 ≤ x := by omega) (h2 : x ≤ 9223372036854775807 := by omega) : IntKind.i64.wrap x = x := by
  simp only [IntKind.wrap, IntKind.bits, IntKind.signed]
  simp
  split <;> omega

theorem wrapu64 {x : Int} (h1 : 0 ≤ x := by omega) (h2 : x ≤ 18446744073709551615 := by omega) : IntKind.u64.wrap x = x := by
  simp only [IntKind.wrap, IntKind.bits, IntKind.signed]
  simp
  omega

theorem and64_le (x m : Int) (h0 : 0 ≤ m) (h1 : m ≤ 9223372036854775807) : 0 ≤ ibits .and .i64 x m ∧ ibits .and .i64 x m ≤ m := by
  have hle : (BitVec.ofInt 64 x &&& BitVec.ofInt 64 m).toNat ≤ (BitVec.ofInt 64 m).toNat := by
    rw [BitVec.toNat_and]; exact Nat.and_le_right
  have hm : ((BitVec.ofInt 64 m).toNat : Int) = m := by
    rw [BitVec.toNat_ofInt]
    omega
  have : ibits .and .i64 x m = IntKind.i64.wrap ((BitVec.ofInt 64 x &&& BitVec.ofInt 64 m).toNat : Int) := rfl
  rw [this, wrap64]
  omega

end Go.Lift

set_option linter.unusedSimpArgs false
set_option linter.unusedVariables false
set_option maxRecDepth 100000
namespace Go.Lift

theorem chk_of {b : Bool} {A : Prop} (h : b = true) (hA : A) : chk b A := by rw [h]; exact hA
theorem sb_of {i : Int} {n : Nat} {κ : Nat → Prop} (h0 : 0 ≤ i) (h1 : i ≤ n) (hk : κ i.toNat) : sb i n κ := ⟨h0, h1, hk⟩
theorem nz_of {x : Int} {A : Prop} (h : x ≠ 0) (hA : A) : nz x A := ⟨h, hA⟩
theorem nneg_of {x : Int} {A : Prop} (h : 0 ≤ x) (hA : A) : nneg x A := ⟨h, hA⟩

/-- A local variable is laid, then written. -/
theorem Keeps.widen' {h h1 h2 : Heap} {b : Nat} (k1 : Keeps none_ h h1) (k2 : Keeps (· = b) h1 h2) (hb : h.obj b = none) : Keeps none_ h h2 := by
  refine ⟨fun y hy _ => ?_, fun y hy => k2.known y (k1.known y hy)⟩
  rw [k2.same y (k1.known y hy) (fun e => hy (e ▸ hb))]
  exact k1.same y hy (fun f => f)

/-- A slice whose cells are known. -/
structure Held (h : Heap) (s : Sl) (sz : Nat) (vs : List V) : Prop where
  len : vs.length = s.len * sz
  row : ∀ p, s.p = some p → ∀ i v, vs[i]? = some v → h.get p.b (p.o + i) = some v
  nil : s.p = none → s.len = 0

/-- The block of a slice. -/
def Sl.at (s : Sl) (b : Nat) : Prop := ∃ p, s.p = some p ∧ p.b = b

theorem Held.keeps {S : Nat → Prop} {h h' : Heap} {s : Sl} {sz : Nat} {vs : List V} (H : Held h s sz vs) (k : Keeps S h h') (hs : ∀ p, s.p = some p → ¬ S p.b) : Held h' s sz vs := by
  refine ⟨H.len, fun p hp i v hv => ?_, H.nil⟩
  have hg := H.row p hp i v hv
  have hn : h.obj p.b ≠ none := by
    intro hn; unfold Heap.get at hg; rw [hn] at hg; cases hg
  rw [Heap.get_obj (k.same p.b hn (hs p hp))]; exact hg

theorem Held.known {h : Heap} {s : Sl} {sz : Nat} {vs : List V} (H : Held h s sz vs) (hne : vs ≠ []) (p : Ptr) (hp : s.p = some p) : h.obj p.b ≠ none := by
  cases vs with
  | nil => exact absurd rfl hne
  | cons v vs =>
    have := H.row p hp 0 v rfl
    intro hn
    unfold Heap.get at this
    rw [hn] at this
    cases this

theorem Held.empty {h : Heap} {sz : Nat} : Held h ⟨none, 0, 0⟩ sz [] := ⟨by simp, fun p hp => (by cases hp), fun _ => rfl⟩

theorem rdN_held {h : Heap} {n : Nat} {p : Ptr} {vs : List V} {κ : List V → Prop} (hl : vs.length = n) (hr : ∀ i v, vs[i]? = some v → h.get p.b (p.o + i) = some v) (hk : κ vs) : rdN n p κ h := by
  refine ⟨vs, hl, fun i hi => ?_, hk⟩
  rw [List.getElem?_eq_getElem (by omega)]
  exact hr i _ (List.getElem?_eq_getElem (by omega))

theorem cellsS_of {h : Heap} {s : Sl} {sz : Nat} {vs : List V} {κ : List V → Prop} (H : Held h s sz vs) (hk : κ vs) : cellsS sz s κ h := by
  unfold cellsS
  cases hp : s.p with
  | none =>
    have h0 := H.nil hp
    have : vs = [] := List.length_eq_zero_iff.1 (by rw [H.len, h0]; simp)
    subst this
    exact ⟨h0, hk⟩
  | some p => exact rdN_held H.len (H.row p hp) hk

/-- A slice of one's own: its block is known, and begins with it. -/
structure Own (h : Heap) (s : Sl) (sz : Nat) (vs : List V) (b : Nat) : Prop where
  p : s.p = some ⟨b, 0⟩
  cap : s.len ≤ s.cap
  len : vs.length = s.len * sz
  obj : ∃ rest mk, h.obj b = some (.cells (vs ++ rest) mk) ∧ rest.length = (s.cap - s.len) * sz

section
variable {h h' : Heap} {s : Sl} {sz : Nat} {vs : List V} {b : Nat}

theorem Own.held (O : Own h s sz vs b) : Held h s sz vs := by
  refine ⟨O.len, fun p hp i v hv => ?_, fun hp => by rw [O.p] at hp; cases hp⟩
  rw [O.p] at hp; cases hp
  obtain ⟨rest, mk, ho, _⟩ := O.obj
  rw [get_cells ho, Nat.zero_add]
  rcases Nat.lt_or_ge i vs.length with h | h
  · rw [List.getElem?_append_left h]; exact hv
  · rw [List.getElem?_eq_none h] at hv; cases hv

theorem Own.known (O : Own h s sz vs b) : h.obj b ≠ none := by obtain ⟨rest, mk, ho, _⟩ := O.obj; rw [ho]; simp

theorem Own.stay (O : Own h s sz vs b) (e : h'.obj b = h.obj b) : Own h' s sz vs b := by
  obtain ⟨rest, mk, ho, hr⟩ := O.obj
  exact ⟨O.p, O.cap, O.len, rest, mk, by rw [e]; exact ho, hr⟩

theorem Own.keeps {S : Nat → Prop} (O : Own h s sz vs b) (k : Keeps S h h') (hs : ¬ S b) : Own h' s sz vs b := O.stay (k.same b O.known hs)

end

/-- What stands at o in a list is replaced by so many others. -/
def splice (L : List V) (o : Nat) (vs : List V) : List V := L.take o ++ vs ++ L.drop (o + vs.length)

theorem splice_get {L vs : List V} {o : Nat} (hl : o + vs.length ≤ L.length) (i : Nat) : (splice L o vs)[i]? = if o ≤ i ∧ i < o + vs.length then vs[i - o]? else L[i]? := by
  unfold splice
  by_cases h1 : i < o
  · rw [List.append_assoc, List.getElem?_append_left (by simp; omega), List.getElem?_take_of_lt h1, if_neg (by omega)]
  · have ht : (L.take o).length = o := by simp; omega
    by_cases h2 : i < o + vs.length
    · rw [List.append_assoc, List.getElem?_append_right (by omega), ht, List.getElem?_append_left (by omega), if_pos (by omega)]
    · rw [List.getElem?_append_right (by simp; omega)]
      simp only [List.length_append, ht, List.getElem?_drop]
      rw [if_neg (by omega)]
      congr 1; omega

theorem splice_set {L vs : List V} {v : V} {o : Nat} (hl : o + (vs.length + 1) ≤ L.length) : splice (L.set o v) (o + 1) vs = splice L o (v :: vs) := by
  apply List.ext_getElem?
  intro i
  rw [splice_get (by simp; omega), splice_get (by simpa using hl)]
  simp only [List.length_cons]
  by_cases h1 : i = o
  · subst h1
    rw [if_neg (by omega), if_pos (by omega), List.getElem?_set_self (by omega)]
    simp
  · by_cases h2 : o + 1 ≤ i ∧ i < o + 1 + vs.length
    · rw [if_pos h2, if_pos (by omega)]
      have : i - o = (i - (o + 1)) + 1 := by omega
      rw [this, List.getElem?_cons_succ]
    · rw [if_neg h2, if_neg (by omega), List.getElem?_set_ne (by omega)]

theorem wrL_of {κ : Heap → Prop} : ∀ {vs L : List V} {mk : Bool} {b o j : Nat} {h : Heap}, h.obj b = some (.cells L mk) → o + j + vs.length ≤ L.length → (∀ h', h'.obj b = some (.cells (splice L (o + j) vs) mk) → Keeps (· = b) h h' → κ h') → wrL vs ⟨b, o⟩ j κ h := by
  intro vs
  induction vs with
  | nil =>
    intro L mk b o j h ho hl hk
    exact hk h (by simpa [splice] using ho) (Keeps.refl _ _)
  | cons v vs ih =>
    intro L mk b o j h ho hl hk
    simp only [List.length_cons] at hl
    have hg : h.getW b (o + j) = some (L[o + j]'(by omega)) := by rw [getW_cells ho]; exact List.getElem?_eq_getElem (by omega)
    refine wr_of (p := (⟨b, o⟩ : Ptr).add j) hg ?_
    refine ih (L := L.set (o + j) v) (mk := mk) ?_ (by simp; omega) ?_
    · show (h.set b (o + j) v).obj b = _
      simp [Heap.set, ho, HO.set]
    · intro h' ho' hk'
      refine hk h' ?_ ((Keeps.set hg).trans hk')
      rw [ho', ← splice_set (by omega)]
      rfl

section
variable {h : Heap} {s : Sl} {sz : Nat} {vs new : List V} {b m bytes : Nat} {z : List V}

theorem flatRep_length (n : Nat) (z : List V) : (flatRep n z).length = n * z.length := by
  simp [flatRep]

/-- append to a slice of one's own -/
theorem appS_own {κ : Sl → Heap → Prop} (O : Own h s sz vs b) (hnew : new.length = m * sz) (hz : z.length = sz) (hb : (s.len + m) * bytes ≤ 140737488355328) (hm : s.len + m ≤ 9223372036854775807)
    (hk : ∀ s' h' b', Own h' s' sz (vs ++ new) b' → s'.len = s.len + m → (b' = b ∨ h.obj b' = none) → Keeps (· = b) h h' → κ s' h') : appS sz bytes z s new m κ h := by
  obtain ⟨rest, mk, ho, hr⟩ := O.obj
  have hlen := O.len
  unfold appS
  by_cases hc : s.len + m ≤ s.cap
  · rw [if_pos hc, O.p]
    simp only
    have hmul : (s.len + m) * sz ≤ s.cap * sz := Nat.mul_le_mul_right _ hc
    have hrl : rest.length = s.cap * sz - s.len * sz := by rw [hr, Nat.sub_mul]
    rw [Nat.add_mul] at hmul
    refine wrL_of (b := b) (o := 0 + s.len * sz) ho (by simp; omega) ?_
    intro h' ho' hk'
    refine hk _ h' b ?_ rfl (.inl rfl) hk'
    refine ⟨rfl, hc, by simp [hnew, hlen, Nat.add_mul], rest.drop new.length, mk, ?_, ?_⟩
    · rw [ho']
      congr 2
      unfold splice
      rw [Nat.add_zero, Nat.zero_add, ← hlen, List.take_left, List.drop_append]
      simp
    · simp only [List.length_drop, hnew, hr]; rw [← Nat.sub_mul]; congr 1; omega
  · rw [if_neg hc]
    refine ⟨hb, hm, ?_⟩
    rw [O.p]
    refine rdN_held O.len (O.held.row _ O.p) ?_
    intro c hcc b' hb'
    refine hk _ _ b' ?_ rfl (.inr hb') (Keeps.new hb' _)
    exact ⟨rfl, hcc, by simp [hnew, hlen, Nat.add_mul], flatRep (c - (s.len + m)) z, false, by simp [Heap.new], by rw [flatRep_length, hz]⟩

/-- append to nil -/
theorem appS_nil {κ : Sl → Heap → Prop} (hnew : new.length = m * sz) (h0 : 0 < m) (hz : z.length = sz) (hb : m * bytes ≤ 140737488355328) (hm : m ≤ 9223372036854775807)
    (hk : ∀ s' h' b', Own h' s' sz new b' → s'.len = m → h.obj b' = none → Keeps none_ h h' → κ s' h') : appS sz bytes z ⟨none, 0, 0⟩ new m κ h := by
  unfold appS
  rw [if_neg (by simp; omega)]
  refine ⟨by show (0 + m) * bytes ≤ _; rw [Nat.zero_add]; exact hb, by show 0 + m ≤ _; rw [Nat.zero_add]; exact hm, rfl, ?_⟩
  intro c hc b' hb'
  refine hk _ _ b' ?_ (by simp) hb' (Keeps.new hb' _)
  exact ⟨rfl, hc, by simp [hnew], flatRep (c - (0 + m)) z, false, by simp [Heap.new], by rw [flatRep_length, hz]⟩

/-- append(T{}, x...): a copy -/
theorem copy_of {κ : Sl → Heap → Prop} {n : Nat} (hnew : new.length = n * sz) (hz : z.length = sz) (hb : n * bytes ≤ 140737488355328) (hm : n ≤ 9223372036854775807)
    (hk : ∀ s' h' b', Own h' s' sz new b' → s'.len = n → h.obj b' = none → Keeps none_ h h' → κ s' h') {b : Nat} (hbn : h.obj b = none) : appS sz bytes z ⟨some ⟨b, 0⟩, 0, 0⟩ new n κ (h.new b (.cells [] false)) := by
  have kb : Keeps none_ h (h.new b (.cells [] false)) := Keeps.new hbn _
  refine appS_own (vs := []) (b := b) ⟨rfl, Nat.le_refl _, by simp, [], false, by simp [Heap.new], by simp⟩ hnew hz (by show (0 + n) * bytes ≤ _; rw [Nat.zero_add]; exact hb) (by show 0 + n ≤ _; rw [Nat.zero_add]; exact hm) ?_
  intro s' h' b' O hl hbb hk'
  have hbn' : h.obj b' = none := by
    rcases hbb with rfl | hbb
    · exact hbn
    · cases hx : h.obj b' with
      | none => rfl
      | some x => exact absurd hbb (kb.known b' (by rw [hx]; simp))
  refine hk s' h' b' (by simpa using O) (by simpa using hl) hbn' ⟨fun x hx _ => ?_, fun x hx => hk'.known x (kb.known x hx)⟩
  have hne : x ≠ b := fun e => hx (e ▸ hbn)
  rw [hk'.same x (kb.known x hx) hne]
  exact kb.same x hx (fun f => f)

theorem mkSl_of {κ : Sl → Heap → Prop} {n : Nat} (hz : z.length = sz) (hb : bytes * n ≤ 281474976710656) (hm : n ≤ 9223372036854775807)
    (hk : ∀ h' b', Own h' ⟨some ⟨b', 0⟩, n, n⟩ sz (flatRep n z) b' → h.obj b' = none → Keeps none_ h h' → κ ⟨some ⟨b', 0⟩, n, n⟩ h') : mkSl bytes z n n κ h := by
  refine ⟨by omega, by omega, by omega, by rw [← Int.natCast_mul]; exact Int.ofNat_le.2 hb, ?_⟩
  intro b' hb'
  have e : ((n : Int)).toNat = n := by omega
  rw [e]
  exact hk _ b' ⟨rfl, Nat.le_refl _, by rw [flatRep_length, hz], [], false, by simp [Heap.new], by simp⟩ hb' (Keeps.new hb' _)

/-- copy into a block of one's own -/
theorem copyS_of {κ : Int → Heap → Prop} {d : Sl} {o : Nat} {L cs : List V} {mk : Bool} (hp : d.p = some ⟨b, o⟩) (ho : h.obj b = some (.cells L mk)) (hl : o + (cs.take (min m d.len * sz)).length ≤ L.length)
    (hk : ∀ h', h'.obj b = some (.cells (splice L o (cs.take (min m d.len * sz))) mk) → Keeps (· = b) h h' → κ (min m d.len : Nat) h') : copyS sz d cs m κ h := by
  unfold copyS
  rw [hp]
  refine wrL_of (j := 0) ho (by simpa using hl) ?_
  intro h' ho' hk'
  exact hk h' (by simpa using ho') hk'

end

/-! ### bytes -/

theorem u8_ofNat (b : UInt8) : UInt8.ofNat ((b.toNat : Int)).toNat = b := by simp

theorem bytesOf_str (s : List UInt8) (κ : List UInt8 → Prop) : bytesOf (strCells s) κ = κ s := by
  induction s generalizing κ with
  | nil => rfl
  | cons b s ih =>
    show bytesOf (strCells s) (fun s => κ (UInt8.ofNat ((b.toNat : Int)).toNat :: s)) = _
    rw [ih, u8_ofNat]

theorem strCells_length (s : List UInt8) : (strCells s).length = s.length := by simp [strCells]
theorem strCells_append (a b : List UInt8) : strCells (a ++ b) = strCells a ++ strCells b := by simp [strCells]
theorem strCells_get (s : List UInt8) (i : Nat) : (strCells s)[i]? = s[i]?.map (fun b => V.int .u8 b.toNat) := by simp [strCells]
theorem flatRep_bytes (n : Nat) : flatRep n [.int .u8 0] = strCells (List.replicate n 0) := by
  induction n with
  | zero => rfl
  | succ n ih =>
    simp only [flatRep, List.replicate_succ, List.flatten_cons, strCells, List.map_cons] at ih ⊢
    rw [ih]; rfl

/-! ### maps whose keys are numbers -/

def ikeys (k : IntKind) (l : List (Int × V)) : List (V × V) := l.map fun p => (.int k p.1, p.2)
def iput (a : Int) (v : V) : List (Int × V) → List (Int × V)
  | [] => [(a, v)]
  | (a', v') :: l => if a = a' then (a, v) :: l else (a', v') :: iput a v l
def ifind (a : Int) : List (Int × V) → Option V
  | [] => none
  | (a', v') :: l => if a = a' then some v' else ifind a l

theorem mfind_ikeys {k : IntKind} {a : Int} (l : List (Int × V)) : mfind (.int k a) (ikeys k l) = ifind a l := by
  induction l with
  | nil => rfl
  | cons p l ih =>
    obtain ⟨a', v⟩ := p
    simp only [ikeys, List.map_cons, mfind, keq, ifind]
    by_cases e : a = a'
    · simp [e]
    · simp only [beq_eq_false_iff_ne.2 e, cond_false, if_neg e]; exact ih
theorem mput_ikeys {k : IntKind} {a : Int} {v : V} (l : List (Int × V)) : mput (.int k a) v (ikeys k l) = ikeys k (iput a v l) := by
  induction l with
  | nil => rfl
  | cons p l ih =>
    obtain ⟨a', v'⟩ := p
    simp only [ikeys, List.map_cons, mput, keq, iput]
    by_cases e : a = a'
    · simp [e]
    · simp only [beq_eq_false_iff_ne.2 e, cond_false, if_neg e, List.map_cons]; rw [show List.map _ l = ikeys k l from rfl, ih]; rfl
def IKeys (l : List (Int × V)) : Prop := (l.map (·.1)).Nodup

theorem ifind_iput {a x : Int} {v : V} (l : List (Int × V)) : ifind x (iput a v l) = if x = a then some v else ifind x l := by
  induction l with
  | nil => simp [iput, ifind]
  | cons p l ih =>
    obtain ⟨a', v'⟩ := p
    simp only [iput]
    by_cases e : a = a'
    · subst e; simp only [if_true, ifind]
      by_cases e2 : x = a <;> simp [e2]
    · rw [if_neg e]; simp only [ifind, ih]
      by_cases e2 : x = a'
      · subst e2; rw [if_pos rfl, if_neg (fun h => e h.symm), if_pos rfl]
      · simp [e2]

theorem iput_keys {a x : Int} {v : V} {l : List (Int × V)} (h : x ∈ (iput a v l).map (·.1)) : x = a ∨ x ∈ l.map (·.1) := by
  induction l with
  | nil => simp [iput] at h; exact .inl h
  | cons p l ih =>
    obtain ⟨a', v'⟩ := p
    simp only [iput] at h
    by_cases e : a = a'
    · subst e; rw [if_pos rfl] at h; simpa using h
    · rw [if_neg e] at h
      simp only [List.map_cons, List.mem_cons] at h ⊢
      rcases h with h | h
      · exact .inr (.inl h)
      · rcases ih h with h | h
        · exact .inl h
        · exact .inr (.inr h)
theorem IKeys.put {a : Int} {v : V} {l : List (Int × V)} (hn : IKeys l) : IKeys (iput a v l) := by
  induction l with
  | nil => simp [iput, IKeys]
  | cons p l ih =>
    obtain ⟨a', v'⟩ := p
    simp only [iput]
    by_cases e : a = a'
    · subst e; rw [if_pos rfl]; exact hn
    · rw [if_neg e]
      simp only [IKeys, List.map_cons, List.nodup_cons] at hn ⊢
      refine ⟨fun h => ?_, ih hn.2⟩
      rcases iput_keys h with h | h
      · exact e h.symm
      · exact hn.1 h
/-- A map whose keys are numbers stands at m. -/
def MapAt (h : Heap) (m : Nat) (k : IntKind) (l : List (Int × V)) : Prop :=
  ∃ bs c, h.obj m = some (.map (.int k) (ikeys k l) bs c) ∧ bs.Nodup ∧ (∀ b, b ∈ bs → b < c) ∧ bs.length = l.length

theorem iput_length {a : Int} {v : V} (l : List (Int × V)) : (iput a v l).length = if ifind a l = none then l.length + 1 else l.length := by
  induction l with
  | nil => rfl
  | cons p l ih =>
    obtain ⟨a', v'⟩ := p
    simp only [iput, ifind]
    by_cases e : a = a'
    · simp [e]
    · simp only [if_neg e, List.length_cons, ih]; split <;> rfl

section
variable {h h' : Heap} {m : Nat} {k : IntKind} {l : List (Int × V)}

theorem MapAt.known (M : MapAt h m k l) : h.obj m ≠ none := by obtain ⟨bs, c, ho, _⟩ := M; rw [ho]; simp
theorem MapAt.keeps {S : Nat → Prop} (M : MapAt h m k l) (kk : Keeps S h h') (hs : ¬ S m) : MapAt h' m k l := by
  obtain ⟨bs, c, ho, h1⟩ := M; exact ⟨bs, c, kk.obj ho hs, h1⟩
theorem MapAt.ne {b : Nat} (M : MapAt h m k l) (hb : h.obj b = none) : b ≠ m := fun e => M.known (e ▸ hb)
theorem MapAt.cells {b : Nat} {x : List V} {mk : Bool} (M : MapAt h m k l) (hb : h.obj b = some (.cells x mk)) : m ≠ b := by
  obtain ⟨bs, c, ho, _⟩ := M
  intro e; rw [e, hb] at ho; cases ho

theorem mapGet_of {a : Int} {κ : Option V → Prop} (M : MapAt h m k l) (hk : κ (ifind a l)) : mapGet (.int k) (some m) (.int k a) κ h := by
  obtain ⟨bs, c, ho, _⟩ := M
  exact ⟨_, bs, c, ho, by rw [mfind_ikeys]; exact hk⟩

theorem Keeps.setO {x y : HO} {b : Nat} (ho : h.obj b = some x) : Keeps (· = b) h (h.setO b y) := by
  refine ⟨fun c _ hc => by simp only [Heap.setO]; exact if_neg hc, fun c hc => ?_⟩
  simp only [Heap.setO]
  by_cases e : c = b
  · rw [if_pos e]; simp
  · rw [if_neg e]; exact hc

theorem mapPut_of {a : Int} {v : V} {κ : Heap → Prop} (M : MapAt h m k l) (hk : ∀ h', MapAt h' m k (iput a v l) → Keeps (· = m) h h' → κ h') : mapPut (.int k) (some m) (.int k a) v κ h := by
  obtain ⟨bs, c, ho, h1, h2, h3⟩ := M
  refine ⟨_, bs, c, ho, hk _ ?_ (Keeps.setO ho)⟩
  unfold putO
  rw [mfind_ikeys]
  cases hf : ifind a l with
  | some w => exact ⟨bs, c, by simp [Heap.setO, mput_ikeys], h1, h2, by rw [iput_length, if_neg (by rw [hf]; simp)]; exact h3⟩
  | none =>
    refine ⟨bs ++ [c], c + 1, by simp [Heap.setO, mput_ikeys], ?_, ?_, by rw [iput_length, if_pos hf]; simp [h3]⟩
    · rw [List.nodup_append]
      exact ⟨h1, by simp, fun x hx y hy => by simp at hy; subst hy; have := h2 x hx; omega⟩
    · intro b hb
      rcases List.mem_append.1 hb with hb | hb
      · have := h2 b hb; omega
      · simp at hb; omega

theorem alM_of {κ : Nat → Heap → Prop} (hk : ∀ b h', h.obj b = none → MapAt h' b k [] → Keeps none_ h h' → κ b h') : alM (.int k) κ h :=
  fun b hb => hk b _ hb ⟨[], 0, Heap.new_obj, by simp, by simp, rfl⟩ (Keeps.new hb _)

/-- One goes through the map: what it has had. -/
def IterAt (h : Heap) (it m : Nat) (k : IntKind) (l : List (Int × V)) (done : List Int) : Prop :=
  ∃ bs c seen, h.obj it = some (.iter (some m) c seen c) ∧ h.obj m = some (.map (.int k) (ikeys k l) bs c) ∧ bs.Nodup ∧ (∀ b, b ∈ bs → b < c) ∧ bs.length = l.length ∧
    (∀ (i : Nat) a v b, l[i]? = some (a, v) → bs[i]? = some b → (b ∈ seen ↔ a ∈ done)) ∧
    ∀ a, done.getLast? = some a → ∃ (i : Nat) (v : V) (b : Nat), seen.getLast? = some b ∧ bs[i]? = some b ∧ l[i]? = some (a, v)

theorem IterAt.keeps {S : Nat → Prop} {it : Nat} {done : List Int} (I : IterAt h it m k l done) (kk : Keeps S h h') (h1 : ¬ S it) (h2 : ¬ S m) : IterAt h' it m k l done := by
  obtain ⟨bs, c, seen, a1, a2, a3⟩ := I
  exact ⟨bs, c, seen, kk.obj a1 h1, kk.obj a2 h2, a3⟩

end

end Go.Lift

set_option linter.unusedSimpArgs false
set_option linter.unusedVariables false
set_option maxRecDepth 100000
namespace Go.Lift

theorem ints_of {h : Heap} {s : Sl} {k : IntKind} (f : s.len ≤ s.cap ∧ s.cap ≤ maxLen ∧ (s.p = none → s.cap = 0) ∧ ∀ p, s.p = some p → ∀ i, i < s.cap → ∃ cs, cs.length = 1 ∧ (∀ j, j < 1 → h.get p.b (p.o + i * 1 + j) = cs[j]?) ∧ Fits h (.int k) cs) :
    s.len ≤ 9223372036854775807 ∧ ∀ i, i < s.len → ∃ p v, s.p = some p ∧ h.get p.b (p.o + i) = some (.int k v) ∧ (Lit.int k v).wf = true := by
  obtain ⟨h1, h2, h3, h4⟩ := f
  refine ⟨Nat.le_trans h1 h2, fun i hi => ?_⟩
  cases hp : s.p with
  | none => have := h3 hp; omega
  | some p =>
    obtain ⟨cs, _, hg, n, rfl, hw⟩ := h4 p hp i (by omega)
    exact ⟨p, n, rfl, by have := hg 0 (by omega); simpa using this, hw⟩

theorem wf_u8 {n : Int} (h : (Lit.int .u8 n).wf = true) : 0 ≤ n ∧ n ≤ 255 := by
  simpa [Lit.wf, IntKind.min, IntKind.max, IntKind.signed, IntKind.bits] using h

theorem bytes_of {h : Heap} {s : Sl} (f : s.len ≤ s.cap ∧ s.cap ≤ maxLen ∧ (s.p = none → s.cap = 0) ∧ ∀ p, s.p = some p → ∀ i, i < s.cap → ∃ cs, cs.length = 1 ∧ (∀ j, j < 1 → h.get p.b (p.o + i * 1 + j) = cs[j]?) ∧ Fits h (.int .u8) cs) :
    ∃ x : List UInt8, Held h s 1 (strCells x) ∧ x.length = s.len ∧ x.length ≤ 9223372036854775807 := by
  obtain ⟨hl, hi⟩ := ints_of f
  have key : ∀ n, n ≤ s.len → ∃ x : List UInt8, x.length = n ∧ ∀ p, s.p = some p → ∀ i v, (strCells x)[i]? = some v → h.get p.b (p.o + i) = some v := by
    intro n
    induction n with
    | zero => intro _; exact ⟨[], rfl, fun p _ i v hv => by cases hv⟩
    | succ n ih =>
      intro hn
      obtain ⟨x, hx, hr⟩ := ih (by omega)
      obtain ⟨p, v, hp, hv, hw⟩ := hi n (by omega)
      have hb := wf_u8 hw
      refine ⟨x ++ [UInt8.ofNat v.toNat], by simp [hx], fun p' hp' i v' hv' => ?_⟩
      rw [hp] at hp'; cases hp'
      rw [strCells_append] at hv'
      rcases Nat.lt_or_ge i (strCells x).length with h | h
      · rw [List.getElem?_append_left h] at hv'; exact hr p hp i v' hv'
      · rw [List.getElem?_append_right h] at hv'
        rw [strCells_length] at h hv'
        have hin : i = n := by
          rcases Nat.lt_or_ge (i - x.length) 1 with h1 | h1
          · omega
          · rw [List.getElem?_eq_none (by rw [strCells_length]; exact h1)] at hv'; cases hv'
        subst hin
        rw [hx, Nat.sub_self] at hv'
        have : v' = V.int .u8 v := by
          simp [strCells] at hv'
          rw [← hv']
          congr 1
          omega
        rw [this]; exact hv
  obtain ⟨x, hx, hr⟩ := key s.len (Nat.le_refl _)
  refine ⟨x, ⟨by rw [strCells_length, hx]; simp, hr, fun hn => ?_⟩, hx, by omega⟩
  obtain ⟨h1, h2, h3, h4⟩ := f
  have := h3 hn; omega

end Go.Lift

set_option linter.unusedSimpArgs false
set_option linter.unusedVariables false
set_option maxRecDepth 100000
namespace Go.Lift

/-- The blocks of L are as listed; what stood at h0 and is not in W stands as it stood. -/
structure St (h0 : Heap) (W : Nat → Prop) (L : List (Nat × HO)) (h : Heap) : Prop where
  nodup : (L.map (·.1)).Nodup
  objs : ∀ b x, (b, x) ∈ L → h.obj b = some x
  new : ∀ b x, (b, x) ∈ L → h0.obj b = none ∨ W b
  keeps : Keeps W h0 h

section
variable {h0 h h' : Heap} {W : Nat → Prop} {L : List (Nat × HO)} {i b o : Nat} {l : List V} {m : Bool}

theorem i0 {α : Type} {x0 : α} {L : List α} : (x0 :: L)[0]? = some x0 := rfl
theorem i1 {α : Type} {x0 x1 : α} {L : List α} : (x0 :: x1 :: L)[1]? = some x1 := rfl
theorem i2 {α : Type} {x0 x1 x2 : α} {L : List α} : (x0 :: x1 :: x2 :: L)[2]? = some x2 := rfl
theorem i3 {α : Type} {x0 x1 x2 x3 : α} {L : List α} : (x0 :: x1 :: x2 :: x3 :: L)[3]? = some x3 := rfl
theorem i4 {α : Type} {x0 x1 x2 x3 x4 : α} {L : List α} : (x0 :: x1 :: x2 :: x3 :: x4 :: L)[4]? = some x4 := rfl
theorem i5 {α : Type} {x0 x1 x2 x3 x4 x5 : α} {L : List α} : (x0 :: x1 :: x2 :: x3 :: x4 :: x5 :: L)[5]? = some x5 := rfl
theorem i6 {α : Type} {x0 x1 x2 x3 x4 x5 x6 : α} {L : List α} : (x0 :: x1 :: x2 :: x3 :: x4 :: x5 :: x6 :: L)[6]? = some x6 := rfl
theorem i7 {α : Type} {x0 x1 x2 x3 x4 x5 x6 x7 : α} {L : List α} : (x0 :: x1 :: x2 :: x3 :: x4 :: x5 :: x6 :: x7 :: L)[7]? = some x7 := rfl
theorem i8 {α : Type} {x0 x1 x2 x3 x4 x5 x6 x7 x8 : α} {L : List α} : (x0 :: x1 :: x2 :: x3 :: x4 :: x5 :: x6 :: x7 :: x8 :: L)[8]? = some x8 := rfl
theorem i9 {α : Type} {x0 x1 x2 x3 x4 x5 x6 x7 x8 x9 : α} {L : List α} : (x0 :: x1 :: x2 :: x3 :: x4 :: x5 :: x6 :: x7 :: x8 :: x9 :: L)[9]? = some x9 := rfl

theorem i10 {α : Type} {x0 x1 x2 x3 x4 x5 x6 x7 x8 x9 x10 : α} {L : List α} : (x0 :: x1 :: x2 :: x3 :: x4 :: x5 :: x6 :: x7 :: x8 :: x9 :: x10 :: L)[10]? = some x10 := rfl
theorem i11 {α : Type} {x0 x1 x2 x3 x4 x5 x6 x7 x8 x9 x10 x11 : α} {L : List α} : (x0 :: x1 :: x2 :: x3 :: x4 :: x5 :: x6 :: x7 :: x8 :: x9 :: x10 :: x11 :: L)[11]? = some x11 := rfl
theorem i12 {α : Type} {x0 x1 x2 x3 x4 x5 x6 x7 x8 x9 x10 x11 x12 : α} {L : List α} : (x0 :: x1 :: x2 :: x3 :: x4 :: x5 :: x6 :: x7 :: x8 :: x9 :: x10 :: x11 :: x12 :: L)[12]? = some x12 := rfl
theorem i13 {α : Type} {x0 x1 x2 x3 x4 x5 x6 x7 x8 x9 x10 x11 x12 x13 : α} {L : List α} : (x0 :: x1 :: x2 :: x3 :: x4 :: x5 :: x6 :: x7 :: x8 :: x9 :: x10 :: x11 :: x12 :: x13 :: L)[13]? = some x13 := rfl
theorem i14 {α : Type} {x0 x1 x2 x3 x4 x5 x6 x7 x8 x9 x10 x11 x12 x13 x14 : α} {L : List α} : (x0 :: x1 :: x2 :: x3 :: x4 :: x5 :: x6 :: x7 :: x8 :: x9 :: x10 :: x11 :: x12 :: x13 :: x14 :: L)[14]? = some x14 := rfl
theorem i15 {α : Type} {x0 x1 x2 x3 x4 x5 x6 x7 x8 x9 x10 x11 x12 x13 x14 x15 : α} {L : List α} : (x0 :: x1 :: x2 :: x3 :: x4 :: x5 :: x6 :: x7 :: x8 :: x9 :: x10 :: x11 :: x12 :: x13 :: x14 :: x15 :: L)[15]? = some x15 := rfl

theorem St.start (h : Heap) (W : Nat → Prop) : St h W [] h := ⟨List.nodup_nil, fun _ _ h => (by cases h), fun _ _ h => (by cases h), Keeps.refl _ _⟩

theorem St.obj {x : HO} (S : St h0 W L h) (hi : L[i]? = some (b, x)) : h.obj b = some x := S.objs b x (List.mem_of_getElem? hi)

theorem nodup_get {L : List (Nat × HO)} (n : (L.map (·.1)).Nodup) {i j : Nat} {p q : Nat × HO} (hp : L[i]? = some p) (hq : L[j]? = some q) (hij : i ≠ j) : p.1 ≠ q.1 := by
  have hi : i < L.length := by
    rcases Nat.lt_or_ge i L.length with h | h
    · exact h
    · rw [List.getElem?_eq_none h] at hp; cases hp
  have hj : j < L.length := by
    rcases Nat.lt_or_ge j L.length with h | h
    · exact h
    · rw [List.getElem?_eq_none h] at hq; cases hq
  intro e
  rw [List.getElem?_eq_getElem hi] at hp
  rw [List.getElem?_eq_getElem hj] at hq
  cases hp; cases hq
  have := (List.getElem_inj (xs := L.map (·.1)) (i := i) (j := j) (h₀ := by simpa using hi) (h₁ := by simpa using hj) n).1 (by simpa using e)
  exact hij this

/-- Two blocks of the list are two. -/
theorem St.ne {x y : HO} {j c : Nat} (S : St h0 W L h) (hi : L[i]? = some (b, x)) (hj : L[j]? = some (c, y)) (hij : i ≠ j) : b ≠ c := nodup_get S.nodup hi hj hij

theorem St.rI {k : IntKind} {p : Ptr} {x : Int} {κ : Int → Prop} (S : St h0 W L h) (hi : L[i]? = some (p.b, .cells l m)) (hx : l[p.o]? = some (.int k x)) (hk : κ x) : rdI k p κ h := rdI_of ((get_cells (S.obj hi) _).trans hx) hk
theorem St.rB {p : Ptr} {x : Bool} {κ : Bool → Prop} (S : St h0 W L h) (hi : L[i]? = some (p.b, .cells l m)) (hx : l[p.o]? = some (.bool x)) (hk : κ x) : rdB p κ h := rdB_of ((get_cells (S.obj hi) _).trans hx) hk
theorem St.rS {p : Ptr} {x : List UInt8} {κ : List UInt8 → Prop} (S : St h0 W L h) (hi : L[i]? = some (p.b, .cells l m)) (hx : l[p.o]? = some (.str x)) (hk : κ x) : rdStr p κ h := rdStr_of ((get_cells (S.obj hi) _).trans hx) hk
theorem St.rP {p : Ptr} {x : Option Ptr} {κ : Option Ptr → Prop} (S : St h0 W L h) (hi : L[i]? = some (p.b, .cells l m)) (hx : l[p.o]? = some (.ptr x)) (hk : κ x) : rdP p κ h := rdP_of ((get_cells (S.obj hi) _).trans hx) hk
theorem St.rSl {p : Ptr} {x : Sl} {κ : Sl → Prop} (S : St h0 W L h) (hi : L[i]? = some (p.b, .cells l m)) (hx : l[p.o]? = some (.sl x)) (hk : κ x) : rdSl p κ h := rdSl_of ((get_cells (S.obj hi) _).trans hx) hk
theorem St.rM {p : Ptr} {x : Option Nat} {κ : Option Nat → Prop} (S : St h0 W L h) (hi : L[i]? = some (p.b, .cells l m)) (hx : l[p.o]? = some (.map x)) (hk : κ x) : rdM p κ h := rdM_of ((get_cells (S.obj hi) _).trans hx) hk
theorem St.rV {p : Ptr} {x : V} {κ : V → Prop} (S : St h0 W L h) (hi : L[i]? = some (p.b, .cells l m)) (hx : l[p.o]? = some x) (hk : κ x) : rdV p κ h := rdV_of ((get_cells (S.obj hi) _).trans hx) hk
theorem St.rN {n : Nat} {p : Ptr} {κ : List V → Prop} (S : St h0 W L h) (hi : L[i]? = some (p.b, .cells l m)) (hl : p.o + n ≤ l.length) (hk : κ ((l.drop p.o).take n)) : rdN n p κ h := by
  refine rdN_held (by simp; omega) (fun j v hv => ?_) hk
  rw [get_cells (S.obj hi)]
  have hj : j < n := by
    rcases Nat.lt_or_ge j n with h | h
    · exact h
    · rw [List.getElem?_eq_none (by simp; omega)] at hv; cases hv
  rw [List.getElem?_take_of_lt hj, List.getElem?_drop] at hv
  exact hv
theorem ck_cells {p : Ptr} (ho : h.obj p.b = some (.cells l m)) : ∀ (vs : List V) (k : Nat), (l.drop (p.o + k)).take vs.length = vs → ck p vs k h
  | [], _, _ => trivial
  | v :: vs, k, e => by
    have hlt : p.o + k < l.length := by
      rcases Nat.lt_or_ge (p.o + k) l.length with h1 | h1
      · exact h1
      · rw [List.drop_eq_nil_of_le h1] at e; simp at e
    rw [List.drop_eq_getElem_cons hlt] at e
    simp only [List.length_cons, List.take_succ_cons, List.cons.injEq] at e
    exact ⟨(get_cells ho _).trans ((List.getElem?_eq_getElem hlt).trans (by rw [e.1])), ck_cells ho vs (k + 1) e.2⟩
theorem St.ckL {p : Ptr} {vs : List V} (S : St h0 W L h) (hi : L[i]? = some (p.b, .cells l m)) (hx : (l.drop (p.o + 0)).take vs.length = vs) : ck p vs 0 h := ck_cells (S.obj hi) vs 0 hx

theorem St.ckA {p : Ptr} {vs : List V} {A : Prop} (S : St h0 W L h) (hi : L[i]? = some (p.b, .cells l m)) (hx : (l.drop (p.o + 0)).take vs.length = vs) (ha : A) : ck p vs 0 h ∧ A := ⟨S.ckL hi hx, ha⟩

/-- The list behind a change of one block. -/
theorem St.put {x y : HO} (S : St h0 W L h) (hi : L[i]? = some (b, x)) (hy : h'.obj b = some y) (k : Keeps (· = b) h h') : St h0 W (L.set i (b, y)) h' := by
  have hil : i < L.length := by
    rcases Nat.lt_or_ge i L.length with h | h
    · exact h
    · rw [List.getElem?_eq_none h] at hi; cases hi
  have keys : (L.set i (b, y)).map (·.1) = L.map (·.1) := by
    rw [List.map_set]
    refine List.ext_getElem? (fun j => ?_)
    by_cases e : j = i
    · subst e
      rw [List.getElem?_set_self (by simpa using hil), List.getElem?_map, hi]; rfl
    · rw [List.getElem?_set_ne (fun h => e h.symm)]
  refine ⟨by rw [keys]; exact S.nodup, fun c z hc => ?_, fun c z hc => ?_, ⟨fun z hz hn => ?_, fun z hz => k.known z (S.keeps.known z hz)⟩⟩
  · obtain ⟨j, hj⟩ := List.mem_iff_getElem?.1 hc
    by_cases e : j = i
    · subst e
      rw [List.getElem?_set_self hil] at hj
      cases hj; exact hy
    · rw [List.getElem?_set_ne (fun h => e h.symm)] at hj
      have hcb : c ≠ b := S.ne hj hi e
      exact k.obj (S.obj hj) hcb
  · have : c ∈ (L.set i (b, y)).map (·.1) := List.mem_map.2 ⟨_, hc, rfl⟩
    rw [keys] at this
    obtain ⟨p, hp, rfl⟩ := List.mem_map.1 this
    exact S.new p.1 p.2 hp
  · have hzb : z ≠ b := by
      intro e
      subst e
      rcases S.new _ _ (List.mem_of_getElem? hi) with h | h
      · exact hz h
      · exact hn h
    rw [k.same z (S.keeps.known z hz) hzb]
    exact S.keeps.same z hz hn

theorem St.wr {p : Ptr} {u v : V} {κ : Heap → Prop} (S : St h0 W L h) (hi : L[i]? = some (p.b, .cells l m)) (hx : l[p.o]? = some u) (hk : ∀ h', St h0 W (L.set i (p.b, .cells (l.set p.o v) m)) h' → κ h') : wr p v κ h := by
  have hg : h.getW p.b p.o = some u := (getW_cells (S.obj hi) _).trans hx
  refine wr_of hg (hk _ (S.put hi ?_ (Keeps.set hg)))
  simp [Heap.set, S.obj hi, HO.set]

theorem St.wrL {p : Ptr} {vs : List V} {κ : Heap → Prop} (S : St h0 W L h) (hi : L[i]? = some (p.b, .cells l m)) (hl : p.o + vs.length ≤ l.length) (hk : ∀ h', St h0 W (L.set i (p.b, .cells (splice l p.o vs) m)) h' → κ h') : wrL vs p 0 κ h :=
  wrL_of (j := 0) (S.obj hi) (by omega) (fun h' ho k => hk h' (S.put hi (by simpa using ho) k))

theorem St.fresh {x : HO} {c : Nat} (S : St h0 W L h) (hc : h.obj c = none) : c ∉ L.map (·.1) := by
  intro hm
  obtain ⟨p, hp, rfl⟩ := List.mem_map.1 hm
  rw [S.objs p.1 p.2 hp] at hc; cases hc

theorem St.more {x : HO} {c : Nat} (S : St h0 W L h) (hc : h.obj c = none) (hx : h'.obj c = some x) (k : Keeps none_ h h') : St h0 W ((c, x) :: L) h' := by
  have hf := S.fresh (x := x) hc
  refine ⟨by simp only [List.map_cons, List.nodup_cons]; exact ⟨hf, S.nodup⟩, fun b y hb => ?_, fun b y hb => ?_, ⟨fun z hz hn => ?_, fun z hz => k.known z (S.keeps.known z hz)⟩⟩
  · rcases List.mem_cons.1 hb with e | hb
    · cases e; exact hx
    · exact k.obj (S.objs b y hb) (fun f => f)
  · rcases List.mem_cons.1 hb with e | hb
    · cases e
      left
      cases hh : h0.obj c with
      | none => rfl
      | some z => exact absurd hc (S.keeps.known c (by rw [hh]; simp))
    · exact S.new b y hb
  · rw [k.same z (S.keeps.known z hz) (fun f => f)]
    exact S.keeps.same z hz hn

theorem St.al {z : List V} {κ : Nat → Heap → Prop} (S : St h0 W L h) (hk : ∀ b h', St h0 W ((b, .cells z false) :: L) h' → κ b h') : al z κ h :=
  al_of (fun b h' hb ho k => hk b h' (S.more hb ho k))

theorem St.alM {ks : Sh} {κ : Nat → Heap → Prop} (S : St h0 W L h) (hk : ∀ b h', St h0 W ((b, .map ks [] [] 0) :: L) h' → κ b h') : alM ks κ h :=
  fun b hb => hk b _ (S.more hb Heap.new_obj (Keeps.new hb _))

theorem St.mapGet {ks : Sh} {k : V} {κ : Option V → Prop} {es : List (V × V)} {bs : List Nat} {c : Nat} (S : St h0 W L h) (hi : L[i]? = some (b, .map ks es bs c)) (hk : κ (mfind k es)) : mapGet ks (some b) k κ h := ⟨es, bs, c, S.obj hi, hk⟩
theorem St.mapPut {ks : Sh} {k v : V} {κ : Heap → Prop} {es : List (V × V)} {bs : List Nat} {c : Nat} (S : St h0 W L h) (hi : L[i]? = some (b, .map ks es bs c)) (hk : ∀ h', St h0 W (L.set i (b, putO ks es bs c k v)) h' → κ h') : mapPut ks (some b) k v κ h :=
  ⟨es, bs, c, S.obj hi, hk _ (S.put hi (by simp [Heap.setO]) (Keeps.setO (S.obj hi)))⟩
theorem St.mapLen {ks : Sh} {κ : Int → Prop} {es : List (V × V)} {bs : List Nat} {c : Nat} (S : St h0 W L h) (hi : L[i]? = some (b, .map ks es bs c)) (hk : κ es.length) : mapLen (some b) κ h := ⟨ks, es, bs, c, S.obj hi, hk⟩

/-- Nothing that is known was changed. -/
theorem St.keep (S : St h0 W L h) (k : Keeps none_ h h') : St h0 W L h' :=
  ⟨S.nodup, fun b x hb => k.obj (S.objs b x hb) (fun f => f), S.new, ⟨fun z hz hn => (k.same z (S.keeps.known z hz) (fun f => f)).trans (S.keeps.same z hz hn), fun z hz => k.known z (S.keeps.known z hz)⟩⟩

/-- What was changed is not listed, and may be changed. -/
theorem St.keepW {T : Nat → Prop} (S : St h0 W L h) (k : Keeps T h h') (hT : ∀ b x, (b, x) ∈ L → ¬ T b) (hW : ∀ z, T z → h0.obj z ≠ none → W z) : St h0 W L h' :=
  ⟨S.nodup, fun b x hb => k.obj (S.objs b x hb) (hT b x hb), S.new, ⟨fun z hz hn => (k.same z (S.keeps.known z hz) (fun t => hn (hW z t hz))).trans (S.keeps.same z hz hn), fun z hz => k.known z (S.keeps.known z hz)⟩⟩

theorem St.add {x : HO} {c : Nat} (S : St h0 W L h) (hx : h.obj c = some x) (hw : h0.obj c = none ∨ W c) (hn : c ∉ L.map (·.1)) : St h0 W ((c, x) :: L) h := by
  refine ⟨by simp only [List.map_cons, List.nodup_cons]; exact ⟨hn, S.nodup⟩, fun b y hb => ?_, fun b y hb => ?_, S.keeps⟩
  · rcases List.mem_cons.1 hb with e | hb
    · cases e; exact hx
    · exact S.objs b y hb
  · rcases List.mem_cons.1 hb with e | hb
    · cases e; exact hw
    · exact S.new b y hb

theorem St.more2 {x y : HO} {c d : Nat} (S : St h0 W L h) (hc : h.obj c = none) (hd : h.obj d = none) (hcd : c ≠ d) (hx : h'.obj c = some x) (hy : h'.obj d = some y) (k : Keeps none_ h h') : St h0 W ((c, x) :: (d, y) :: L) h' := by
  have S1 := S.more hd hy k
  refine S1.add hx ?_ ?_
  · left
    cases hh : h0.obj c with
    | none => rfl
    | some z => exact absurd hc (S.keeps.known c (by rw [hh]; simp))
  · simp only [List.map_cons, List.mem_cons, not_or]
    exact ⟨hcd, S.fresh (x := x) hc⟩

theorem St.sub {L' : List (Nat × HO)} (S : St h0 W L h) (hs : L'.Sublist L) : St h0 W L' h :=
  ⟨S.nodup.sublist (hs.map _), fun b x hb => S.objs b x (hs.subset hb), fun b x hb => S.new b x (hs.subset hb), S.keeps⟩
theorem St.tail {p : Nat × HO} (S : St h0 W (p :: L) h) : St h0 W L h := S.sub (List.sublist_cons_self _ _)

theorem St.mono {W' : Nat → Prop} (S : St h0 W L h) (hw : ∀ z, W z → W' z) : St h0 W' L h := ⟨S.nodup, S.objs, fun b x hb => (S.new b x hb).imp_right (hw b), S.keeps.mono hw⟩

/-- A list that is known at a heap goes on from there. -/
theorem St.base (S : St h0 W L h) : St h (fun z => ∃ x, (z, x) ∈ L) L h := ⟨S.nodup, S.objs, fun b x hb => .inr ⟨x, hb⟩, Keeps.refl _ _⟩
theorem St.back {L' : List (Nat × HO)} (S : St h0 W L h) (S' : St h (fun z => ∃ x, (z, x) ∈ L) L' h') : St h0 W L' h' := by
  refine ⟨S'.nodup, S'.objs, fun b x hb => ?_, ⟨fun z hz hn => ?_, fun z hz => S'.keeps.known z (S.keeps.known z hz)⟩⟩
  · rcases S'.new b x hb with h1 | ⟨y, hy⟩
    · left
      cases hh : h0.obj b with
      | none => rfl
      | some z => exact absurd h1 (S.keeps.known b (by rw [hh]; simp))
    · exact S.new b y hy
  · rw [S'.keeps.same z (S.keeps.known z hz)]
    · exact S.keeps.same z hz hn
    · rintro ⟨y, hy⟩
      rcases S.new z y hy with h | h
      · exact hz h
      · exact hn h

end

/-- Some of the blocks, in another order: is = the places. -/
theorem St.pick {h0 h : Heap} {W : Nat → Prop} {L L' : List (Nat × HO)} (S : St h0 W L h) (is : List Nat) (hn : is.Nodup) (hl : is.map (fun i => L[i]?) = L'.map some) : St h0 W L' h := by
  have hmem : ∀ p : Nat × HO, p ∈ L' → ∃ i : Nat, L[i]? = some p := by
    intro p hp
    have : some p ∈ L'.map some := List.mem_map.2 ⟨p, hp, rfl⟩
    rw [← hl] at this
    obtain ⟨i, _, e⟩ := List.mem_map.1 this
    exact ⟨i, e⟩
  have hlen : is.length = L'.length := by have := congrArg List.length hl; simpa using this
  refine ⟨?_, fun b x hb => ?_, fun b x hb => ?_, S.keeps⟩
  · rw [List.nodup_iff_pairwise_ne, List.pairwise_iff_getElem]
    intro a c ha hc hac
    simp only [List.length_map] at ha hc
    simp only [List.getElem_map]
    have g : ∀ (a : Nat) (ha : a < L'.length), L[is[a]'(by omega)]? = some L'[a] := by
      intro a ha
      have := congrArg (fun l => l[a]?) hl
      simp only [List.getElem?_map] at this
      rw [List.getElem?_eq_getElem (by omega), List.getElem?_eq_getElem ha] at this
      simpa using this
    have hne : is[a]'(by omega) ≠ is[c]'(by omega) := fun e => by
      have := (List.getElem_inj hn).1 e
      omega
    exact nodup_get S.nodup (g a ha) (g c hc) hne
  · obtain ⟨i, hi⟩ := hmem _ hb
    exact S.objs b x (List.mem_of_getElem? hi)
  · obtain ⟨i, hi⟩ := hmem _ hb
    exact S.new b x (List.mem_of_getElem? hi)

/-- The blocks of a list, each as it stands; they may be written. -/
def keysOf (A : List (Nat × HO)) : Nat → Prop := fun z => ∃ x, (z, x) ∈ A

/-- A call behind which the blocks A stand as A', and all else as it stood. is, js: the places of A, and of what is kept besides. -/
theorem St.call {h0 h h' : Heap} {W : Nat → Prop} {L A A' B : List (Nat × HO)} (S : St h0 W L h) (is js : List Nat) (hn : (is ++ js).Nodup) (hA : is.map (fun i => L[i]?) = A.map some) (hB : js.map (fun i => L[i]?) = B.map some) (S' : St h (keysOf A) A' h') : St h0 W (A' ++ B) h' := by
  have SAB : St h0 W (A ++ B) h := S.pick (is ++ js) hn (by rw [List.map_append, hA, hB, List.map_append])
  have hnd := SAB.nodup
  rw [List.map_append, List.nodup_append] at hnd
  obtain ⟨_, hB', hAB⟩ := hnd
  have notA : ∀ b x, (b, x) ∈ B → ¬ keysOf A b := by
    rintro b x hb ⟨y, hy⟩
    exact hAB b (List.mem_map.2 ⟨_, hy, rfl⟩) b (List.mem_map.2 ⟨_, hb, rfl⟩) rfl
  have objB : ∀ b x, (b, x) ∈ B → h.obj b = some x := fun b x hb => SAB.objs b x (List.mem_append.2 (.inr hb))
  refine ⟨?_, fun b x hb => ?_, fun b x hb => ?_, ⟨fun z hz hw => ?_, fun z hz => S'.keeps.known z (S.keeps.known z hz)⟩⟩
  · rw [List.map_append, List.nodup_append]
    refine ⟨S'.nodup, hB', ?_⟩
    intro a ha b hb e
    subst e
    obtain ⟨p, hp, rfl⟩ := List.mem_map.1 ha
    obtain ⟨q, hq, e⟩ := List.mem_map.1 hb
    rcases S'.new p.1 p.2 hp with h1 | h1
    · have := objB q.1 q.2 hq
      rw [e, h1] at this; cases this
    · exact notA q.1 q.2 hq (e ▸ h1)
  · rcases List.mem_append.1 hb with hb | hb
    · exact S'.objs b x hb
    · exact S'.keeps.obj (objB b x hb) (notA b x hb)
  · rcases List.mem_append.1 hb with hb | hb
    · rcases S'.new b x hb with h1 | ⟨y, hy⟩
      · left
        cases hh : h0.obj b with
        | none => rfl
        | some z => exact absurd h1 (S.keeps.known b (by rw [hh]; simp))
      · exact SAB.new b y (List.mem_append.2 (.inl hy))
    · exact SAB.new b x (List.mem_append.2 (.inr hb))
  · rw [S'.keeps.same z (S.keeps.known z hz) ?_]
    · exact S.keeps.same z hz hw
    · rintro ⟨y, hy⟩
      rcases SAB.new z y (List.mem_append.2 (.inl hy)) with h1 | h1
      · exact hz h1
      · exact hw h1

/-- A call of which the blocks come first in the list. -/
theorem St.frame {h0 h h' : Heap} {W : Nat → Prop} {A A' B : List (Nat × HO)} (S' : St h (keysOf A) A' h') (S : St h0 W (A ++ B) h) : St h0 W (A' ++ B) h' :=
  S.call (List.range A.length) ((List.range B.length).map (· + A.length)) (by
    rw [List.nodup_append]
    refine ⟨List.nodup_range, ?_, ?_⟩
    · rw [List.nodup_iff_pairwise_ne, List.pairwise_map]
      exact (List.nodup_iff_pairwise_ne.1 List.nodup_range).imp (fun h e => h (by omega))
    · intro a ha b hb e
      have h1 := List.mem_range.1 ha
      obtain ⟨c, _, rfl⟩ := List.mem_map.1 hb
      omega) (by
    refine List.ext_getElem? (fun i => ?_)
    rw [List.getElem?_map, List.getElem?_map]
    by_cases hi : i < A.length
    · rw [List.getElem?_range hi, Option.map_some, List.getElem?_append_left hi, List.getElem?_eq_getElem hi]; rfl
    · rw [List.getElem?_eq_none (by simp; omega), List.getElem?_eq_none (by omega)]; rfl) (by
    refine List.ext_getElem? (fun i => ?_)
    rw [List.getElem?_map, List.getElem?_map, List.getElem?_map]
    by_cases hi : i < B.length
    · rw [List.getElem?_range hi, Option.map_some, Option.map_some, List.getElem?_append_right (by omega), Nat.add_sub_cancel, List.getElem?_eq_getElem hi]; rfl
    · rw [List.getElem?_eq_none (by simp; omega), List.getElem?_eq_none (by omega)]; rfl) S'

theorem St.notKey {h0 h : Heap} {W : Nat → Prop} {L : List (Nat × HO)} {z : Nat} (S : St h0 W L h) (hz : h0.obj z ≠ none) (hw : ¬ W z) : ¬ keysOf L z := by
  rintro ⟨x, hx⟩
  rcases S.new z x hx with h | h
  · exact hz h
  · exact hw h

theorem St.notA {h0 h : Heap} {W : Nat → Prop} {A B : List (Nat × HO)} {z : Nat} (S : St h0 W (A ++ B) h) (hz : h0.obj z ≠ none) (hw : ¬ W z) : ¬ keysOf A z :=
  fun ⟨x, hx⟩ => S.notKey hz hw ⟨x, List.mem_append.2 (.inl hx)⟩

theorem St.head {h0 h : Heap} {W : Nat → Prop} {A B : List (Nat × HO)} (S : St h0 W (A ++ B) h) : St h (keysOf A) A h := (S.sub (List.sublist_append_left _ _)).base

theorem held_slp {h : Heap} {s : Sl} {sz n c : Nat} {vs : List V} (H : Held h s sz vs) : Held h ⟨slp s.p 0 0 n, s.len, c⟩ sz vs := by
  refine ⟨H.len, fun p hp i v hv => ?_, fun hp => H.nil ?_⟩
  · have hp : slp s.p 0 0 n = some p := hp
    unfold slp at hp
    split at hp
    · exact H.row p hp i v hv
    · cases hs : s.p with
      | none => rw [hs] at hp; cases hp
      | some q =>
        rw [hs] at hp; cases hp
        exact H.row q hs i v hv
  · have hp : slp s.p 0 0 n = none := hp
    unfold slp at hp
    split at hp
    · exact hp
    · cases hs : s.p with
      | none => rfl
      | some q => rw [hs] at hp; cases hp

/-! numbers that a loop counts -/
theorem w64_0 : IntKind.i64.wrap (0 + 1) = 1 := by decide
theorem w64_1 : IntKind.i64.wrap (1 + 1) = 2 := by decide
theorem w64_2 : IntKind.i64.wrap (2 + 1) = 3 := by decide
theorem w64_3 : IntKind.i64.wrap (3 + 1) = 4 := by decide
theorem w64_4 : IntKind.i64.wrap (4 + 1) = 5 := by decide
theorem w64_5 : IntKind.i64.wrap (5 + 1) = 6 := by decide
theorem w64_6 : IntKind.i64.wrap (6 + 1) = 7 := by decide
theorem w64_7 : IntKind.i64.wrap (7 + 1) = 8 := by decide
theorem w64_8 : IntKind.i64.wrap (8 + 1) = 9 := by decide
theorem w64_9 : IntKind.i64.wrap (9 + 1) = 10 := by decide
theorem w64_10 : IntKind.i64.wrap (10 + 1) = 11 := by decide
theorem w64_11 : IntKind.i64.wrap (11 + 1) = 12 := by decide
theorem w64_12 : IntKind.i64.wrap (12 + 1) = 13 := by decide
theorem w64_13 : IntKind.i64.wrap (13 + 1) = 14 := by decide
theorem w64_14 : IntKind.i64.wrap (14 + 1) = 15 := by decide
theorem w64_15 : IntKind.i64.wrap (15 + 1) = 16 := by decide
theorem w64_16 : IntKind.i64.wrap (16 + 1) = 17 := by decide
theorem w64_17 : IntKind.i64.wrap (17 + 1) = 18 := by decide
theorem w64_18 : IntKind.i64.wrap (18 + 1) = 19 := by decide
theorem w64_19 : IntKind.i64.wrap (19 + 1) = 20 := by decide

theorem exAnd {α : Type} {o : Option V} {f : α → V} {κ : α → Prop} {x : α} (h : o = some (f x)) (hk : κ x) : ∃ y, o = some (f y) ∧ κ y := ⟨x, h, hk⟩
theorem asI_of {k : IntKind} {x : Int} {κ : Int → Prop} (h : κ x) : asI k (.int k x) κ := by simpa [asI, chk] using h
theorem asB_of {x : Bool} {κ : Bool → Prop} (h : κ x) : asB (.bool x) κ := h
theorem asP_of {x : Option Ptr} {κ : Option Ptr → Prop} (h : κ x) : asP (.ptr x) κ := h
theorem asSl_of {x : Sl} {κ : Sl → Prop} (h : κ x) : asSl (.sl x) κ := h
theorem asAggV_of {x : List V} {κ : List V → Prop} (h : κ x) : asAggV (.agg x) κ := h
theorem asTupV_of {x : List V} {κ : List V → Prop} (h : κ x) : asTupV (.tup x) κ := h
theorem asCons_of {v : V} {vs : List V} {κ : V → List V → Prop} (h : κ v vs) : asCons (v :: vs) κ := h
theorem asNil_of {A : Prop} (h : A) : asNil [] A := h
theorem der_of {p : Ptr} {κ : Ptr → Prop} (h : κ p) : der (some p) κ := h
theorem isNil_n {κ : Bool → Prop} (h : κ true) : isNil .nilif κ := h
theorem isNil_i {t : Nat} {v : V} {κ : Bool → Prop} (h : κ false) : isNil (.iface t v) κ := h
theorem nilC_i {t : Nat} {v : V} {κ : V → Prop} (h : κ (.iface t v)) : nilC (.iface t v) κ := h
theorem nilCU_i {I : Ifc} {t : Nat} {v : V} {κ : V → Prop} (h : κ (.iface t v)) : nilCU I (.iface t v) κ := h
theorem nilCU_f {I : Ifc} {f : Nat} {vs : List V} {κ : V → Prop} (h : κ (.fn f vs)) : nilCU I (.fn f vs) κ := h
theorem mthC_i {m : String} {t : Nat} {v : V} {κ : V → Prop} (h : κ (.mth m (.iface t v))) : mthC m (.iface t v) κ := h
theorem nilCU_m {I : Ifc} {m : String} {v : V} {κ : V → Prop} (ha : I.ahead v m = true) (h : κ (.mth m v)) : nilCU I (.mth m v) κ := by
  show chk _ _
  unfold chk
  rw [ha]; exact h

end Go.Lift

set_option linter.unusedSimpArgs false
set_option linter.unusedVariables false
set_option maxRecDepth 100000
namespace Go.Mem
open Go.Lift Go.Fn

/-- A memory of so many bytes stands at pb, its bytes at bb. -/
structure Rep (pb bb : Nat) (bs : List UInt8) (h : Heap) : Prop where
  cell : h.obj pb = some (.cells [.sl ⟨some ⟨bb, 0⟩, bs.length, bs.length⟩] false)
  arr : ∃ mk, h.obj bb = some (.cells (strCells bs) mk)
  ne : pb ≠ bb
  size : bs.length ≤ 16777216

/-- Bytes are put into bytes. -/
def put (bs : List UInt8) (o : Nat) (x : List UInt8) : List UInt8 := bs.take o ++ x ++ bs.drop (o + x.length)

theorem put_length {bs x : List UInt8} {o : Nat} (hl : o + x.length ≤ bs.length) : (put bs o x).length = bs.length := by simp [put]; omega
theorem put_cells {bs x : List UInt8} {o : Nat} : splice (strCells bs) o (strCells x) = strCells (put bs o x) := by
  simp [splice, put, strCells, List.map_take, List.map_drop]
theorem put_get {bs x : List UInt8} {o : Nat} (hl : o + x.length ≤ bs.length) (i : Nat) : (put bs o x)[i]? = if o ≤ i ∧ i < o + x.length then x[i - o]? else bs[i]? := by
  unfold put
  have ht : (bs.take o).length = o := by simp; omega
  by_cases h1 : i < o
  · rw [List.append_assoc, List.getElem?_append_left (by omega), List.getElem?_take_of_lt h1, if_neg (by omega)]
  · by_cases h2 : i < o + x.length
    · rw [List.append_assoc, List.getElem?_append_right (by omega), ht, List.getElem?_append_left (by omega), if_pos (by omega)]
    · rw [List.getElem?_append_right (by simp; omega)]
      simp only [List.length_append, ht, List.getElem?_drop]
      rw [if_neg (by omega)]
      congr 1; omega

theorem fresh_of {h h' : Heap} {S : Nat → Prop} {b : Nat} (k : Keeps S h h') (hb : h'.obj b = none) : h.obj b = none := by
  cases hx : h.obj b with
  | none => rfl
  | some x => exact absurd hb (k.known b (by rw [hx]; simp))

def lies (len : Nat) (a n : Int) : Bool := decide (0 ≤ n) && decide (n ≤ len) && decide (a ≤ len - n)

section
variable {pb bb : Nat} {bs : List UInt8} {h h' : Heap}

theorem Rep.keeps {S : Nat → Prop} (R : Rep pb bb bs h) (k : Keeps S h h') (h1 : ¬ S pb) (h2 : ¬ S bb) : Rep pb bb bs h' := by
  obtain ⟨mk, ha⟩ := R.arr
  exact ⟨k.obj R.cell h1, ⟨mk, k.obj ha h2⟩, R.ne, R.size⟩
theorem Rep.keep0 (R : Rep pb bb bs h) (k : Keeps none_ h h') : Rep pb bb bs h' := R.keeps k (fun f => f) (fun f => f)
theorem New_of {n : Int} (h0 : 1 ≤ n) (h1 : n ≤ 65536) {Q : Option Ptr → Int → Heap → Prop} (hq : ∀ pb bb h', Rep pb bb (List.replicate (n * 256).toNat 0) h' → h.obj pb = none → h.obj bb = none → Keeps none_ h h' → Q (some ⟨pb, 0⟩) 0 h') : zf30 n Q h := by
  unfold zf30
  refine br_f (by simp; omega) (br_f (by simp; omega) ?_)
  rw [wrap64]
  have e : n * 256 = ((n * 256).toNat : Int) := by omega
  generalize hm : (n * 256).toNat = m at *
  rw [e]
  refine mkSl_of (sz := 1) rfl (by omega) (by omega) (fun h1 b O hb k => ?_)
  refine al_of (fun b2 h2 hb2 ho2 k2 => ?_)
  have hne : b2 ≠ b := fun e => O.known (e ▸ hb2)
  obtain ⟨rest, mk, ho, hr⟩ := O.obj
  have hr0 : rest = [] := List.length_eq_zero_iff.1 (by rw [hr]; simp)
  subst hr0
  refine hq b2 b h2 ⟨by simpa using ho2, ⟨mk, ?_⟩, hne, by simp; omega⟩ (fresh_of k hb2) hb (k.trans k2)
  have ho := k2.obj ho (fun f => f)
  rw [List.append_nil, flatRep_bytes] at ho
  exact ho

theorem none_of (R : Rep pb bb bs h) {Q : Bool → Heap → Prop} (hq : Q false h) : zf26 (some ⟨pb, 0⟩) Q h := by
  unfold zf26
  simp only [br_true, br_false, der_some, if_true, if_false, beq_self_eq_true, bne_self_eq_false, Bool.false_eq_true, Bool.and_true, Bool.true_and, Bool.and_false, Bool.false_and, Bool.not_true, Bool.not_false, Option.isNone_some, Option.isNone_none]
  exact loc_Sl R.cell rfl hq

theorem part_of (R : Rep pb bb bs h) {a n : Int} (ha : 0 ≤ a) (ha2 : a ≤ 18446744073709551615) (hn1 : -9223372036854775808 ≤ n) (hn : n ≤ 9223372036854775807) {Q : Sl → Int → Heap → Prop}
    (h2 : n < 0 → ∀ h', Keeps none_ h h' → Q ⟨none, 0, 0⟩ 2 h')
    (h12 : 0 ≤ n → lies bs.length a n = false → ∀ h', Keeps none_ h h' → Q ⟨none, 0, 0⟩ 12 h')
    (h00 : 0 ≤ n → n ≤ bs.length → a ≤ bs.length - n → ∀ d h', d.len = n.toNat → d.cap = n.toNat → (∃ o, d.p = some ⟨bb, o⟩ ∧ (0 < n → o = a.toNat) ∧ o + d.len ≤ bs.length) → Keeps none_ h h' → Q d 0 h') : zf28 (some ⟨pb, 0⟩) a n Q h := by
  unfold zf28
  refine al_of (fun b1 g1 hb1 ho1 k1 => ?_)
  refine al_of (fun b2 g2 hb2 ho2 k2 => ?_)
  refine al_of (fun b3 g3 hb3 ho3 k3 => ?_)
  have ho1 := k3.obj (k2.obj ho1 (fun f => f)) (fun f => f)
  have ho2 := k3.obj ho2 (fun f => f)
  have k := (k1.trans k2).trans k3
  have R := R.keep0 k
  have hs := R.size
  refine loc_P ho1 rfl (none_of R ?_)
  simp only [br_true, br_false, der_some, if_true, if_false, beq_self_eq_true, bne_self_eq_false, Bool.false_eq_true, Bool.and_true, Bool.true_and, Bool.and_false, Bool.false_and, Bool.not_true, Bool.not_false, Option.isNone_some, Option.isNone_none]
  refine loc_I ho3 rfl (br_if (fun hlt => h2 (by simpa using hlt) _ k) (fun hge => ?_))
  have hge : 0 ≤ n := by simpa using hge
  unfold zf29
  refine loc_I ho3 rfl (loc_P ho1 rfl ?_)
  simp only [br_true, br_false, der_some, if_true, if_false, beq_self_eq_true, bne_self_eq_false, Bool.false_eq_true, Bool.and_true, Bool.true_and, Bool.and_false, Bool.false_and, Bool.not_true, Bool.not_false, Option.isNone_some, Option.isNone_none]
  refine loc_Sl R.cell rfl (br_if (fun hle => ?_) (fun hgt => ?_))
  · have hle : n ≤ bs.length := by simpa using hle
    refine loc_I ho2 rfl (loc_P ho1 rfl ?_)
    simp only [br_true, br_false, der_some, if_true, if_false, beq_self_eq_true, bne_self_eq_false, Bool.false_eq_true, Bool.and_true, Bool.true_and, Bool.and_false, Bool.false_and, Bool.not_true, Bool.not_false, Option.isNone_some, Option.isNone_none]
    refine loc_Sl R.cell rfl (loc_I ho3 rfl ?_)
    simp only []
    rw [wrap64, wrapu64]
    by_cases hl : a ≤ bs.length - n
    · refine br_f (by simpa using hl) ?_
      refine loc_I ho2 rfl (loc_I ho3 rfl (loc_P ho1 rfl ?_))
      simp only [br_true, br_false, der_some, if_true, if_false, beq_self_eq_true, bne_self_eq_false, Bool.false_eq_true, Bool.and_true, Bool.true_and, Bool.and_false, Bool.false_and, Bool.not_true, Bool.not_false, Option.isNone_some, Option.isNone_none]
      refine loc_Sl R.cell rfl (loc_I ho2 rfl ?_)
      simp only []
      rw [wrap64 (x := a), wrap64]
      refine sb_of (by omega) (by omega) (sb_of (by omega) (by omega) (sb_of (by omega) (by omega) ?_))
      have e1 : (a + n).toNat - a.toNat = n.toNat := by omega
      rw [e1]
      refine h00 hge hle hl _ _ rfl rfl ?_ k
      unfold slp
      split
      · exact ⟨0, rfl, by omega, by simp; omega⟩
      · exact ⟨a.toNat, by simp [Ptr.add], fun _ => rfl, by simp; omega⟩
    · refine br_t (by simpa using hl) (h12 hge (by simp [lies, hl]) _ k)
  · have hgt : ¬ n ≤ bs.length := by simpa using hgt
    exact h12 hge (by simp [lies, hgt]) _ k

theorem Rep.held (R : Rep pb bb bs h) {d : Sl} {o : Nat} (hp : d.p = some ⟨bb, o⟩) (hl : o + d.len ≤ bs.length) : Held h d 1 (strCells ((bs.drop o).take d.len)) := by
  obtain ⟨mk, ha⟩ := R.arr
  refine ⟨by simp [strCells_length]; omega, fun p hp' i v hv => ?_, fun hn => by rw [hp] at hn; cases hn⟩
  rw [hp] at hp'; cases hp'
  rw [get_cells ha, ← hv, strCells_get, strCells_get]
  have hi : i < ((bs.drop o).take d.len).length := by
    rcases Nat.lt_or_ge i (strCells ((bs.drop o).take d.len)).length with h | h
    · simpa [strCells_length] using h
    · rw [List.getElem?_eq_none h] at hv; cases hv
  simp only [List.length_take, List.length_drop] at hi
  rw [List.getElem?_take_of_lt (by omega), List.getElem?_drop]

end
end Go.Mem

namespace Go.Ring
open Go.Lift Go.Fn
variable {h : Heap}

end Go.Ring

set_option linter.unusedSimpArgs false
set_option linter.unusedVariables false
set_option maxRecDepth 100000
namespace Go.Mem
open Go.Lift Go.Fn

/-- The widths, as they stand in the program's variable. -/
def Wid (U : Ifc) (h : Heap) (x : Nat → Int) : Prop := ∀ i, i < 4 → h.get (U.glob 1) i = some (.int .i64 (x i))

def knownB (x : Nat → Int) (a : Int) : Bool := (List.range 4).any fun i => x i == a && decide (x i > 0)

section
variable {U : Ifc} {h h' : Heap} {x : Nat → Int}

theorem Wid.keeps {S : Nat → Prop} (w : Wid U h x) (k : Keeps S h h') (hs : ¬ S (U.glob 1)) : Wid U h' x := by
  intro i hi
  have hg := w i hi
  have hn : h.obj (U.glob 1) ≠ none := by intro hn; unfold Heap.get at hg; rw [hn] at hg; cases hg
  rw [Heap.get_obj (k.same _ hn hs)]; exact hg
theorem Wid.keep0 (w : Wid U h x) (k : Keeps none_ h h') : Wid U h' x := w.keeps k (fun f => f)
theorem Wid.known (w : Wid U h x) : h.obj (U.glob 1) ≠ none := by
  have hg := w 0 (by omega)
  intro hn; unfold Heap.get at hg; rw [hn] at hg; cases hg

theorem known_of (w : Wid U h x) {a : Int} {Q : Bool → Heap → Prop} (hq : Q (knownB x a) h) : zf59 U a Q h := by
  unfold zf59
  refine rdI_of (w 0 (by omega)) (rdI_of (w 1 (by omega)) (rdI_of (w 2 (by omega)) (rdI_of (w 3 (by omega)) ?_)))
  unfold zf59.j2
  intro I H
  have key : ∀ (m i : Nat), i + m = 4 → (∀ j, j < i → (x j == a && decide (x j > 0)) = false) → I a (x 0) (x 1) (x 2) (x 3) (i : Int) h := by
    intro m
    induction m with
    | zero =>
      intro i hi hno
      refine H _ _ _ _ _ _ _ ?_
      unfold zf59.b2
      refine br_f (by simp; omega) ?_
      have : knownB x a = false := by
        unfold knownB
        rw [List.any_eq_false]
        intro j hj
        have := hno j (by have := List.mem_range.1 hj; omega)
        simp only [this]; decide
      rw [this] at hq; exact hq
    | succ m ih =>
      intro i hi hno
      refine H _ _ _ _ _ _ _ ?_
      unfold zf59.b2
      refine br_t (by simp; omega) (ix_of (by omega) (by show (i : Int) < ((4 : Nat) : Int); omega) ?_)
      rw [Int.toNat_natCast, Nat.mul_one]
      have hx : ([.int .i64 (x 0), .int .i64 (x 1), .int .i64 (x 2), .int .i64 (x 3)] : List V)[i]? = some (.int .i64 (x i)) := by
        have : i = 0 ∨ i = 1 ∨ i = 2 ∨ i = 3 := by omega
        rcases this with rfl | rfl | rfl | rfl <;> rfl
      refine ⟨x i, hx, ?_⟩
      have next : (x i == a && decide (x i > 0)) = false → zf59.j6 U I a (x 0) (x 1) (x 2) (x 3) (i : Int) Q h := by
        intro hf
        unfold zf59.j6
        rw [wrap64]
        have := ih (i + 1) (by omega) (fun j hj => by
          by_cases e : j = i
          · subst e; exact hf
          · exact hno j (by omega))
        simpa using this
      refine br_if (fun h1 => br_if (fun h2 => ?_) (fun h2 => next (by rw [h1, h2]; rfl))) (fun h1 => next (by rw [h1]; rfl))
      have : knownB x a = true := List.any_eq_true.2 ⟨i, List.mem_range.2 (by omega), by rw [h1, h2]; rfl⟩
      rw [this] at hq; exact hq
  have := key 4 0 rfl (by intro j hj; omega)
  simpa using this

/-- The number of bytes, the lowest first. -/
def ldGo : Nat → Int → List UInt8 → Int
  | _, v, [] => v
  | i, v, b :: bs => ldGo (i + 1) (ibits .or .u64 v (shlI .u64 (IntKind.u64.wrap b.toNat) (IntKind.i64.wrap (8 * i)))) bs

variable {pb bb : Nat} {bs : List UInt8}

end
end Go.Mem

set_option linter.unusedSimpArgs false
set_option linter.unusedVariables false
set_option maxRecDepth 100000
namespace Go.Mem
open Go.Lift Go.Fn

/-- The n lowest bytes of a number. -/
def le : Nat → Nat → List UInt8
  | 0, _ => []
  | n + 1, v => UInt8.ofNat (v % 256) :: le n (v / 256)

theorem le_length : ∀ n v, (le n v).length = n
  | 0, _ => rfl
  | n + 1, v => by simp [le, le_length n]

theorem le_get : ∀ (n v i : Nat), i < n → (le n v)[i]? = some (UInt8.ofNat (v / 256 ^ i % 256))
  | 0, v, i, h => by omega
  | n + 1, v, 0, h => by simp [le]
  | n + 1, v, i + 1, h => by
    simp only [le, List.getElem?_cons_succ]
    rw [le_get n _ i (by omega), Nat.div_div_eq_div_mul, Nat.pow_succ, Nat.mul_comm]

def byteSum : List UInt8 → Nat
  | [] => 0
  | b :: bs => b.toNat + 256 * byteSum bs

theorem byteSum_le : ∀ n v, v < 256 ^ n → byteSum (le n v) = v
  | 0, v, h => by simp [le, byteSum] at *; omega
  | n + 1, v, h => by
    simp only [le, byteSum]
    rw [byteSum_le n (v / 256) (by rw [Nat.pow_succ] at h; omega)]
    have : (UInt8.ofNat (v % 256)).toNat = v % 256 := by simp
    rw [this]; omega

theorem or_u64 {v w : Nat} (hv : v < 2 ^ 64) (hw : w < 2 ^ 64) : ibits .or .u64 (v : Int) (w : Int) = ((v ||| w : Nat) : Int) := by
  unfold ibits
  show IntKind.u64.wrap (((BitVec.ofInt 64 (v : Int)) ||| (BitVec.ofInt 64 (w : Int))).toNat : Int) = _
  rw [BitVec.toNat_or, BitVec.ofInt_natCast, BitVec.ofInt_natCast, BitVec.toNat_ofNat, BitVec.toNat_ofNat, Nat.mod_eq_of_lt hv, Nat.mod_eq_of_lt hw]
  have := Nat.or_lt_two_pow hv hw
  exact wrapu64 (by omega) (by omega)

theorem pow_step {i : Nat} (h : i + 1 ≤ 8) : 256 ^ i * 256 ≤ 2 ^ 64 := by
  rw [← Nat.pow_succ]
  exact Nat.pow_le_pow_right (n := 256) (by omega) h

theorem pow_two (i : Nat) : 2 ^ (8 * i) = 256 ^ i := by rw [Nat.pow_mul]

theorem ldGo_sum : ∀ (l : List UInt8) (i v : Nat), i + l.length ≤ 8 → v < 256 ^ i → ldGo i (v : Int) l = ((v + 256 ^ i * byteSum l : Nat) : Int)
  | [], i, v, _, _ => by simp [ldGo, byteSum]
  | b :: l, i, v, hl, hv => by
    simp only [ldGo, byteSum]
    simp only [List.length_cons] at hl
    have hb : b.toNat < 256 := b.toNat_lt
    have hp := pow_step (i := i) (by omega)
    have hm : b.toNat * 256 ^ i + 256 ^ i ≤ 256 ^ i * 256 := by
      have : (b.toNat + 1) * 256 ^ i ≤ 256 * 256 ^ i := Nat.mul_le_mul_right _ (by omega)
      rw [Nat.add_mul, Nat.one_mul, Nat.mul_comm 256] at this
      exact this
    have hpos : 0 < 256 ^ i := Nat.pow_pos (by omega)
    have e1 : IntKind.u64.wrap (b.toNat : Int) = (b.toNat : Int) := wrapu64
    have e2 : IntKind.i64.wrap (8 * (i : Int)) = ((8 * i : Nat) : Int) := by rw [wrap64]; omega
    have e3 : shlI .u64 (b.toNat : Int) ((8 * i : Nat) : Int) = ((b.toNat * 256 ^ i : Nat) : Int) := by
      unfold shlI
      have : min ((8 * i : Nat) : Int).toNat IntKind.u64.bits = 8 * i := by
        show min ((8 * i : Nat) : Int).toNat 64 = 8 * i
        omega
      rw [this]
      have e : (b.toNat : Int) * 2 ^ (8 * i) = ((b.toNat * 256 ^ i : Nat) : Int) := by
        rw [← pow_two]; push_cast; rfl
      rw [e]
      exact wrapu64 (by omega) (by omega)
    rw [e1, e2, e3, or_u64 (by omega) (by omega)]
    have e4 : v ||| b.toNat * 256 ^ i = v + b.toNat * 256 ^ i := by
      have := Nat.shiftLeft_add_eq_or_of_lt (b := v) (i := 8 * i) (by rw [pow_two]; exact hv) b.toNat
      rw [Nat.shiftLeft_eq, pow_two] at this
      rw [Nat.or_comm, ← this, Nat.add_comm]
    rw [e4, ldGo_sum l (i + 1) _ (by omega) (by rw [Nat.pow_succ]; omega)]
    congr 1
    rw [Nat.pow_succ, Nat.mul_add, Nat.mul_comm (256 ^ i) b.toNat, Nat.mul_assoc]
    omega

section
variable {U : Ifc} {h h' : Heap} {x : Nat → Int} {pb bb : Nat} {bs : List UInt8}

theorem wr_M {l : List V} {mk : Bool} {b o : Nat} {u v : V} {κ : Heap → Prop} {h : Heap} (ho : h.obj b = some (.cells l mk)) (hx : l[o]? = some u) (hk : ∀ h', h'.obj b = some (.cells (l.set o v) mk) → Keeps (· = b) h h' → κ h') : wr ⟨b, o⟩ v κ h := by
  have hg : h.getW b o = some u := (getW_cells ho _).trans hx
  refine wr_of hg (hk _ ?_ (Keeps.set hg))
  simp [Heap.set, ho, HO.set]

theorem shr_byte {v : Int} {i : Nat} (h0 : 0 ≤ v) (hi : i < 8) : IntKind.u8.wrap (shrI .u64 v ((8 * i : Nat) : Int)) = ((UInt8.ofNat (v.toNat / 256 ^ i % 256)).toNat : Int) := by
  unfold shrI
  have : min ((8 * i : Nat) : Int).toNat IntKind.u64.bits = 8 * i := by
    show min ((8 * i : Nat) : Int).toNat 64 = 8 * i
    omega
  rw [this]
  have e : v.fdiv (2 ^ (8 * i)) = ((v.toNat / 256 ^ i : Nat) : Int) := by
    have hv : v = (v.toNat : Int) := by omega
    have hp : (2 : Int) ^ (8 * i) = ((256 ^ i : Nat) : Int) := by rw [← pow_two]; push_cast; rfl
    rw [hp, Int.fdiv_eq_ediv_of_nonneg _ (Int.natCast_nonneg _)]
    conv => lhs; rw [hv]
    exact (Int.natCast_ediv _ _).symm
  rw [e]
  have h8 : (UInt8.ofNat (v.toNat / 256 ^ i % 256)).toNat = v.toNat / 256 ^ i % 256 := by simp
  rw [h8]
  generalize v.toNat / 256 ^ i = m
  simp only [IntKind.wrap, IntKind.bits, IntKind.signed]
  simp

end

end Go.Mem

set_option linter.unusedSimpArgs false
set_option linter.unusedVariables false
set_option maxRecDepth 100000
namespace Go.Mem
open Go.Lift Go.Fn

def isW (n : Nat) : Prop := n = 1 ∨ n = 4 ∨ n = 8
/-- What a number of so many bytes is read as. -/
def sx (n : Nat) (v : Int) : Int := if n = 4 then IntKind.u64.wrap (IntKind.i64.wrap (IntKind.i32.wrap v)) else v
def errN (n len : Nat) (a : Int) : Int := if a.tmod n ≠ 0 then 11 else if lies len a n then 0 else 12
def valN (n : Nat) (bs : List UInt8) (a : Int) : Int := sx n (byteSum ((bs.drop a.toNat).take n))

section
variable {U : Ifc} {h h' : Heap} {x : Nat → Int} {pb bb : Nat} {bs : List UInt8}

theorem wloadN_of (w : Wid U h x) {n : Nat} (hn : isW n) (hk : knownB x n = true) {s : Sl} (H : Held h s 1 (strCells bs)) (hb : bs.length = n) (hcap : s.cap = n) (hp : s.p ≠ none) {Q : Int → Bool → Heap → Prop}
    (hq : Q (sx n (byteSum bs)) true h) {a3 : Int} (ew : a3 = ((n : Nat) : Int)) : zf57 U s 0 a3 Q h := by
  subst ew
  unfold zf57
  have hl : s.len = n := by have := H.len; rw [strCells_length] at this; omega
  have hn8 : 1 ≤ n ∧ n ≤ 8 := by rcases hn with rfl | rfl | rfl <;> omega
  refine known_of w ?_
  rw [hk]
  refine br_f rfl (br_f rfl (br_f (by rw [hl, wrap64]; simp) ?_))
  rw [wrap64]
  refine sb_of (by omega) (by rw [hcap]; omega) (sb_of (by omega) (by omega) ?_)
  obtain ⟨p, hp⟩ : ∃ p, s.p = some p := by cases hs : s.p; exact absurd hs hp; exact ⟨_, rfl⟩
  have hsl : ∃ p', slp s.p ((0 : Int).toNat * 1) (0 : Int).toNat s.cap = some p' ∧ p'.b = p.b ∧ p'.o = p.o := by
    unfold slp
    rw [hp]
    split
    · exact ⟨p, rfl, rfl, rfl⟩
    · exact ⟨p.add 0, rfl, rfl, by simp [Ptr.add]⟩
  obtain ⟨p', hp', hpb, hpo⟩ := hsl
  rw [hp']
  have elen : ((0 : Int) + ((n : Nat) : Int)).toNat - (0 : Int).toNat = n := by omega
  rw [elen]
  unfold zf57.j5
  intro I HI
  have hsum : ldGo 0 0 bs = (byteSum bs : Int) := by
    have := ldGo_sum bs 0 0 (by omega) (by simp)
    simpa using this
  have key : ∀ (m i : Nat) (v : Int), i + m = n → ldGo i v (bs.drop i) = ldGo 0 0 bs → I n v ⟨some p', n, s.cap - (0 : Int).toNat⟩ ((n : Nat) : Int) (i : Int) h := by
    intro m
    induction m with
    | zero =>
      intro i v hi hv
      refine HI _ _ _ _ _ _ ?_
      unfold zf57.b5
      rw [List.drop_of_length_le (by omega)] at hv
      have hv : v = ldGo 0 0 bs := hv
      rw [hsum] at hv
      refine br_f (by simp; omega) ?_
      unfold sx at hq
      by_cases h4 : n = 4
      · subst h4; rw [if_pos rfl] at hq
        refine br_t rfl ?_
        rw [hv]; exact hq
      · rw [if_neg h4] at hq
        refine br_f (by simp; omega) ?_
        rw [hv]; exact hq
    | succ m ih =>
      intro i v hi hv
      refine HI _ _ _ _ _ _ ?_
      unfold zf57.b5
      have hlt : i < bs.length := by omega
      refine br_t (by simp; omega) (ix_of (by omega) (by simp; omega) ?_)
      rw [der_some, Int.toNat_natCast]
      have hbi : bs[i]? = some bs[i] := List.getElem?_eq_getElem hlt
      refine rdI_of (x := (bs[i].toNat : Int)) ?_ (nneg_of (by rw [wrap64]; omega) ?_)
      · show h.get p'.b (p'.o + i * 1) = _
        rw [hpb, hpo, Nat.mul_one]
        exact H.row p hp i _ (by rw [strCells_get, hbi]; rfl)
      · rw [wrap64 (x := (i : Int) + 1)]
        rw [List.drop_eq_getElem_cons hlt] at hv
        have := ih (i + 1) _ (by omega) hv
        simpa using this
  have := key n 0 0 (by omega) rfl
  simpa using this

theorem numberN_of (R : Rep pb bb bs h) {n : Nat} (hn : isW n) {a : Int} (ha : 0 ≤ a) (ha2 : a ≤ 18446744073709551615) {Q : Sl → Int → Heap → Prop}
    (he : errN n bs.length a ≠ 0 → ∀ h', Keeps none_ h h' → Q ⟨none, 0, 0⟩ (errN n bs.length a) h')
    (h00 : errN n bs.length a = 0 → a + n ≤ bs.length → ∀ d h', d.len = n → d.cap = n → d.p = some ⟨bb, a.toNat⟩ → Keeps none_ h h' → Q d 0 h') {a3 : Int} (ew : a3 = ((n : Nat) : Int)) : zf27 (some ⟨pb, 0⟩) a a3 Q h := by
  subst ew
  unfold zf27
  have hn8 : 1 ≤ n ∧ n ≤ 8 := by rcases hn with rfl | rfl | rfl <;> omega
  have fin : zf27.j5 (some ⟨pb, 0⟩) a ((n : Nat) : Int) Q h := by
    unfold zf27.j5
    have e8 : IntKind.u64.wrap ((n : Nat) : Int) = n := wrapu64
    rw [e8]
    refine nz_of (by omega) (br_if (fun hm => ?_) (fun hm => ?_))
    · have e : errN n bs.length a = 11 := by unfold errN; rw [if_pos (by simpa using hm)]
      have := he (by rw [e]; decide) h (Keeps.refl _ _)
      rw [e] at this; exact this
    · have hm : ¬ a.tmod n ≠ 0 := by simpa using hm
      refine part_of R ha ha2 (by omega) (by omega) (fun h => by omega) (fun _ hl h' k => ?_) (fun _ hle hal d h' hd hc ⟨o, hp, ho, hol⟩ k => ?_)
      · have e : errN n bs.length a = 12 := by unfold errN; rw [if_neg hm, hl]; rfl
        have := he (by rw [e]; decide) h' k
        rw [e] at this; exact this
      · have hl : lies bs.length a n = true := by simp [lies]; omega
        have e : errN n bs.length a = 0 := by unfold errN; rw [if_neg hm, hl]; rfl
        refine h00 e (by omega) d h' (by rw [hd]; omega) (by rw [hc]; omega) (by rw [hp, ho (by omega)]) k
  refine none_of R (br_f rfl ?_)
  rcases hn with rfl | rfl | rfl
  · exact br_f rfl fin
  · exact br_t rfl (br_f rfl fin)
  · exact br_t rfl (br_t rfl (br_f rfl fin))

theorem LoadN_of (w : Wid U h x) (R : Rep pb bb bs h) {n : Nat} (hn : isW n) (hk : knownB x n = true) {a : Int} (ha : 0 ≤ a) (ha2 : a ≤ 18446744073709551615) {Q : Int → Int → Heap → Prop}
    (hq : errN n bs.length a = 0 → ∀ h', Keeps none_ h h' → Q (valN n bs a) 0 h') (he : errN n bs.length a ≠ 0 → ∀ h', Keeps none_ h h' → Q 0 (errN n bs.length a) h') {a3 : Int} (ew : a3 = ((n : Nat) : Int)) : zf23 U (some ⟨pb, 0⟩) a a3 Q h := by
  unfold zf23
  refine numberN_of R hn ha ha2 (fun hne h' k => ?_) (fun h0 hle d h' hd hc hp k => ?_) ew
  · exact br_t (by simpa using hne) (he hne h' k)
  · refine br_f rfl ?_
    have R' := R.keep0 k
    have hH := R'.held hp (by rw [hd]; omega)
    rw [hd] at hH
    have hlen : ((bs.drop a.toNat).take n).length = n := by simp; omega
    exact wloadN_of (w.keep0 k) hn hk hH hlen hc (by rw [hp]; simp) (hq h0 h' k) ew

theorem wstoreN_of (w : Wid U h x) {n : Nat} (hn : isW n) (hk : knownB x n = true) {v : Int} (h0 : 0 ≤ v) {Q : Sl → Heap → Prop}
    (hq : ∀ h' b, Own h' ⟨some ⟨b, 0⟩, n, n⟩ 1 (strCells (le n v.toNat)) b → h.obj b = none → Keeps none_ h h' → Q ⟨some ⟨b, 0⟩, n, n⟩ h') {a3 : Int} (ew : a3 = ((n : Nat) : Int)) : zf58 U v a3 Q h := by
  subst ew
  unfold zf58
  have hn8 : 1 ≤ n ∧ n ≤ 8 := by rcases hn with rfl | rfl | rfl <;> omega
  refine known_of w ?_
  rw [hk]
  refine br_f rfl ?_
  refine mkSl_of (sz := 1) (n := n) rfl (by omega) (by omega) (fun h1 b O hb k1 => ?_)
  obtain ⟨rest, mk, ho, hr⟩ := O.obj
  have hr0 : rest = [] := List.length_eq_zero_iff.1 (by rw [hr]; simp)
  subst hr0
  rw [List.append_nil] at ho
  unfold zf58.j5
  intro I H
  have key : ∀ (m i : Nat) (l : List V) (g : Heap), i + m = n → l.length = n → (∀ j, j < i → l[j]? = (strCells (le n v.toNat))[j]?) → g.obj b = some (.cells l mk) → Keeps (· = b) h1 g → I v ⟨some ⟨b, 0⟩, n, n⟩ n (i : Int) g := by
    intro m
    induction m with
    | zero =>
      intro i l g hi hl hj hg kg
      refine H _ _ _ _ _ ?_
      unfold zf58.b5
      refine br_f (by simp; omega) ?_
      have el : l = strCells (le n v.toNat) := by
        refine List.ext_getElem? (fun j => ?_)
        by_cases hj8 : j < n
        · exact hj j (by omega)
        · rw [List.getElem?_eq_none (by omega), List.getElem?_eq_none (by rw [strCells_length, le_length]; omega)]
      subst el
      exact hq g b ⟨rfl, Nat.le_refl _, by rw [strCells_length, le_length]; show n = n * 1; omega, [], mk, by rw [List.append_nil]; exact hg, by show 0 = (n - n) * 1; omega⟩ hb (Keeps.widen' k1 kg hb)
    | succ m ih =>
      intro i l g hi hl hj hg kg
      refine H _ _ _ _ _ ?_
      unfold zf58.b5
      have e8 : IntKind.i64.wrap (8 * (i : Int)) = ((8 * i : Nat) : Int) := by rw [wrap64]; omega
      refine br_t (by simp; omega) (nneg_of (by rw [e8]; omega) (ix_of (by omega) (by show (i : Int) < ((n : Nat) : Int); omega) ?_))
      rw [der_some, e8, shr_byte h0 (by omega)]
      have hli : i < l.length := by omega
      refine wr_M (u := l[i]) hg (by simp [List.getElem?_eq_getElem hli]) (fun g1 hg1 q1 => ?_)
      have e0 : 0 + (i : Int).toNat * 1 = i := by omega
      rw [e0] at hg1
      rw [wrap64]
      have := ih (i + 1) _ g1 (by omega) (by rw [List.length_set]; exact hl) (fun j hjl => ?_) hg1 (kg.trans q1)
      · simpa using this
      · by_cases e : j = i
        · subst e
          rw [List.getElem?_set_self hli, strCells_get, le_get n _ j (by omega)]
          rfl
        · rw [List.getElem?_set_ne (by omega)]
          exact hj j (by omega)
  have hfl : (flatRep n [V.int .u8 0]).length = n := by rw [flatRep_length]; simp
  have := key n 0 _ h1 (by omega) hfl (fun j hj => by omega) ho (Keeps.refl _ _)
  simpa using this

theorem StoreN_of (w : Wid U h x) (R : Rep pb bb bs h) {n : Nat} (hn : isW n) (hk : knownB x n = true) {a v : Int} (ha : 0 ≤ a) (ha2 : a ≤ 18446744073709551615) (h0 : 0 ≤ v) {Q : Int → Heap → Prop}
    (hq : errN n bs.length a = 0 → a + n ≤ bs.length → ∀ h', Rep pb bb (put bs a.toNat (le n v.toNat)) h' → Keeps (· = bb) h h' → Q 0 h') (he : errN n bs.length a ≠ 0 → ∀ h', Keeps none_ h h' → Q (errN n bs.length a) h') {a3 : Int} (ew : a3 = ((n : Nat) : Int)) : zf25 U (some ⟨pb, 0⟩) a a3 v Q h := by
  unfold zf25
  have hs := R.size
  have hn8 : 1 ≤ n ∧ n ≤ 8 := by rcases hn with rfl | rfl | rfl <;> omega
  refine numberN_of R hn ha ha2 (fun hne h' k => br_f (by simpa using hne) (he hne h' k)) (fun e0 hle d h1 hd hc hp k1 => ?_) ew
  refine br_t rfl (wstoreN_of (w.keep0 k1) hn hk h0 (fun h2 b O hb k2 => ?_) ew)
  have R2 := (R.keep0 k1).keep0 k2
  refine cellsS_of O.held ?_
  obtain ⟨mk, harr⟩ := R2.arr
  have htk : (strCells (le n v.toNat)).take (min n d.len * 1) = strCells (le n v.toNat) := by rw [hd, Nat.min_self, Nat.mul_one]; exact List.take_of_length_le (by rw [strCells_length, le_length]; omega)
  refine copyS_of (o := a.toNat) hp harr (by rw [htk, strCells_length, strCells_length, le_length]; omega) (fun h3 ho3 k3 => ?_)
  rw [htk, put_cells] at ho3
  have hpl : (put bs a.toNat (le n v.toNat)).length = bs.length := put_length (by rw [le_length]; omega)
  have k13 : Keeps (· = bb) h h3 := ((k1.trans k2).mono (fun _ f => f.elim)).trans k3
  refine hq e0 hle h3 ⟨?_, ⟨mk, ho3⟩, R.ne, by rw [hpl]; exact R.size⟩ k13
  rw [hpl]
  exact k13.obj R.cell R.ne

end
end Go.Mem

set_option linter.unusedSimpArgs false
set_option linter.unusedVariables false
set_option maxRecDepth 100000
namespace Go.Mem
open Go.Lift Go.Fn

section
variable {pb bb : Nat} {bs : List UInt8} {h h' : Heap}

theorem clone_of {s : Sl} {x : List UInt8} (H : Held h s 1 (strCells x)) (hs : s.p ≠ none) (hl : x.length ≤ 140737488355328) {Q : Sl → Heap → Prop} (hq : ∀ s' h' b, Own h' s' 1 (strCells x) b → s'.len = x.length → h.obj b = none → Keeps none_ h h' → Q s' h') : zf12 s Q h := by
  unfold zf12
  have : s.p.isNone = false := by cases hp : s.p; exact absurd hp hs; rfl
  refine br_f this ?_
  intro b hb
  have hlen : s.len = x.length := by have := H.len; simp [strCells_length] at this; omega
  refine cellsS_of (H.keeps (Keeps.new (S := none_) hb _) (fun _ _ f => f)) ?_
  rw [hlen]
  exact copy_of (sz := 1) (bytes := 1) (n := x.length) (by simp [strCells_length]) rfl (by omega) (by omega) hq hb

theorem sclone_of {s : Sl} {x : List UInt8} (H : Held h s 1 (strCells x)) (hs : s.p ≠ none) (hl : x.length ≤ 140737488355328) {Q : Sl → Heap → Prop} (hq : ∀ s' h' b, Own h' s' 1 (strCells x) b → s'.len = x.length → h.obj b = none → Keeps none_ h h' → Q s' h') : zf48 s Q h := clone_of H hs hl hq

theorem Bytes_of (R : Rep pb bb bs h) {a n : Int} (ha : 0 ≤ a) (ha2 : a ≤ 18446744073709551615) (hn1 : -9223372036854775808 ≤ n) (hn : n ≤ 9223372036854775807) {Q : Sl → Int → Heap → Prop}
    (h2 : n < 0 → ∀ h', Keeps none_ h h' → Q ⟨none, 0, 0⟩ 2 h')
    (h12 : 0 ≤ n → lies bs.length a n = false → ∀ h', Keeps none_ h h' → Q ⟨none, 0, 0⟩ 12 h')
    (h00 : 0 ≤ n → n ≤ bs.length → a ≤ bs.length - n → ∀ s' h' b, Own h' s' 1 (strCells ((bs.drop a.toNat).take n.toNat)) b → s'.len = n.toNat → h.obj b = none → Keeps none_ h h' → Q s' 0 h') : zf21 (some ⟨pb, 0⟩) a n Q h := by
  unfold zf21
  have nilc : ∀ (h : Heap) (Q : Sl → Heap → Prop), Q ⟨none, 0, 0⟩ h → zf12 ⟨none, 0, 0⟩ Q h := fun h Q hq => by unfold zf12; exact br_t rfl hq
  refine part_of R ha ha2 hn1 hn (fun h h' k => nilc _ _ (h2 h h' k)) (fun p q h' k => nilc _ _ (h12 p q h' k)) (fun p q r d h' hd _ ⟨o, hp, ho, hol⟩ k => ?_)
  have R' := R.keep0 k
  have hs := R.size
  refine clone_of (R'.held hp hol) (by rw [hp]; simp) (by simp; omega) (fun s' h'' b O hl hb k' => ?_)
  have e : (bs.drop o).take d.len = (bs.drop a.toNat).take n.toNat := by
    rw [hd]
    by_cases hn : 0 < n
    · rw [ho hn]
    · have : n.toNat = 0 := by omega
      rw [this]; simp
  rw [e] at O hl
  exact h00 p q r s' h'' b O (by rw [hl]; simp; omega) (fresh_of k hb) (k.trans k')

theorem Put_of (R : Rep pb bb bs h) {a : Int} (ha : 0 ≤ a) (ha2 : a ≤ 18446744073709551615) {s : Sl} {x : List UInt8} (H : Held h s 1 (strCells x)) (hx : x.length ≤ 9223372036854775807) {Q : Int → Heap → Prop}
    (h12 : lies bs.length a x.length = false → ∀ h', Keeps none_ h h' → Q 12 h')
    (h00 : a + x.length ≤ bs.length → ∀ h', Rep pb bb (put bs a.toNat x) h' → Keeps (· = bb) h h' → Q 0 h') : zf24 (some ⟨pb, 0⟩) a s Q h := by
  unfold zf24
  have hlen : s.len = x.length := by have := H.len; simp [strCells_length] at this; omega
  rw [hlen]
  refine part_of R ha ha2 (by omega) (by omega) (fun h => by omega) (fun _ q h' k => br_f rfl (h12 q h' k)) (fun _ q r d h' hd _ ⟨o, hp, ho, hol⟩ k => br_t rfl ?_)
  have R' := R.keep0 k
  refine cellsS_of (H.keeps k (fun _ _ f => f)) ?_
  obtain ⟨mk, harr⟩ := R'.arr
  have hmin : min x.length d.len = x.length := by omega
  have htk : (strCells x).take (min x.length d.len * 1) = strCells x := by rw [hmin, Nat.mul_one]; exact List.take_of_length_le (by simp [strCells_length])
  refine copyS_of (o := o) hp harr (by rw [htk, strCells_length, strCells_length]; omega) (fun h2 ho2 k2 => ?_)
  rw [htk, put_cells] at ho2
  have e : put bs o x = put bs a.toNat x := by
    by_cases hx0 : x.length = 0
    · have : x = [] := List.length_eq_zero_iff.1 hx0
      subst this; simp [put]
    · rw [ho (by omega)]
  rw [e] at ho2
  have hpl : (put bs a.toNat x).length = bs.length := put_length (by omega)
  refine h00 (by omega) h2 ⟨?_, ⟨mk, ho2⟩, R.ne, by rw [hpl]; exact R.size⟩ ((k.mono (fun _ f => f.elim)).trans k2)
  rw [hpl]
  exact k2.obj R'.cell R.ne

end
end Go.Mem

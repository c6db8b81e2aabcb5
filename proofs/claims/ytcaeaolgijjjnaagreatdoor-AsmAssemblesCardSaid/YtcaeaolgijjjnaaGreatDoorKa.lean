/- Words on shallow memories: reading, writing, what is kept. -/
import Derived.Test.YtcaeaolgijjjnaaGreatDoorLa
import Derived.Test.YtcaeaolgijjjnaaGreatDoorLb
import Derived.Test.YtcaeaolgijjjnaaGreatDoorFa
set_option linter.unusedSimpArgs false
set_option linter.unusedVariables false

set_option linter.unusedSimpArgs false
set_option linter.unusedVariables false
set_option maxRecDepth 100000
namespace Go.Lift

theorem Heap.get_of_W {h : Heap} {b o : Nat} {v : V} (hg : h.getW b o = some v) : h.get b o = some v := by
  unfold Heap.getW at hg
  unfold Heap.get
  split at hg
  · rename_i l m hl; rw [hl]; exact hg
  · cases hg

theorem Heap.obj_of_W {h : Heap} {b o : Nat} {v : V} (hg : h.getW b o = some v) : h.obj b ≠ none := by
  unfold Heap.getW at hg
  intro hn
  rw [hn] at hg
  cases hg

theorem Heap.getW_set {h : Heap} {b o : Nat} {u v : V} (hg : h.getW b o = some u) (b' o' : Nat) : (h.set b o v).getW b' o' = if b' = b ∧ o' = o then some v else h.getW b' o' := by
  unfold Heap.getW at hg
  simp only [Heap.getW, Heap.set]
  by_cases hb : b' = b
  · subst hb
    simp only [if_true, true_and]
    cases hx : h.obj b' with
    | none => rw [hx] at hg; cases hg
    | some x =>
      rw [hx] at hg
      cases x with
      | map ks es bs c => cases hg
      | iter m a b c => cases hg
      | siter a b => cases hg
      | chan a b => cases hg
      | ro f => cases hg
      | cells l m =>
        simp only at hg
        simp only [Option.map_some, HO.set]
        by_cases ho : o' = o
        · subst ho
          rw [if_pos rfl, List.getElem?_set_self]
          rcases Nat.lt_or_ge o' l.length with h | h
          · exact h
          · rw [List.getElem?_eq_none h] at hg; cases hg
        · rw [if_neg ho, List.getElem?_set_ne (fun h => ho h.symm)]
  · simp [hb]

theorem Heap.obj_set {h : Heap} {b o : Nat} {v : V} {b' : Nat} (hb : b' ≠ b) : (h.set b o v).obj b' = h.obj b' := by
  simp [Heap.set, hb]

theorem Heap.getW_obj {h h' : Heap} {b : Nat} (e : h'.obj b = h.obj b) (o : Nat) : h'.getW b o = h.getW b o := by
  simp [Heap.getW, e]

theorem Heap.get_obj {h h' : Heap} {b : Nat} (e : h'.obj b = h.obj b) (o : Nat) : h'.get b o = h.get b o := by
  simp [Heap.get, e]

/-- All blocks that were known are as they were, but those of S, which are known still. -/
structure Keeps (S : Nat → Prop) (h h' : Heap) : Prop where
  same : ∀ b, h.obj b ≠ none → ¬ S b → h'.obj b = h.obj b
  known : ∀ b, h.obj b ≠ none → h'.obj b ≠ none

def none_ : Nat → Prop := fun _ => False

theorem Keeps.refl (S : Nat → Prop) (h : Heap) : Keeps S h h := ⟨fun _ _ _ => rfl, fun _ h => h⟩

theorem Keeps.trans {S : Nat → Prop} {a b c : Heap} (h : Keeps S a b) (k : Keeps S b c) : Keeps S a c :=
  ⟨fun x hx hs => (k.same x (h.known x hx) hs).trans (h.same x hx hs), fun x hx => k.known x (h.known x hx)⟩

theorem Keeps.mono {S S' : Nat → Prop} {a b : Heap} (h : Keeps S a b) (hs : ∀ x, S x → S' x) : Keeps S' a b :=
  ⟨fun x hx hn => h.same x hx (fun s => hn (hs x s)), h.known⟩

theorem Keeps.set {h : Heap} {b o : Nat} {u v : V} (hg : h.getW b o = some u) : Keeps (· = b) h (h.set b o v) := by
  refine ⟨fun x _ hs => Heap.obj_set hs, fun x hx => ?_⟩
  by_cases hb : x = b
  · subst hb
    simp only [Heap.set, if_true]
    cases hy : h.obj x with
    | none => exact absurd hy hx
    | some y => simp
  · rw [Heap.obj_set hb]; exact hx

theorem Keeps.new {S : Nat → Prop} {h : Heap} {b : Nat} (hb : h.obj b = none) (x : HO) : Keeps S h (h.new b x) := by
  refine ⟨fun y hy _ => ?_, fun y hy => ?_⟩ <;>
  · have : y ≠ b := fun e => hy (e ▸ hb)
    simp only [Heap.new, if_neg this]
    try exact hy

theorem Heap.new_obj {h : Heap} {b : Nat} {x : HO} : (h.new b x).obj b = some x := by simp [Heap.new]

theorem getW_cells {h : Heap} {b : Nat} {l : List V} {m : Bool} (e : h.obj b = some (.cells l m)) (o : Nat) : h.getW b o = l[o]? := by simp [Heap.getW, e]
theorem get_cells {h : Heap} {b : Nat} {l : List V} {m : Bool} (e : h.obj b = some (.cells l m)) (o : Nat) : h.get b o = l[o]? := by simp [Heap.get, e]

/-! ### steps -/

theorem rdI_of {k : IntKind} {p : Ptr} {κ : Int → Prop} {h : Heap} {x : Int} (hg : h.get p.b p.o = some (.int k x)) (hk : κ x) : rdI k p κ h := ⟨x, hg, hk⟩
theorem rdB_of {p : Ptr} {κ : Bool → Prop} {h : Heap} {x : Bool} (hg : h.get p.b p.o = some (.bool x)) (hk : κ x) : rdB p κ h := ⟨x, hg, hk⟩
theorem rdStr_of {p : Ptr} {κ : List UInt8 → Prop} {h : Heap} {x : List UInt8} (hg : h.get p.b p.o = some (.str x)) (hk : κ x) : rdStr p κ h := ⟨x, hg, hk⟩
theorem rdP_of {p : Ptr} {κ : Option Ptr → Prop} {h : Heap} {x : Option Ptr} (hg : h.get p.b p.o = some (.ptr x)) (hk : κ x) : rdP p κ h := ⟨x, hg, hk⟩
theorem rdSl_of {p : Ptr} {κ : Sl → Prop} {h : Heap} {x : Sl} (hg : h.get p.b p.o = some (.sl x)) (hk : κ x) : rdSl p κ h := ⟨x, hg, hk⟩
theorem rdM_of {p : Ptr} {κ : Option Nat → Prop} {h : Heap} {x : Option Nat} (hg : h.get p.b p.o = some (.map x)) (hk : κ x) : rdM p κ h := ⟨x, hg, hk⟩
theorem rdV_of {p : Ptr} {κ : V → Prop} {h : Heap} {x : V} (hg : h.get p.b p.o = some x) (hk : κ x) : rdV p κ h := ⟨x, hg, hk⟩
theorem wr_of {p : Ptr} {v u : V} {κ : Heap → Prop} {h : Heap} (hg : h.getW p.b p.o = some u) (hk : κ (h.set p.b p.o v)) : wr p v κ h := ⟨⟨u, hg⟩, hk⟩

theorem br_if {c : Bool} {A B : Prop} (h1 : c = true → A) (h2 : c = false → B) : br c A B := by
  cases c
  · exact h2 rfl
  · exact h1 rfl

theorem br_f {c : Bool} {A B : Prop} (h : c = false) (hB : B) : br c A B := by rw [h]; exact hB
theorem br_t {c : Bool} {A B : Prop} (h : c = true) (hA : A) : br c A B := by rw [h]; exact hA

theorem ix_of {i : Int} {n : Nat} {κ : Nat → Prop} (h0 : 0 ≤ i) (h1 : i < n) (hk : κ i.toNat) : ix i n κ := ⟨h0, h1, hk⟩

theorem der_some {p : Ptr} {κ : Ptr → Prop} : der (some p) κ = κ p := rfl

/-- A local variable that is laid and filled at once. -/
theorem al_wrL {z vs : List V} {κ : Nat → Heap → Prop} {h : Heap} (hl : z.length = vs.length) (hk : ∀ b h', h.obj b = none → h'.obj b = some (.cells vs false) → Keeps none_ h h' → κ b h') :
    al z (fun b h => wrL vs ⟨b, 0⟩ 0 (κ b) h) h := by
  intro b hb
  have key : ∀ (vs pre z : List V) (h1 : Heap), z.length = vs.length → h1.obj b = some (.cells (pre ++ z) false) → Keeps none_ h h1 →
      (∀ h', h'.obj b = some (.cells (pre ++ vs) false) → Keeps none_ h h' → κ b h') → wrL vs ⟨b, 0⟩ pre.length (κ b) h1 := by
    intro vs
    induction vs with
    | nil =>
      intro pre z h1 hz ho hk1 hk
      have : z = [] := List.length_eq_zero_iff.1 (by simpa using hz)
      subst this
      exact hk h1 ho hk1
    | cons v vs ih =>
      intro pre z h1 hz ho hk1 hk
      cases z with
      | nil => simp at hz
      | cons u z =>
        have hg : h1.getW b (0 + pre.length) = some u := by rw [getW_cells ho]; simp
        refine wr_of (p := (⟨b, 0⟩ : Ptr).add pre.length) hg ?_
        have := ih (pre ++ [v]) z (h1.set b (0 + pre.length) v) (by simpa using hz) (by simp [Heap.set, ho, HO.set]) ?_ ?_
        · have e : ((⟨b, 0⟩ : Ptr).add pre.length).o = 0 + pre.length := rfl
          show wrL vs ⟨b, 0⟩ (pre.length + 1) (κ b) (h1.set b (0 + pre.length) v)
          simpa using this
        · refine ⟨fun x hx hs => ?_, fun x hx => (Keeps.set hg).known x (hk1.known x hx)⟩
          have hne : x ≠ b := fun e => hx (e ▸ hb)
          rw [Heap.obj_set hne]
          exact hk1.same x hx hs
        · intro h' ho' hk'
          exact hk h' (by simpa using ho') hk'
  exact key vs [] z _ hl (by simp [Heap.new]) (Keeps.new hb _) (fun h' ho hk' => hk b h' hb (by simpa using ho) hk')

theorem al_of {z : List V} {κ : Nat → Heap → Prop} {h : Heap} (hk : ∀ b h', h.obj b = none → h'.obj b = some (.cells z false) → Keeps none_ h h' → κ b h') : al z κ h :=
  fun b hb => hk b _ hb Heap.new_obj (Keeps.new hb _)

end Go.Lift

namespace Go.Lift

theorem loc_I {l : List V} {m : Bool} {b o : Nat} {k : IntKind} {x : Int} {κ : Int → Prop} {h : Heap} (ho : h.obj b = some (.cells l m)) (hx : l[o]? = some (.int k x)) (hk : κ x) : rdI k ⟨b, o⟩ κ h := rdI_of ((get_cells ho _).trans hx) hk
theorem loc_B {l : List V} {m : Bool} {b o : Nat} {x : Bool} {κ : Bool → Prop} {h : Heap} (ho : h.obj b = some (.cells l m)) (hx : l[o]? = some (.bool x)) (hk : κ x) : rdB ⟨b, o⟩ κ h := rdB_of ((get_cells ho _).trans hx) hk
theorem loc_Str {l : List V} {m : Bool} {b o : Nat} {x : List UInt8} {κ : List UInt8 → Prop} {h : Heap} (ho : h.obj b = some (.cells l m)) (hx : l[o]? = some (.str x)) (hk : κ x) : rdStr ⟨b, o⟩ κ h := rdStr_of ((get_cells ho _).trans hx) hk
theorem loc_P {l : List V} {m : Bool} {b o : Nat} {x : Option Ptr} {κ : Option Ptr → Prop} {h : Heap} (ho : h.obj b = some (.cells l m)) (hx : l[o]? = some (.ptr x)) (hk : κ x) : rdP ⟨b, o⟩ κ h := rdP_of ((get_cells ho _).trans hx) hk
theorem loc_wr {l : List V} {b o : Nat} {u v : V} {κ : Heap → Prop} {h : Heap} (ho : h.obj b = some (.cells l false)) (hx : l[o]? = some u) (hk : ∀ h', h'.obj b = some (.cells (l.set o v) false) → Keeps (· = b) h h' → κ h') : wr ⟨b, o⟩ v κ h := by
  have hg : h.getW b o = some u := (getW_cells ho _).trans hx
  exact wr_of (p := ⟨b, o⟩) hg (hk _ (by simp [Heap.set, ho, HO.set]) (Keeps.set hg))

theorem Keeps.obj {S : Nat → Prop} {h h' : Heap} {b : Nat} {x : HO} (k : Keeps S h h') (e : h.obj b = some x) (hs : ¬ S b) : h'.obj b = some x := (k.same b (by rw [e]; simp) hs).trans e
theorem Keeps.ne {S : Nat → Prop} {h h' : Heap} {b c : Nat} (k : Keeps S h h') (hb : h.obj b ≠ none) (hc : h'.obj c = none) : b ≠ c := fun e => k.known b hb (e ▸ hc)

/-- A row of integers. -/
def IntArr (k : IntKind) (n : Nat) (p : Ptr) (f : Nat → Int) (h : Heap) : Prop := ∀ i, i < n → h.getW p.b (p.o + i * 1) = some (.int k (f i))

section
variable {k : IntKind} {n : Nat} {p : Ptr} {f : Nat → Int} {h h' : Heap}
theorem IntArr.stay (R : IntArr k n p f h) (e : h'.obj p.b = h.obj p.b) : IntArr k n p f h' := fun i hi => (Heap.getW_obj e _).trans (R i hi)
theorem IntArr.known (R : IntArr k n p f h) (hn : 0 < n) : h.obj p.b ≠ none := Heap.obj_of_W (R 0 hn)
theorem IntArr.keeps {S : Nat → Prop} (R : IntArr k n p f h) (hk : Keeps S h h') (hn : 0 < n) (hs : ¬ S p.b) : IntArr k n p f h' := R.stay (hk.same _ (R.known hn) hs)
theorem IntArr.rd (R : IntArr k n p f h) {i : Nat} (hi : i < n) {κ : Int → Prop} (hk : κ (f i)) : rdI k (p.add (i * 1)) κ h := rdI_of (Heap.get_of_W (R i hi)) hk
theorem IntArr.wr (R : IntArr k n p f h) {i : Nat} (hi : i < n) {x : Int} {κ : Heap → Prop} (hk : ∀ h', IntArr k n p (fun j => if j = i then x else f j) h' → Keeps (· = p.b) h h' → κ h') : wr (p.add (i * 1)) (.int k x) κ h := by
  have hg := R i hi
  refine wr_of hg (hk _ ?_ (Keeps.set hg))
  intro j hj
  refine (Heap.getW_set hg _ _).trans ?_
  by_cases e : j = i
  · subst e; rw [if_pos ⟨rfl, rfl⟩]; simp
  · rw [if_neg (by rintro ⟨_, e2⟩; omega)]; simp only [if_neg e]; exact R j hj
end

/-! ### records from lists -/

def isS : Option V → Bool | some (.str _) => true | _ => false
end Go.Lift

set_option linter.unusedSimpArgs false
set_option linter.unusedVariables false
set_option maxRecDepth 100000
namespace Go.Lift

theorem wrap64 {x : Int} (h1 : -9223372036854775808 ≤ x := by omega) (h2 : x ≤ 9223372036854775807 := by omega) : IntKind.i64.wrap x = x := by
  simp only [IntKind.wrap, IntKind.bits, IntKind.signed]
  simp
  split <;> omega

theorem wrapu64 {x : Int} (h1 : 0 ≤ x := by omega) (h2 : x ≤ 18446744073709551615 := by omega) : IntKind.u64.wrap x = x := by
  simp only [IntKind.wrap, IntKind.bits, IntKind.signed]
  simp
  omega

theorem wrap64_range (x : Int) : -9223372036854775808 ≤ IntKind.i64.wrap x ∧ IntKind.i64.wrap x ≤ 9223372036854775807 := by
  simp only [IntKind.wrap, IntKind.bits, IntKind.signed]
  simp
  split <;> omega

theorem wf_u64 {n : Int} (h : (Lit.int .u64 n).wf = true) : 0 ≤ n ∧ n ≤ 18446744073709551615 := by
  simpa [Lit.wf, IntKind.min, IntKind.max, IntKind.signed, IntKind.bits] using h

end Go.Lift

set_option linter.unusedSimpArgs false
set_option linter.unusedVariables false
set_option maxRecDepth 100000
namespace Go.Lift

theorem chk_of {b : Bool} {A : Prop} (h : b = true) (hA : A) : chk b A := by rw [h]; exact hA
theorem sb_of {i : Int} {n : Nat} {κ : Nat → Prop} (h0 : 0 ≤ i) (h1 : i ≤ n) (hk : κ i.toNat) : sb i n κ := ⟨h0, h1, hk⟩
theorem nz_of {x : Int} {A : Prop} (h : x ≠ 0) (hA : A) : nz x A := ⟨h, hA⟩
theorem nneg_of {x : Int} {A : Prop} (h : 0 ≤ x) (hA : A) : nneg x A := ⟨h, hA⟩

theorem loc_M {l : List V} {m : Bool} {b o : Nat} {x : Option Nat} {κ : Option Nat → Prop} {h : Heap} (ho : h.obj b = some (.cells l m)) (hx : l[o]? = some (.map x)) (hk : κ x) : rdM ⟨b, o⟩ κ h := rdM_of ((get_cells ho _).trans hx) hk

theorem Heap.ne_of {h : Heap} {a b : Nat} {x : HO} (ha : h.obj a = some x) (hb : h.obj b = none) : a ≠ b := fun e => by rw [e, hb] at ha; cases ha

/-- A local variable is laid, then written. -/
theorem Keeps.widen' {h h1 h2 : Heap} {b : Nat} (k1 : Keeps none_ h h1) (k2 : Keeps (· = b) h1 h2) (hb : h.obj b = none) : Keeps none_ h h2 := by
  refine ⟨fun y hy _ => ?_, fun y hy => k2.known y (k1.known y hy)⟩
  rw [k2.same y (k1.known y hy) (fun e => hy (e ▸ hb))]
  exact k1.same y hy (fun f => f)

/-- A slice whose cells are known. -/
structure Held (h : Heap) (s : Sl) (sz : Nat) (vs : List V) : Prop where
  len : vs.length = s.len * sz
  row : ∀ p, s.p = some p → ∀ i v, vs[i]? = some v → h.get p.b (p.o + i) = some v
  nil : s.p = none → s.len = 0

/-- The block of a slice. -/
def Sl.at (s : Sl) (b : Nat) : Prop := ∃ p, s.p = some p ∧ p.b = b

theorem Held.keeps {S : Nat → Prop} {h h' : Heap} {s : Sl} {sz : Nat} {vs : List V} (H : Held h s sz vs) (k : Keeps S h h') (hs : ∀ p, s.p = some p → ¬ S p.b) : Held h' s sz vs := by
  refine ⟨H.len, fun p hp i v hv => ?_, H.nil⟩
  have hg := H.row p hp i v hv
  have hn : h.obj p.b ≠ none := by
    intro hn; unfold Heap.get at hg; rw [hn] at hg; cases hg
  rw [Heap.get_obj (k.same p.b hn (hs p hp))]; exact hg

theorem Held.known {h : Heap} {s : Sl} {sz : Nat} {vs : List V} (H : Held h s sz vs) (hne : vs ≠ []) (p : Ptr) (hp : s.p = some p) : h.obj p.b ≠ none := by
  cases vs with
  | nil => exact absurd rfl hne
  | cons v vs =>
    have := H.row p hp 0 v rfl
    intro hn
    unfold Heap.get at this
    rw [hn] at this
    cases this

theorem Held.empty {h : Heap} {sz : Nat} : Held h ⟨none, 0, 0⟩ sz [] := ⟨by simp, fun p hp => (by cases hp), fun _ => rfl⟩

theorem rdN_held {h : Heap} {n : Nat} {p : Ptr} {vs : List V} {κ : List V → Prop} (hl : vs.length = n) (hr : ∀ i v, vs[i]? = some v → h.get p.b (p.o + i) = some v) (hk : κ vs) : rdN n p κ h := by
  refine ⟨vs, hl, fun i hi => ?_, hk⟩
  rw [List.getElem?_eq_getElem (by omega)]
  exact hr i _ (List.getElem?_eq_getElem (by omega))

theorem cellsS_of {h : Heap} {s : Sl} {sz : Nat} {vs : List V} {κ : List V → Prop} (H : Held h s sz vs) (hk : κ vs) : cellsS sz s κ h := by
  unfold cellsS
  cases hp : s.p with
  | none =>
    have h0 := H.nil hp
    have : vs = [] := List.length_eq_zero_iff.1 (by rw [H.len, h0]; simp)
    subst this
    exact ⟨h0, hk⟩
  | some p => exact rdN_held H.len (H.row p hp) hk

/-- A slice of one's own: its block is known, and begins with it. -/
structure Own (h : Heap) (s : Sl) (sz : Nat) (vs : List V) (b : Nat) : Prop where
  p : s.p = some ⟨b, 0⟩
  cap : s.len ≤ s.cap
  len : vs.length = s.len * sz
  obj : ∃ rest mk, h.obj b = some (.cells (vs ++ rest) mk) ∧ rest.length = (s.cap - s.len) * sz

section
variable {h h' : Heap} {s : Sl} {sz : Nat} {vs : List V} {b : Nat}

theorem Own.held (O : Own h s sz vs b) : Held h s sz vs := by
  refine ⟨O.len, fun p hp i v hv => ?_, fun hp => by rw [O.p] at hp; cases hp⟩
  rw [O.p] at hp; cases hp
  obtain ⟨rest, mk, ho, _⟩ := O.obj
  rw [get_cells ho, Nat.zero_add]
  rcases Nat.lt_or_ge i vs.length with h | h
  · rw [List.getElem?_append_left h]; exact hv
  · rw [List.getElem?_eq_none h] at hv; cases hv

theorem Own.known (O : Own h s sz vs b) : h.obj b ≠ none := by obtain ⟨rest, mk, ho, _⟩ := O.obj; rw [ho]; simp

theorem Own.stay (O : Own h s sz vs b) (e : h'.obj b = h.obj b) : Own h' s sz vs b := by
  obtain ⟨rest, mk, ho, hr⟩ := O.obj
  exact ⟨O.p, O.cap, O.len, rest, mk, by rw [e]; exact ho, hr⟩

theorem Own.keeps {S : Nat → Prop} (O : Own h s sz vs b) (k : Keeps S h h') (hs : ¬ S b) : Own h' s sz vs b := O.stay (k.same b O.known hs)

end

/-- What stands at o in a list is replaced by so many others. -/
def splice (L : List V) (o : Nat) (vs : List V) : List V := L.take o ++ vs ++ L.drop (o + vs.length)

theorem splice_get {L vs : List V} {o : Nat} (hl : o + vs.length ≤ L.length) (i : Nat) : (splice L o vs)[i]? = if o ≤ i ∧ i < o + vs.length then vs[i - o]? else L[i]? := by
  unfold splice
  by_cases h1 : i < o
  · rw [List.append_assoc, List.getElem?_append_left (by simp; omega), List.getElem?_take_of_lt h1, if_neg (by omega)]
  · have ht : (L.take o).length = o := by simp; omega
    by_cases h2 : i < o + vs.length
    · rw [List.append_assoc, List.getElem?_append_right (by omega), ht, List.getElem?_append_left (by omega), if_pos (by omega)]
    · rw [List.getElem?_append_right (by simp; omega)]
      simp only [List.length_append, ht, List.getElem?_drop]
      rw [if_neg (by omega)]
      congr 1; omega

theorem splice_set {L vs : List V} {v : V} {o : Nat} (hl : o + (vs.length + 1) ≤ L.length) : splice (L.set o v) (o + 1) vs = splice L o (v :: vs) := by
  apply List.ext_getElem?
  intro i
  rw [splice_get (by simp; omega), splice_get (by simpa using hl)]
  simp only [List.length_cons]
  by_cases h1 : i = o
  · subst h1
    rw [if_neg (by omega), if_pos (by omega), List.getElem?_set_self (by omega)]
    simp
  · by_cases h2 : o + 1 ≤ i ∧ i < o + 1 + vs.length
    · rw [if_pos h2, if_pos (by omega)]
      have : i - o = (i - (o + 1)) + 1 := by omega
      rw [this, List.getElem?_cons_succ]
    · rw [if_neg h2, if_neg (by omega), List.getElem?_set_ne (by omega)]

theorem wrL_of {κ : Heap → Prop} : ∀ {vs L : List V} {mk : Bool} {b o j : Nat} {h : Heap}, h.obj b = some (.cells L mk) → o + j + vs.length ≤ L.length → (∀ h', h'.obj b = some (.cells (splice L (o + j) vs) mk) → Keeps (· = b) h h' → κ h') → wrL vs ⟨b, o⟩ j κ h := by
  intro vs
  induction vs with
  | nil =>
    intro L mk b o j h ho hl hk
    exact hk h (by simpa [splice] using ho) (Keeps.refl _ _)
  | cons v vs ih =>
    intro L mk b o j h ho hl hk
    simp only [List.length_cons] at hl
    have hg : h.getW b (o + j) = some (L[o + j]'(by omega)) := by rw [getW_cells ho]; exact List.getElem?_eq_getElem (by omega)
    refine wr_of (p := (⟨b, o⟩ : Ptr).add j) hg ?_
    refine ih (L := L.set (o + j) v) (mk := mk) ?_ (by simp; omega) ?_
    · show (h.set b (o + j) v).obj b = _
      simp [Heap.set, ho, HO.set]
    · intro h' ho' hk'
      refine hk h' ?_ ((Keeps.set hg).trans hk')
      rw [ho', ← splice_set (by omega)]
      rfl

section
variable {h : Heap} {s : Sl} {sz : Nat} {vs new : List V} {b m bytes : Nat} {z : List V}

theorem flatRep_length (n : Nat) (z : List V) : (flatRep n z).length = n * z.length := by
  simp [flatRep]

/-- append to a slice of one's own -/
theorem appS_own {κ : Sl → Heap → Prop} (O : Own h s sz vs b) (hnew : new.length = m * sz) (hz : z.length = sz) (hb : (s.len + m) * bytes ≤ 140737488355328) (hm : s.len + m ≤ 9223372036854775807)
    (hk : ∀ s' h' b', Own h' s' sz (vs ++ new) b' → s'.len = s.len + m → (b' = b ∨ h.obj b' = none) → Keeps (· = b) h h' → κ s' h') : appS sz bytes z s new m κ h := by
  obtain ⟨rest, mk, ho, hr⟩ := O.obj
  have hlen := O.len
  unfold appS
  by_cases hc : s.len + m ≤ s.cap
  · rw [if_pos hc, O.p]
    simp only
    have hmul : (s.len + m) * sz ≤ s.cap * sz := Nat.mul_le_mul_right _ hc
    have hrl : rest.length = s.cap * sz - s.len * sz := by rw [hr, Nat.sub_mul]
    rw [Nat.add_mul] at hmul
    refine wrL_of (b := b) (o := 0 + s.len * sz) ho (by simp; omega) ?_
    intro h' ho' hk'
    refine hk _ h' b ?_ rfl (.inl rfl) hk'
    refine ⟨rfl, hc, by simp [hnew, hlen, Nat.add_mul], rest.drop new.length, mk, ?_, ?_⟩
    · rw [ho']
      congr 2
      unfold splice
      rw [Nat.add_zero, Nat.zero_add, ← hlen, List.take_left, List.drop_append]
      simp
    · simp only [List.length_drop, hnew, hr]; rw [← Nat.sub_mul]; congr 1; omega
  · rw [if_neg hc]
    refine ⟨hb, hm, ?_⟩
    rw [O.p]
    refine rdN_held O.len (O.held.row _ O.p) ?_
    intro c hcc b' hb'
    refine hk _ _ b' ?_ rfl (.inr hb') (Keeps.new hb' _)
    exact ⟨rfl, hcc, by simp [hnew, hlen, Nat.add_mul], flatRep (c - (s.len + m)) z, false, by simp [Heap.new], by rw [flatRep_length, hz]⟩

/-- append to nil -/
theorem appS_nil {κ : Sl → Heap → Prop} (hnew : new.length = m * sz) (h0 : 0 < m) (hz : z.length = sz) (hb : m * bytes ≤ 140737488355328) (hm : m ≤ 9223372036854775807)
    (hk : ∀ s' h' b', Own h' s' sz new b' → s'.len = m → h.obj b' = none → Keeps none_ h h' → κ s' h') : appS sz bytes z ⟨none, 0, 0⟩ new m κ h := by
  unfold appS
  rw [if_neg (by simp; omega)]
  refine ⟨by show (0 + m) * bytes ≤ _; rw [Nat.zero_add]; exact hb, by show 0 + m ≤ _; rw [Nat.zero_add]; exact hm, rfl, ?_⟩
  intro c hc b' hb'
  refine hk _ _ b' ?_ (by simp) hb' (Keeps.new hb' _)
  exact ⟨rfl, hc, by simp [hnew], flatRep (c - (0 + m)) z, false, by simp [Heap.new], by rw [flatRep_length, hz]⟩

/-- copy into a block of one's own -/
theorem copyS_of {κ : Int → Heap → Prop} {d : Sl} {o : Nat} {L cs : List V} {mk : Bool} (hp : d.p = some ⟨b, o⟩) (ho : h.obj b = some (.cells L mk)) (hl : o + (cs.take (min m d.len * sz)).length ≤ L.length)
    (hk : ∀ h', h'.obj b = some (.cells (splice L o (cs.take (min m d.len * sz))) mk) → Keeps (· = b) h h' → κ (min m d.len : Nat) h') : copyS sz d cs m κ h := by
  unfold copyS
  rw [hp]
  refine wrL_of (j := 0) ho (by simpa using hl) ?_
  intro h' ho' hk'
  exact hk h' (by simpa using ho') hk'

end

/-! ### bytes -/

theorem u8_ofNat (b : UInt8) : UInt8.ofNat ((b.toNat : Int)).toNat = b := by simp

theorem bytesOf_str (s : List UInt8) (κ : List UInt8 → Prop) : bytesOf (strCells s) κ = κ s := by
  induction s generalizing κ with
  | nil => rfl
  | cons b s ih =>
    show bytesOf (strCells s) (fun s => κ (UInt8.ofNat ((b.toNat : Int)).toNat :: s)) = _
    rw [ih, u8_ofNat]

/-! ### maps whose keys are numbers -/

def ikeys (k : IntKind) (l : List (Int × V)) : List (V × V) := l.map fun p => (.int k p.1, p.2)
def iput (a : Int) (v : V) : List (Int × V) → List (Int × V)
  | [] => [(a, v)]
  | (a', v') :: l => if a = a' then (a, v) :: l else (a', v') :: iput a v l
def ifind (a : Int) : List (Int × V) → Option V
  | [] => none
  | (a', v') :: l => if a = a' then some v' else ifind a l

theorem mfind_ikeys {k : IntKind} {a : Int} (l : List (Int × V)) : mfind (.int k a) (ikeys k l) = ifind a l := by
  induction l with
  | nil => rfl
  | cons p l ih =>
    obtain ⟨a', v⟩ := p
    simp only [ikeys, List.map_cons, mfind, keq, ifind]
    by_cases e : a = a'
    · simp [e]
    · simp only [beq_eq_false_iff_ne.2 e, cond_false, if_neg e]; exact ih
theorem mput_ikeys {k : IntKind} {a : Int} {v : V} (l : List (Int × V)) : mput (.int k a) v (ikeys k l) = ikeys k (iput a v l) := by
  induction l with
  | nil => rfl
  | cons p l ih =>
    obtain ⟨a', v'⟩ := p
    simp only [ikeys, List.map_cons, mput, keq, iput]
    by_cases e : a = a'
    · simp [e]
    · simp only [beq_eq_false_iff_ne.2 e, cond_false, if_neg e, List.map_cons]; rw [show List.map _ l = ikeys k l from rfl, ih]; rfl
def IKeys (l : List (Int × V)) : Prop := (l.map (·.1)).Nodup

theorem iput_keys {a x : Int} {v : V} {l : List (Int × V)} (h : x ∈ (iput a v l).map (·.1)) : x = a ∨ x ∈ l.map (·.1) := by
  induction l with
  | nil => simp [iput] at h; exact .inl h
  | cons p l ih =>
    obtain ⟨a', v'⟩ := p
    simp only [iput] at h
    by_cases e : a = a'
    · subst e; rw [if_pos rfl] at h; simpa using h
    · rw [if_neg e] at h
      simp only [List.map_cons, List.mem_cons] at h ⊢
      rcases h with h | h
      · exact .inr (.inl h)
      · rcases ih h with h | h
        · exact .inl h
        · exact .inr (.inr h)
theorem IKeys.put {a : Int} {v : V} {l : List (Int × V)} (hn : IKeys l) : IKeys (iput a v l) := by
  induction l with
  | nil => simp [iput, IKeys]
  | cons p l ih =>
    obtain ⟨a', v'⟩ := p
    simp only [iput]
    by_cases e : a = a'
    · subst e; rw [if_pos rfl]; exact hn
    · rw [if_neg e]
      simp only [IKeys, List.map_cons, List.nodup_cons] at hn ⊢
      refine ⟨fun h => ?_, ih hn.2⟩
      rcases iput_keys h with h | h
      · exact e h.symm
      · exact hn.1 h
/-- A map whose keys are numbers stands at m. -/
def MapAt (h : Heap) (m : Nat) (k : IntKind) (l : List (Int × V)) : Prop :=
  ∃ bs c, h.obj m = some (.map (.int k) (ikeys k l) bs c) ∧ bs.Nodup ∧ (∀ b, b ∈ bs → b < c) ∧ bs.length = l.length

theorem iput_length {a : Int} {v : V} (l : List (Int × V)) : (iput a v l).length = if ifind a l = none then l.length + 1 else l.length := by
  induction l with
  | nil => rfl
  | cons p l ih =>
    obtain ⟨a', v'⟩ := p
    simp only [iput, ifind]
    by_cases e : a = a'
    · simp [e]
    · simp only [if_neg e, List.length_cons, ih]; split <;> rfl

section
variable {h h' : Heap} {m : Nat} {k : IntKind} {l : List (Int × V)}

theorem MapAt.known (M : MapAt h m k l) : h.obj m ≠ none := by obtain ⟨bs, c, ho, _⟩ := M; rw [ho]; simp
theorem MapAt.keeps {S : Nat → Prop} (M : MapAt h m k l) (kk : Keeps S h h') (hs : ¬ S m) : MapAt h' m k l := by
  obtain ⟨bs, c, ho, h1⟩ := M; exact ⟨bs, c, kk.obj ho hs, h1⟩
theorem MapAt.ne {b : Nat} (M : MapAt h m k l) (hb : h.obj b = none) : b ≠ m := fun e => M.known (e ▸ hb)
theorem MapAt.cells {b : Nat} {x : List V} {mk : Bool} (M : MapAt h m k l) (hb : h.obj b = some (.cells x mk)) : m ≠ b := by
  obtain ⟨bs, c, ho, _⟩ := M
  intro e; rw [e, hb] at ho; cases ho

theorem mapGet_of {a : Int} {κ : Option V → Prop} (M : MapAt h m k l) (hk : κ (ifind a l)) : mapGet (.int k) (some m) (.int k a) κ h := by
  obtain ⟨bs, c, ho, _⟩ := M
  exact ⟨_, bs, c, ho, by rw [mfind_ikeys]; exact hk⟩

theorem Keeps.setO {x y : HO} {b : Nat} (ho : h.obj b = some x) : Keeps (· = b) h (h.setO b y) := by
  refine ⟨fun c _ hc => by simp only [Heap.setO]; exact if_neg hc, fun c hc => ?_⟩
  simp only [Heap.setO]
  by_cases e : c = b
  · rw [if_pos e]; simp
  · rw [if_neg e]; exact hc

theorem mapPut_of {a : Int} {v : V} {κ : Heap → Prop} (M : MapAt h m k l) (hk : ∀ h', MapAt h' m k (iput a v l) → Keeps (· = m) h h' → κ h') : mapPut (.int k) (some m) (.int k a) v κ h := by
  obtain ⟨bs, c, ho, h1, h2, h3⟩ := M
  refine ⟨_, bs, c, ho, hk _ ?_ (Keeps.setO ho)⟩
  unfold putO
  rw [mfind_ikeys]
  cases hf : ifind a l with
  | some w => exact ⟨bs, c, by simp [Heap.setO, mput_ikeys], h1, h2, by rw [iput_length, if_neg (by rw [hf]; simp)]; exact h3⟩
  | none =>
    refine ⟨bs ++ [c], c + 1, by simp [Heap.setO, mput_ikeys], ?_, ?_, by rw [iput_length, if_pos hf]; simp [h3]⟩
    · rw [List.nodup_append]
      exact ⟨h1, by simp, fun x hx y hy => by simp at hy; subst hy; have := h2 x hx; omega⟩
    · intro b hb
      rcases List.mem_append.1 hb with hb | hb
      · have := h2 b hb; omega
      · simp at hb; omega

theorem alM_of {κ : Nat → Heap → Prop} (hk : ∀ b h', h.obj b = none → MapAt h' b k [] → Keeps none_ h h' → κ b h') : alM (.int k) κ h :=
  fun b hb => hk b _ hb ⟨[], 0, Heap.new_obj, by simp, by simp, rfl⟩ (Keeps.new hb _)

/-- One goes through the map: what it has had. -/
def IterAt (h : Heap) (it m : Nat) (k : IntKind) (l : List (Int × V)) (done : List Int) : Prop :=
  ∃ bs c seen, h.obj it = some (.iter (some m) c seen c) ∧ h.obj m = some (.map (.int k) (ikeys k l) bs c) ∧ bs.Nodup ∧ (∀ b, b ∈ bs → b < c) ∧ bs.length = l.length ∧
    (∀ (i : Nat) a v b, l[i]? = some (a, v) → bs[i]? = some b → (b ∈ seen ↔ a ∈ done)) ∧
    ∀ a, done.getLast? = some a → ∃ (i : Nat) (v : V) (b : Nat), seen.getLast? = some b ∧ bs[i]? = some b ∧ l[i]? = some (a, v)

theorem IterAt.keeps {S : Nat → Prop} {it : Nat} {done : List Int} (I : IterAt h it m k l done) (kk : Keeps S h h') (h1 : ¬ S it) (h2 : ¬ S m) : IterAt h' it m k l done := by
  obtain ⟨bs, c, seen, a1, a2, a3⟩ := I
  exact ⟨bs, c, seen, kk.obj a1 h1, kk.obj a2 h2, a3⟩

end

end Go.Lift

set_option linter.unusedSimpArgs false
set_option linter.unusedVariables false
set_option maxRecDepth 100000
namespace Go.Lift

/-- The blocks of L are as listed; what stood at h0 and is not in W stands as it stood. -/
structure St (h0 : Heap) (W : Nat → Prop) (L : List (Nat × HO)) (h : Heap) : Prop where
  nodup : (L.map (·.1)).Nodup
  objs : ∀ b x, (b, x) ∈ L → h.obj b = some x
  new : ∀ b x, (b, x) ∈ L → h0.obj b = none ∨ W b
  keeps : Keeps W h0 h

section
variable {h0 h h' : Heap} {W : Nat → Prop} {L : List (Nat × HO)} {i b o : Nat} {l : List V} {m : Bool}

theorem i0 {α : Type} {x0 : α} {L : List α} : (x0 :: L)[0]? = some x0 := rfl
theorem i1 {α : Type} {x0 x1 : α} {L : List α} : (x0 :: x1 :: L)[1]? = some x1 := rfl
theorem i2 {α : Type} {x0 x1 x2 : α} {L : List α} : (x0 :: x1 :: x2 :: L)[2]? = some x2 := rfl
theorem i3 {α : Type} {x0 x1 x2 x3 : α} {L : List α} : (x0 :: x1 :: x2 :: x3 :: L)[3]? = some x3 := rfl
theorem i4 {α : Type} {x0 x1 x2 x3 x4 : α} {L : List α} : (x0 :: x1 :: x2 :: x3 :: x4 :: L)[4]? = some x4 := rfl
theorem i5 {α : Type} {x0 x1 x2 x3 x4 x5 : α} {L : List α} : (x0 :: x1 :: x2 :: x3 :: x4 :: x5 :: L)[5]? = some x5 := rfl
theorem i6 {α : Type} {x0 x1 x2 x3 x4 x5 x6 : α} {L : List α} : (x0 :: x1 :: x2 :: x3 :: x4 :: x5 :: x6 :: L)[6]? = some x6 := rfl
theorem i7 {α : Type} {x0 x1 x2 x3 x4 x5 x6 x7 : α} {L : List α} : (x0 :: x1 :: x2 :: x3 :: x4 :: x5 :: x6 :: x7 :: L)[7]? = some x7 := rfl
theorem i8 {α : Type} {x0 x1 x2 x3 x4 x5 x6 x7 x8 : α} {L : List α} : (x0 :: x1 :: x2 :: x3 :: x4 :: x5 :: x6 :: x7 :: x8 :: L)[8]? = some x8 := rfl
theorem i9 {α : Type} {x0 x1 x2 x3 x4 x5 x6 x7 x8 x9 : α} {L : List α} : (x0 :: x1 :: x2 :: x3 :: x4 :: x5 :: x6 :: x7 :: x8 :: x9 :: L)[9]? = some x9 := rfl

theorem i10 {α : Type} {x0 x1 x2 x3 x4 x5 x6 x7 x8 x9 x10 : α} {L : List α} : (x0 :: x1 :: x2 :: x3 :: x4 :: x5 :: x6 :: x7 :: x8 :: x9 :: x10 :: L)[10]? = some x10 := rfl
theorem i11 {α : Type} {x0 x1 x2 x3 x4 x5 x6 x7 x8 x9 x10 x11 : α} {L : List α} : (x0 :: x1 :: x2 :: x3 :: x4 :: x5 :: x6 :: x7 :: x8 :: x9 :: x10 :: x11 :: L)[11]? = some x11 := rfl
theorem i12 {α : Type} {x0 x1 x2 x3 x4 x5 x6 x7 x8 x9 x10 x11 x12 : α} {L : List α} : (x0 :: x1 :: x2 :: x3 :: x4 :: x5 :: x6 :: x7 :: x8 :: x9 :: x10 :: x11 :: x12 :: L)[12]? = some x12 := rfl
theorem i13 {α : Type} {x0 x1 x2 x3 x4 x5 x6 x7 x8 x9 x10 x11 x12 x13 : α} {L : List α} : (x0 :: x1 :: x2 :: x3 :: x4 :: x5 :: x6 :: x7 :: x8 :: x9 :: x10 :: x11 :: x12 :: x13 :: L)[13]? = some x13 := rfl
theorem i14 {α : Type} {x0 x1 x2 x3 x4 x5 x6 x7 x8 x9 x10 x11 x12 x13 x14 : α} {L : List α} : (x0 :: x1 :: x2 :: x3 :: x4 :: x5 :: x6 :: x7 :: x8 :: x9 :: x10 :: x11 :: x12 :: x13 :: x14 :: L)[14]? = some x14 := rfl
theorem i15 {α : Type} {x0 x1 x2 x3 x4 x5 x6 x7 x8 x9 x10 x11 x12 x13 x14 x15 : α} {L : List α} : (x0 :: x1 :: x2 :: x3 :: x4 :: x5 :: x6 :: x7 :: x8 :: x9 :: x10 :: x11 :: x12 :: x13 :: x14 :: x15 :: L)[15]? = some x15 := rfl

theorem St.start (h : Heap) (W : Nat → Prop) : St h W [] h := ⟨List.nodup_nil, fun _ _ h => (by cases h), fun _ _ h => (by cases h), Keeps.refl _ _⟩

theorem St.obj {x : HO} (S : St h0 W L h) (hi : L[i]? = some (b, x)) : h.obj b = some x := S.objs b x (List.mem_of_getElem? hi)

theorem nodup_get {L : List (Nat × HO)} (n : (L.map (·.1)).Nodup) {i j : Nat} {p q : Nat × HO} (hp : L[i]? = some p) (hq : L[j]? = some q) (hij : i ≠ j) : p.1 ≠ q.1 := by
  have hi : i < L.length := by
    rcases Nat.lt_or_ge i L.length with h | h
    · exact h
    · rw [List.getElem?_eq_none h] at hp; cases hp
  have hj : j < L.length := by
    rcases Nat.lt_or_ge j L.length with h | h
    · exact h
    · rw [List.getElem?_eq_none h] at hq; cases hq
  intro e
  rw [List.getElem?_eq_getElem hi] at hp
  rw [List.getElem?_eq_getElem hj] at hq
  cases hp; cases hq
  have := (List.getElem_inj (xs := L.map (·.1)) (i := i) (j := j) (h₀ := by simpa using hi) (h₁ := by simpa using hj) n).1 (by simpa using e)
  exact hij this

/-- Two blocks of the list are two. -/
theorem St.ne {x y : HO} {j c : Nat} (S : St h0 W L h) (hi : L[i]? = some (b, x)) (hj : L[j]? = some (c, y)) (hij : i ≠ j) : b ≠ c := nodup_get S.nodup hi hj hij

theorem St.rI {k : IntKind} {p : Ptr} {x : Int} {κ : Int → Prop} (S : St h0 W L h) (hi : L[i]? = some (p.b, .cells l m)) (hx : l[p.o]? = some (.int k x)) (hk : κ x) : rdI k p κ h := rdI_of ((get_cells (S.obj hi) _).trans hx) hk
theorem St.rB {p : Ptr} {x : Bool} {κ : Bool → Prop} (S : St h0 W L h) (hi : L[i]? = some (p.b, .cells l m)) (hx : l[p.o]? = some (.bool x)) (hk : κ x) : rdB p κ h := rdB_of ((get_cells (S.obj hi) _).trans hx) hk
theorem St.rS {p : Ptr} {x : List UInt8} {κ : List UInt8 → Prop} (S : St h0 W L h) (hi : L[i]? = some (p.b, .cells l m)) (hx : l[p.o]? = some (.str x)) (hk : κ x) : rdStr p κ h := rdStr_of ((get_cells (S.obj hi) _).trans hx) hk
theorem St.rP {p : Ptr} {x : Option Ptr} {κ : Option Ptr → Prop} (S : St h0 W L h) (hi : L[i]? = some (p.b, .cells l m)) (hx : l[p.o]? = some (.ptr x)) (hk : κ x) : rdP p κ h := rdP_of ((get_cells (S.obj hi) _).trans hx) hk
theorem St.rSl {p : Ptr} {x : Sl} {κ : Sl → Prop} (S : St h0 W L h) (hi : L[i]? = some (p.b, .cells l m)) (hx : l[p.o]? = some (.sl x)) (hk : κ x) : rdSl p κ h := rdSl_of ((get_cells (S.obj hi) _).trans hx) hk
theorem St.rM {p : Ptr} {x : Option Nat} {κ : Option Nat → Prop} (S : St h0 W L h) (hi : L[i]? = some (p.b, .cells l m)) (hx : l[p.o]? = some (.map x)) (hk : κ x) : rdM p κ h := rdM_of ((get_cells (S.obj hi) _).trans hx) hk
theorem St.rV {p : Ptr} {x : V} {κ : V → Prop} (S : St h0 W L h) (hi : L[i]? = some (p.b, .cells l m)) (hx : l[p.o]? = some x) (hk : κ x) : rdV p κ h := rdV_of ((get_cells (S.obj hi) _).trans hx) hk
theorem St.rN {n : Nat} {p : Ptr} {κ : List V → Prop} (S : St h0 W L h) (hi : L[i]? = some (p.b, .cells l m)) (hl : p.o + n ≤ l.length) (hk : κ ((l.drop p.o).take n)) : rdN n p κ h := by
  refine rdN_held (by simp; omega) (fun j v hv => ?_) hk
  rw [get_cells (S.obj hi)]
  have hj : j < n := by
    rcases Nat.lt_or_ge j n with h | h
    · exact h
    · rw [List.getElem?_eq_none (by simp; omega)] at hv; cases hv
  rw [List.getElem?_take_of_lt hj, List.getElem?_drop] at hv
  exact hv
theorem St.ck1 {p : Ptr} {v : V} (S : St h0 W L h) (hi : L[i]? = some (p.b, .cells l m)) (hx : l[p.o]? = some v) : ck p [v] 0 h := ⟨(get_cells (S.obj hi) _).trans hx, trivial⟩

theorem ck_cells {p : Ptr} (ho : h.obj p.b = some (.cells l m)) : ∀ (vs : List V) (k : Nat), (l.drop (p.o + k)).take vs.length = vs → ck p vs k h
  | [], _, _ => trivial
  | v :: vs, k, e => by
    have hlt : p.o + k < l.length := by
      rcases Nat.lt_or_ge (p.o + k) l.length with h1 | h1
      · exact h1
      · rw [List.drop_eq_nil_of_le h1] at e; simp at e
    rw [List.drop_eq_getElem_cons hlt] at e
    simp only [List.length_cons, List.take_succ_cons, List.cons.injEq] at e
    exact ⟨(get_cells ho _).trans ((List.getElem?_eq_getElem hlt).trans (by rw [e.1])), ck_cells ho vs (k + 1) e.2⟩
theorem St.ckL {p : Ptr} {vs : List V} (S : St h0 W L h) (hi : L[i]? = some (p.b, .cells l m)) (hx : (l.drop (p.o + 0)).take vs.length = vs) : ck p vs 0 h := ck_cells (S.obj hi) vs 0 hx

theorem St.ckA {p : Ptr} {vs : List V} {A : Prop} (S : St h0 W L h) (hi : L[i]? = some (p.b, .cells l m)) (hx : (l.drop (p.o + 0)).take vs.length = vs) (ha : A) : ck p vs 0 h ∧ A := ⟨S.ckL hi hx, ha⟩

/-- The list behind a change of one block. -/
theorem St.put {x y : HO} (S : St h0 W L h) (hi : L[i]? = some (b, x)) (hy : h'.obj b = some y) (k : Keeps (· = b) h h') : St h0 W (L.set i (b, y)) h' := by
  have hil : i < L.length := by
    rcases Nat.lt_or_ge i L.length with h | h
    · exact h
    · rw [List.getElem?_eq_none h] at hi; cases hi
  have keys : (L.set i (b, y)).map (·.1) = L.map (·.1) := by
    rw [List.map_set]
    refine List.ext_getElem? (fun j => ?_)
    by_cases e : j = i
    · subst e
      rw [List.getElem?_set_self (by simpa using hil), List.getElem?_map, hi]; rfl
    · rw [List.getElem?_set_ne (fun h => e h.symm)]
  refine ⟨by rw [keys]; exact S.nodup, fun c z hc => ?_, fun c z hc => ?_, ⟨fun z hz hn => ?_, fun z hz => k.known z (S.keeps.known z hz)⟩⟩
  · obtain ⟨j, hj⟩ := List.mem_iff_getElem?.1 hc
    by_cases e : j = i
    · subst e
      rw [List.getElem?_set_self hil] at hj
      cases hj; exact hy
    · rw [List.getElem?_set_ne (fun h => e h.symm)] at hj
      have hcb : c ≠ b := S.ne hj hi e
      exact k.obj (S.obj hj) hcb
  · have : c ∈ (L.set i (b, y)).map (·.1) := List.mem_map.2 ⟨_, hc, rfl⟩
    rw [keys] at this
    obtain ⟨p, hp, rfl⟩ := List.mem_map.1 this
    exact S.new p.1 p.2 hp
  · have hzb : z ≠ b := by
      intro e
      subst e
      rcases S.new _ _ (List.mem_of_getElem? hi) with h | h
      · exact hz h
      · exact hn h
    rw [k.same z (S.keeps.known z hz) hzb]
    exact S.keeps.same z hz hn

theorem St.wr {p : Ptr} {u v : V} {κ : Heap → Prop} (S : St h0 W L h) (hi : L[i]? = some (p.b, .cells l m)) (hx : l[p.o]? = some u) (hk : ∀ h', St h0 W (L.set i (p.b, .cells (l.set p.o v) m)) h' → κ h') : wr p v κ h := by
  have hg : h.getW p.b p.o = some u := (getW_cells (S.obj hi) _).trans hx
  refine wr_of hg (hk _ (S.put hi ?_ (Keeps.set hg)))
  simp [Heap.set, S.obj hi, HO.set]

theorem St.wrL {p : Ptr} {vs : List V} {κ : Heap → Prop} (S : St h0 W L h) (hi : L[i]? = some (p.b, .cells l m)) (hl : p.o + vs.length ≤ l.length) (hk : ∀ h', St h0 W (L.set i (p.b, .cells (splice l p.o vs) m)) h' → κ h') : wrL vs p 0 κ h :=
  wrL_of (j := 0) (S.obj hi) (by omega) (fun h' ho k => hk h' (S.put hi (by simpa using ho) k))

theorem St.fresh {x : HO} {c : Nat} (S : St h0 W L h) (hc : h.obj c = none) : c ∉ L.map (·.1) := by
  intro hm
  obtain ⟨p, hp, rfl⟩ := List.mem_map.1 hm
  rw [S.objs p.1 p.2 hp] at hc; cases hc

theorem St.more {x : HO} {c : Nat} (S : St h0 W L h) (hc : h.obj c = none) (hx : h'.obj c = some x) (k : Keeps none_ h h') : St h0 W ((c, x) :: L) h' := by
  have hf := S.fresh (x := x) hc
  refine ⟨by simp only [List.map_cons, List.nodup_cons]; exact ⟨hf, S.nodup⟩, fun b y hb => ?_, fun b y hb => ?_, ⟨fun z hz hn => ?_, fun z hz => k.known z (S.keeps.known z hz)⟩⟩
  · rcases List.mem_cons.1 hb with e | hb
    · cases e; exact hx
    · exact k.obj (S.objs b y hb) (fun f => f)
  · rcases List.mem_cons.1 hb with e | hb
    · cases e
      left
      cases hh : h0.obj c with
      | none => rfl
      | some z => exact absurd hc (S.keeps.known c (by rw [hh]; simp))
    · exact S.new b y hb
  · rw [k.same z (S.keeps.known z hz) (fun f => f)]
    exact S.keeps.same z hz hn

theorem St.al {z : List V} {κ : Nat → Heap → Prop} (S : St h0 W L h) (hk : ∀ b h', St h0 W ((b, .cells z false) :: L) h' → κ b h') : al z κ h :=
  al_of (fun b h' hb ho k => hk b h' (S.more hb ho k))

theorem St.alM {ks : Sh} {κ : Nat → Heap → Prop} (S : St h0 W L h) (hk : ∀ b h', St h0 W ((b, .map ks [] [] 0) :: L) h' → κ b h') : alM ks κ h :=
  fun b hb => hk b _ (S.more hb Heap.new_obj (Keeps.new hb _))

theorem St.mapGet {ks : Sh} {k : V} {κ : Option V → Prop} {es : List (V × V)} {bs : List Nat} {c : Nat} (S : St h0 W L h) (hi : L[i]? = some (b, .map ks es bs c)) (hk : κ (mfind k es)) : mapGet ks (some b) k κ h := ⟨es, bs, c, S.obj hi, hk⟩
theorem St.mapPut {ks : Sh} {k v : V} {κ : Heap → Prop} {es : List (V × V)} {bs : List Nat} {c : Nat} (S : St h0 W L h) (hi : L[i]? = some (b, .map ks es bs c)) (hk : ∀ h', St h0 W (L.set i (b, putO ks es bs c k v)) h' → κ h') : mapPut ks (some b) k v κ h :=
  ⟨es, bs, c, S.obj hi, hk _ (S.put hi (by simp [Heap.setO]) (Keeps.setO (S.obj hi)))⟩
theorem St.mapLen {ks : Sh} {κ : Int → Prop} {es : List (V × V)} {bs : List Nat} {c : Nat} (S : St h0 W L h) (hi : L[i]? = some (b, .map ks es bs c)) (hk : κ es.length) : mapLen (some b) κ h := ⟨ks, es, bs, c, S.obj hi, hk⟩

/-- Nothing that is known was changed. -/
theorem St.keep (S : St h0 W L h) (k : Keeps none_ h h') : St h0 W L h' :=
  ⟨S.nodup, fun b x hb => k.obj (S.objs b x hb) (fun f => f), S.new, ⟨fun z hz hn => (k.same z (S.keeps.known z hz) (fun f => f)).trans (S.keeps.same z hz hn), fun z hz => k.known z (S.keeps.known z hz)⟩⟩

/-- What was changed is not listed, and may be changed. -/
theorem St.keepW {T : Nat → Prop} (S : St h0 W L h) (k : Keeps T h h') (hT : ∀ b x, (b, x) ∈ L → ¬ T b) (hW : ∀ z, T z → h0.obj z ≠ none → W z) : St h0 W L h' :=
  ⟨S.nodup, fun b x hb => k.obj (S.objs b x hb) (hT b x hb), S.new, ⟨fun z hz hn => (k.same z (S.keeps.known z hz) (fun t => hn (hW z t hz))).trans (S.keeps.same z hz hn), fun z hz => k.known z (S.keeps.known z hz)⟩⟩

theorem St.add {x : HO} {c : Nat} (S : St h0 W L h) (hx : h.obj c = some x) (hw : h0.obj c = none ∨ W c) (hn : c ∉ L.map (·.1)) : St h0 W ((c, x) :: L) h := by
  refine ⟨by simp only [List.map_cons, List.nodup_cons]; exact ⟨hn, S.nodup⟩, fun b y hb => ?_, fun b y hb => ?_, S.keeps⟩
  · rcases List.mem_cons.1 hb with e | hb
    · cases e; exact hx
    · exact S.objs b y hb
  · rcases List.mem_cons.1 hb with e | hb
    · cases e; exact hw
    · exact S.new b y hb

theorem St.sub {L' : List (Nat × HO)} (S : St h0 W L h) (hs : L'.Sublist L) : St h0 W L' h :=
  ⟨S.nodup.sublist (hs.map _), fun b x hb => S.objs b x (hs.subset hb), fun b x hb => S.new b x (hs.subset hb), S.keeps⟩
theorem St.tail {p : Nat × HO} (S : St h0 W (p :: L) h) : St h0 W L h := S.sub (List.sublist_cons_self _ _)

theorem St.mono {W' : Nat → Prop} (S : St h0 W L h) (hw : ∀ z, W z → W' z) : St h0 W' L h := ⟨S.nodup, S.objs, fun b x hb => (S.new b x hb).imp_right (hw b), S.keeps.mono hw⟩

/-- A list that is known at a heap goes on from there. -/
theorem St.base (S : St h0 W L h) : St h (fun z => ∃ x, (z, x) ∈ L) L h := ⟨S.nodup, S.objs, fun b x hb => .inr ⟨x, hb⟩, Keeps.refl _ _⟩
theorem St.back {L' : List (Nat × HO)} (S : St h0 W L h) (S' : St h (fun z => ∃ x, (z, x) ∈ L) L' h') : St h0 W L' h' := by
  refine ⟨S'.nodup, S'.objs, fun b x hb => ?_, ⟨fun z hz hn => ?_, fun z hz => S'.keeps.known z (S.keeps.known z hz)⟩⟩
  · rcases S'.new b x hb with h1 | ⟨y, hy⟩
    · left
      cases hh : h0.obj b with
      | none => rfl
      | some z => exact absurd h1 (S.keeps.known b (by rw [hh]; simp))
    · exact S.new b y hy
  · rw [S'.keeps.same z (S.keeps.known z hz)]
    · exact S.keeps.same z hz hn
    · rintro ⟨y, hy⟩
      rcases S.new z y hy with h | h
      · exact hz h
      · exact hn h

end

/-- Some of the blocks, in another order: is = the places. -/
theorem St.pick {h0 h : Heap} {W : Nat → Prop} {L L' : List (Nat × HO)} (S : St h0 W L h) (is : List Nat) (hn : is.Nodup) (hl : is.map (fun i => L[i]?) = L'.map some) : St h0 W L' h := by
  have hmem : ∀ p : Nat × HO, p ∈ L' → ∃ i : Nat, L[i]? = some p := by
    intro p hp
    have : some p ∈ L'.map some := List.mem_map.2 ⟨p, hp, rfl⟩
    rw [← hl] at this
    obtain ⟨i, _, e⟩ := List.mem_map.1 this
    exact ⟨i, e⟩
  have hlen : is.length = L'.length := by have := congrArg List.length hl; simpa using this
  refine ⟨?_, fun b x hb => ?_, fun b x hb => ?_, S.keeps⟩
  · rw [List.nodup_iff_pairwise_ne, List.pairwise_iff_getElem]
    intro a c ha hc hac
    simp only [List.length_map] at ha hc
    simp only [List.getElem_map]
    have g : ∀ (a : Nat) (ha : a < L'.length), L[is[a]'(by omega)]? = some L'[a] := by
      intro a ha
      have := congrArg (fun l => l[a]?) hl
      simp only [List.getElem?_map] at this
      rw [List.getElem?_eq_getElem (by omega), List.getElem?_eq_getElem ha] at this
      simpa using this
    have hne : is[a]'(by omega) ≠ is[c]'(by omega) := fun e => by
      have := (List.getElem_inj hn).1 e
      omega
    exact nodup_get S.nodup (g a ha) (g c hc) hne
  · obtain ⟨i, hi⟩ := hmem _ hb
    exact S.objs b x (List.mem_of_getElem? hi)
  · obtain ⟨i, hi⟩ := hmem _ hb
    exact S.new b x (List.mem_of_getElem? hi)

/-- The blocks of a list, each as it stands; they may be written. -/
def keysOf (A : List (Nat × HO)) : Nat → Prop := fun z => ∃ x, (z, x) ∈ A

/-- A call behind which the blocks A stand as A', and all else as it stood. is, js: the places of A, and of what is kept besides. -/
theorem St.call {h0 h h' : Heap} {W : Nat → Prop} {L A A' B : List (Nat × HO)} (S : St h0 W L h) (is js : List Nat) (hn : (is ++ js).Nodup) (hA : is.map (fun i => L[i]?) = A.map some) (hB : js.map (fun i => L[i]?) = B.map some) (S' : St h (keysOf A) A' h') : St h0 W (A' ++ B) h' := by
  have SAB : St h0 W (A ++ B) h := S.pick (is ++ js) hn (by rw [List.map_append, hA, hB, List.map_append])
  have hnd := SAB.nodup
  rw [List.map_append, List.nodup_append] at hnd
  obtain ⟨_, hB', hAB⟩ := hnd
  have notA : ∀ b x, (b, x) ∈ B → ¬ keysOf A b := by
    rintro b x hb ⟨y, hy⟩
    exact hAB b (List.mem_map.2 ⟨_, hy, rfl⟩) b (List.mem_map.2 ⟨_, hb, rfl⟩) rfl
  have objB : ∀ b x, (b, x) ∈ B → h.obj b = some x := fun b x hb => SAB.objs b x (List.mem_append.2 (.inr hb))
  refine ⟨?_, fun b x hb => ?_, fun b x hb => ?_, ⟨fun z hz hw => ?_, fun z hz => S'.keeps.known z (S.keeps.known z hz)⟩⟩
  · rw [List.map_append, List.nodup_append]
    refine ⟨S'.nodup, hB', ?_⟩
    intro a ha b hb e
    subst e
    obtain ⟨p, hp, rfl⟩ := List.mem_map.1 ha
    obtain ⟨q, hq, e⟩ := List.mem_map.1 hb
    rcases S'.new p.1 p.2 hp with h1 | h1
    · have := objB q.1 q.2 hq
      rw [e, h1] at this; cases this
    · exact notA q.1 q.2 hq (e ▸ h1)
  · rcases List.mem_append.1 hb with hb | hb
    · exact S'.objs b x hb
    · exact S'.keeps.obj (objB b x hb) (notA b x hb)
  · rcases List.mem_append.1 hb with hb | hb
    · rcases S'.new b x hb with h1 | ⟨y, hy⟩
      · left
        cases hh : h0.obj b with
        | none => rfl
        | some z => exact absurd h1 (S.keeps.known b (by rw [hh]; simp))
      · exact SAB.new b y (List.mem_append.2 (.inl hy))
    · exact SAB.new b x (List.mem_append.2 (.inr hb))
  · rw [S'.keeps.same z (S.keeps.known z hz) ?_]
    · exact S.keeps.same z hz hw
    · rintro ⟨y, hy⟩
      rcases SAB.new z y (List.mem_append.2 (.inl hy)) with h1 | h1
      · exact hz h1
      · exact hw h1

/-- A call of which the blocks come first in the list. -/
theorem St.frame {h0 h h' : Heap} {W : Nat → Prop} {A A' B : List (Nat × HO)} (S' : St h (keysOf A) A' h') (S : St h0 W (A ++ B) h) : St h0 W (A' ++ B) h' :=
  S.call (List.range A.length) ((List.range B.length).map (· + A.length)) (by
    rw [List.nodup_append]
    refine ⟨List.nodup_range, ?_, ?_⟩
    · rw [List.nodup_iff_pairwise_ne, List.pairwise_map]
      exact (List.nodup_iff_pairwise_ne.1 List.nodup_range).imp (fun h e => h (by omega))
    · intro a ha b hb e
      have h1 := List.mem_range.1 ha
      obtain ⟨c, _, rfl⟩ := List.mem_map.1 hb
      omega) (by
    refine List.ext_getElem? (fun i => ?_)
    rw [List.getElem?_map, List.getElem?_map]
    by_cases hi : i < A.length
    · rw [List.getElem?_range hi, Option.map_some, List.getElem?_append_left hi, List.getElem?_eq_getElem hi]; rfl
    · rw [List.getElem?_eq_none (by simp; omega), List.getElem?_eq_none (by omega)]; rfl) (by
    refine List.ext_getElem? (fun i => ?_)
    rw [List.getElem?_map, List.getElem?_map, List.getElem?_map]
    by_cases hi : i < B.length
    · rw [List.getElem?_range hi, Option.map_some, Option.map_some, List.getElem?_append_right (by omega), Nat.add_sub_cancel, List.getElem?_eq_getElem hi]; rfl
    · rw [List.getElem?_eq_none (by simp; omega), List.getElem?_eq_none (by omega)]; rfl) S'

/-- A call that lays blocks, and changes none. -/
theorem St.join {h0 h h' : Heap} {W : Nat → Prop} {A' B : List (Nat × HO)} (S' : St h none_ A' h') (S : St h0 W B h) : St h0 W (A' ++ B) h' :=
  St.frame (A := []) (S'.mono (fun z f => f.elim)) S

theorem St.notKey {h0 h : Heap} {W : Nat → Prop} {L : List (Nat × HO)} {z : Nat} (S : St h0 W L h) (hz : h0.obj z ≠ none) (hw : ¬ W z) : ¬ keysOf L z := by
  rintro ⟨x, hx⟩
  rcases S.new z x hx with h | h
  · exact hz h
  · exact hw h

theorem St.notA {h0 h : Heap} {W : Nat → Prop} {A B : List (Nat × HO)} {z : Nat} (S : St h0 W (A ++ B) h) (hz : h0.obj z ≠ none) (hw : ¬ W z) : ¬ keysOf A z :=
  fun ⟨x, hx⟩ => S.notKey hz hw ⟨x, List.mem_append.2 (.inl hx)⟩

theorem St.head {h0 h : Heap} {W : Nat → Prop} {A B : List (Nat × HO)} (S : St h0 W (A ++ B) h) : St h (keysOf A) A h := (S.sub (List.sublist_append_left _ _)).base

/-! numbers that a loop counts -/
theorem exAnd {α : Type} {o : Option V} {f : α → V} {κ : α → Prop} {x : α} (h : o = some (f x)) (hk : κ x) : ∃ y, o = some (f y) ∧ κ y := ⟨x, h, hk⟩
theorem asI_of {k : IntKind} {x : Int} {κ : Int → Prop} (h : κ x) : asI k (.int k x) κ := by simpa [asI, chk] using h
theorem asB_of {x : Bool} {κ : Bool → Prop} (h : κ x) : asB (.bool x) κ := h
theorem asP_of {x : Option Ptr} {κ : Option Ptr → Prop} (h : κ x) : asP (.ptr x) κ := h
theorem asSl_of {x : Sl} {κ : Sl → Prop} (h : κ x) : asSl (.sl x) κ := h
theorem asAggV_of {x : List V} {κ : List V → Prop} (h : κ x) : asAggV (.agg x) κ := h
theorem asTupV_of {x : List V} {κ : List V → Prop} (h : κ x) : asTupV (.tup x) κ := h
theorem asCons_of {v : V} {vs : List V} {κ : V → List V → Prop} (h : κ v vs) : asCons (v :: vs) κ := h
theorem asNil_of {A : Prop} (h : A) : asNil [] A := h
theorem der_of {p : Ptr} {κ : Ptr → Prop} (h : κ p) : der (some p) κ := h
theorem isNil_n {κ : Bool → Prop} (h : κ true) : isNil .nilif κ := h
theorem isNil_i {t : Nat} {v : V} {κ : Bool → Prop} (h : κ false) : isNil (.iface t v) κ := h
theorem nilC_i {t : Nat} {v : V} {κ : V → Prop} (h : κ (.iface t v)) : nilC (.iface t v) κ := h
theorem nilCU_i {I : Ifc} {t : Nat} {v : V} {κ : V → Prop} (h : κ (.iface t v)) : nilCU I (.iface t v) κ := h
theorem nilCU_f {I : Ifc} {f : Nat} {vs : List V} {κ : V → Prop} (h : κ (.fn f vs)) : nilCU I (.fn f vs) κ := h
theorem mthC_i {m : String} {t : Nat} {v : V} {κ : V → Prop} (h : κ (.mth m (.iface t v))) : mthC m (.iface t v) κ := h
end Go.Lift

set_option linter.unusedSimpArgs false
set_option linter.unusedVariables false
set_option maxRecDepth 100000
namespace Go.Lift

/-- A slice of a block of its own, laid since h0; or none. -/
def Row (h0 g : Heap) (sl : Sl) (sz : Nat) (vs : List V) : Prop := (sl = ⟨none, 0, 0⟩ ∧ vs = []) ∨ ∃ b, Own g sl sz vs b ∧ h0.obj b = none

section
variable {h0 g g' : Heap} {sl : Sl} {sz bytes : Nat} {vs new z : List V}

theorem Row.nil : Row h0 g ⟨none, 0, 0⟩ sz [] := .inl ⟨rfl, rfl⟩

theorem Row.keep (R : Row h0 g sl sz vs) (k : Keeps none_ g g') : Row h0 g' sl sz vs := by
  rcases R with R | ⟨b, O, hb⟩
  · exact .inl R
  · exact .inr ⟨b, O.keeps k (fun f => f), hb⟩

theorem Row.len (R : Row h0 g sl sz vs) : vs.length = sl.len * sz := by
  rcases R with ⟨rfl, rfl⟩ | ⟨b, O, hb⟩
  · simp
  · exact O.len

theorem Row.cap (R : Row h0 g sl sz vs) : sl.len ≤ sl.cap := by
  rcases R with ⟨rfl, rfl⟩ | ⟨b, O, hb⟩
  · simp
  · exact O.cap

theorem Row.held (R : Row h0 g sl sz vs) : Held g sl sz vs := by
  rcases R with ⟨rfl, rfl⟩ | ⟨b, O, hb⟩
  · exact Held.empty
  · exact O.held

/-- What is changed is known at h0: the row stays. -/
theorem Row.keepW {S : Nat → Prop} (R : Row h0 g sl sz vs) (k : Keeps S g g') (hS : ∀ b, S b → h0.obj b ≠ none) : Row h0 g' sl sz vs := by
  rcases R with R | ⟨b, O, hb⟩
  · exact .inl R
  · exact .inr ⟨b, O.keeps k (fun s => hS b s hb), hb⟩

theorem Row.app {κ : Sl → Heap → Prop} (R : Row h0 g sl sz vs) (k : Keeps none_ h0 g) (hnew : new.length = 1 * sz) (hz : z.length = sz) (hb : (sl.len + 1) * bytes ≤ 140737488355328) (hm : sl.len + 1 ≤ 9223372036854775807)
    (hk : ∀ sl' g', Row h0 g' sl' sz (vs ++ new) → sl'.len = sl.len + 1 → Keeps none_ h0 g' → κ sl' g') : appS sz bytes z sl new 1 κ g := by
  rcases R with ⟨rfl, rfl⟩ | ⟨b, O, hb0⟩
  · refine appS_nil hnew (by decide) hz (by simpa using hb) (by decide) (fun s' h' b' O' hl hbn k' => ?_)
    have kk := k.trans k'
    refine hk s' h' (.inr ⟨b', O', ?_⟩) (by simpa using hl) kk
    cases hh : h0.obj b' with
    | none => rfl
    | some y => exact absurd hbn (k.known b' (by rw [hh]; simp))
  · refine appS_own O hnew hz hb hm (fun s' h' b' O' hl hbb k' => ?_)
    have kk : Keeps none_ h0 h' := Keeps.widen' k k' hb0
    refine hk s' h' (.inr ⟨b', O', ?_⟩) hl kk
    rcases hbb with rfl | hbn
    · exact hb0
    · cases hh : h0.obj b' with
      | none => rfl
      | some y => exact absurd hbn (k.known b' (by rw [hh]; simp))

/-- One element more: laid, read, appended. -/
theorem Row.app1 {κ : Sl → Heap → Prop} (R : Row h0 g sl sz vs) (k : Keeps none_ h0 g) (hnew : new.length = 1 * sz) (hz : z.length = sz) (hb : (sl.len + 1) * bytes ≤ 140737488355328) (hm : sl.len + 1 ≤ 9223372036854775807)
    (hk : ∀ sl' g', Row h0 g' sl' sz (vs ++ new) → sl'.len = sl.len + 1 → Keeps none_ h0 g' → κ sl' g') : al new (fun b h => rdN (1 * sz) (⟨b, 0⟩ : Ptr) (fun cs => appS sz bytes z sl cs 1 κ h) h) g := by
  refine al_of (fun b g1 hb1 ho k1 => rdN_held hnew (fun j v hj => by rw [get_cells ho, Nat.zero_add]; exact hj) ?_)
  exact (R.keep k1).app (k.trans k1) hnew hz hb hm hk

end

/-- A slice of strings that may be read. -/
structure Words (g : Heap) (sl : Sl) (ws : List (List UInt8)) : Prop where
  held : Held g sl 1 (ws.map V.str)
  cap : sl.len ≤ sl.cap

section
variable {g g' : Heap} {sl : Sl} {ws : List (List UInt8)} {w : List UInt8}

theorem Words.len (W : Words g sl ws) : sl.len = ws.length := by have := W.held.len; simpa using this.symm

theorem Words.keep (W : Words g sl ws) (k : Keeps none_ g g') : Words g' sl ws := ⟨W.held.keeps k (fun _ _ f => f), W.cap⟩

theorem Words.rd (W : Words g sl ws) {i : Nat} (hi : ws[i]? = some w) {κ : List UInt8 → Prop} (hk : κ w) : der sl.p (fun p => rdStr (p.add (i * 1)) κ g) := by
  cases hp : sl.p with
  | none =>
    have h0 := W.held.nil hp
    rw [W.len] at h0
    have : ws = [] := List.length_eq_zero_iff.1 h0
    subst this; cases hi
  | some p =>
    rw [der_some]
    have := W.held.row p hp (i * 1) (.str w) (by rw [Nat.mul_one, List.getElem?_map, hi]; rfl)
    exact rdStr_of this hk

theorem Words.ixrd (W : Words g sl ws) {i : Nat} {j : Int} (hj : j = (i : Int)) (hi : ws[i]? = some w) {κ : List UInt8 → Prop} (hk : κ w) : ix j sl.len (fun n => der sl.p (fun p => rdStr (p.add (n * 1)) κ g)) := by
  subst hj
  have hlt : i < ws.length := by
    rcases Nat.lt_or_ge i ws.length with h1 | h1
    · exact h1
    · rw [List.getElem?_eq_none h1] at hi; cases hi
  refine ix_of (by omega) (by rw [W.len]; omega) ?_
  rw [Int.toNat_natCast]
  exact W.rd hi hk

theorem Words.tail (W : Words g sl (w :: ws)) : Words g ⟨slp sl.p (1 * 1) 1 sl.cap, sl.len - 1, sl.cap - 1⟩ ws := by
  have hl := W.len
  simp only [List.length_cons] at hl
  have hc := W.cap
  refine ⟨⟨by simp; omega, fun p hp i v hv => ?_, fun hp => ?_⟩, by show sl.len - 1 ≤ sl.cap - 1; omega⟩
  · have hp : slp sl.p (1 * 1) 1 sl.cap = some p := hp
    unfold slp at hp
    by_cases e : sl.cap = 1
    · have : ws = [] := List.length_eq_zero_iff.1 (by omega)
      subst this; cases hv
    · rw [if_neg e] at hp
      cases hs : sl.p with
      | none => rw [hs] at hp; cases hp
      | some q =>
        rw [hs] at hp
        simp only [Option.map_some, Option.some.injEq] at hp
        subst hp
        have := W.held.row q hs (i + 1) v (by rw [List.map_cons, List.getElem?_cons_succ]; exact hv)
        show g.get q.b (q.o + 1 * 1 + i) = _
        rw [show q.o + 1 * 1 + i = q.o + (i + 1) by omega]
        exact this
  · have hp : slp sl.p (1 * 1) 1 sl.cap = none := hp
    unfold slp at hp
    show sl.len - 1 = 0
    by_cases e : sl.cap = 1
    · omega
    · rw [if_neg e] at hp
      cases hs : sl.p with
      | none => have := W.held.nil hs; omega
      | some q => rw [hs] at hp; cases hp

theorem Row.words {h0 : Heap} (R : Row h0 g sl 1 (ws.map V.str)) : Words g sl ws := ⟨R.held, R.cap⟩

end
end Go.Lift

set_option linter.unusedSimpArgs false
set_option linter.unusedVariables false
set_option maxRecDepth 100000
namespace Go.Insn
open Go.Lift Go.Fn

def within (a b c : Int) : Bool := decide (a ≥ b) && decide (a ≤ c)
def wlies (at_ n : Int) : Bool := within at_ 0 31 && (within n 1 32 && decide (IntKind.i64.wrap (at_ + n) ≤ 32))
def wmask (n : Int) : Int := IntKind.u64.wrap (shlI .u64 1 n - 1)
def wsign (v n : Int) : Int := shrI .i64 (shlI .i64 v (IntKind.i64.wrap (64 - n))) (IntKind.i64.wrap (64 - n))
def wplace (w v at_ n : Int) : Int := ibits .or .u32 (ibits .andNot .u32 w (IntKind.u32.wrap (shlI .u64 (wmask n) at_))) (ibits .and .u32 (shlI .u32 (IntKind.u32.wrap v) at_) (IntKind.u32.wrap (shlI .u64 (wmask n) at_)))

section
variable {h : Heap}

theorem within_of {a b c : Int} {Q : Bool → Heap → Prop} (hq : Q (within a b c) h) : zf79 a b c Q h := by
  unfold zf79
  unfold within at hq
  refine br_if (fun h1 => ?_) (fun h1 => ?_) <;> (rw [h1] at hq; exact hq)

theorem lies_of {a n : Int} {Q : Bool → Heap → Prop} (hq : Q (wlies a n) h) : zf77 a n Q h := by
  unfold zf77
  unfold wlies at hq
  refine within_of (br_if (fun h1 => within_of (br_if (fun h2 => ?_) (fun h2 => ?_))) (fun h1 => ?_))
  · rw [h1, h2] at hq; exact hq
  · rw [h1, h2] at hq; exact hq
  · rw [h1] at hq; exact hq

theorem Sign_of {v n : Int} (hn : within n 1 63 = true) (h0 : 0 ≤ IntKind.i64.wrap (64 - n)) {Q : Int → Heap → Prop} (hq : Q (wsign v n) h) : zf76 v n Q h := by
  unfold zf76
  exact within_of (br_f (by rw [hn]; rfl) (nneg_of h0 (nneg_of h0 hq)))

theorem Fits_of {v n : Int} (hn : within n 1 63 = true) (h0 : 0 ≤ IntKind.i64.wrap (64 - n)) {Q : Bool → Heap → Prop} (hq : Q (wsign v n == v) h) : zf74 v n Q h := by
  unfold zf74
  exact within_of (br_t hn (Sign_of hn h0 hq))

theorem Place_of {w v a n : Int} (hl : wlies a n = true) (ha : 0 ≤ a) (hn : 0 ≤ n) {Q : Int → Heap → Prop} (hq : Q (wplace w v a n) h) : zf75 w v a n Q h := by
  unfold zf75 zf78
  exact lies_of (br_f (by rw [hl]; rfl) (nneg_of hn (nneg_of ha (nneg_of ha hq))))

/-! ## shapes -/

theorem fill_of {m : Nat} {v : Int} {s : Sl} : ∀ {ks : List Int} {l : List (Int × V)} {h : Heap}, MapAt h m .i64 l → Held h s 1 (ks.map (V.int .i64)) → (∀ p, s.p = some p → p.b ≠ m) → ks.length ≤ 1000 → ∀ {Q : Heap → Prop},
    (∀ h', MapAt h' m .i64 (ks.foldl (fun l k => iput k (.int .i64 v) l) l) → Keeps (· = m) h h' → Q h') → zf21 (some m) v s Q h := by
  intro ks l h M H hne hks Q hq
  unfold zf21 zf21.j1
  intro I HI
  have hlen : s.len = ks.length := by have := H.len; simp at this; omega
  rw [hlen]
  have key : ∀ (j i : Nat) (g : Heap), i + j = ks.length → MapAt g m .i64 ((ks.take i).foldl (fun l k => iput k (.int .i64 v) l) l) → Keeps (· = m) h g → I (some m) v s ((ks.length : Nat) : Int) (i : Int) g := by
    intro j
    induction j with
    | zero =>
      intro i g hi Mg k
      refine HI _ _ _ _ _ _ ?_
      unfold zf21.b1
      refine br_f (by simp; omega) ?_
      rw [List.take_of_length_le (by omega)] at Mg
      exact hq g Mg k
    | succ j ih =>
      intro i g hi Mg k
      refine HI _ _ _ _ _ _ ?_
      unfold zf21.b1
      have hil : i < ks.length := by omega
      obtain ⟨p, hp⟩ : ∃ p, s.p = some p := by
        cases hp : s.p with
        | none => have := H.nil hp; omega
        | some p => exact ⟨p, rfl⟩
      have Hg := H.keeps k (fun p hp e => hne p hp e)
      have hki : ks[i]? = some ks[i] := List.getElem?_eq_getElem hil
      refine br_t (by simp; omega) (ix_of (by omega) (by omega) ?_)
      rw [hp, der_some, Int.toNat_natCast]
      refine rdI_of (x := ks[i]) ?_ (mapPut_of Mg (fun g' Mg' k' => ?_))
      · have := Hg.row p hp i (.int .i64 ks[i]) (by rw [List.getElem?_map, hki]; rfl)
        rw [Nat.mul_one]; exact this
      · rw [wrap64]
        have := ih (i + 1) g' (by omega) (by rw [List.take_add_one, List.foldl_append, hki]; exact Mg') (k.trans k')
        simpa using this
  have := key ks.length 0 h (by omega) (by simpa using M) (Keeps.refl _ _)
  simpa using this

def shapesL : List (Int × V) :=
  let put := fun (l : List (Int × V)) (v : Int) (ks : List Int) => ks.foldl (fun l k => iput k (.int .i64 v) l) l
  put (put (put (put (put (put (iput 45 (.int .i64 6) []) 0 [41, 42, 43, 44]) 1 [1, 2, 3, 4, 5, 6, 7, 8, 9, 10, 11, 12, 13, 37, 38, 39, 40]) 2 [14, 15, 16, 17, 18, 19, 20, 21, 23, 24, 25, 36, 46, 47, 48]) 3 [26, 27, 28]) 4 [29, 30, 31, 32, 33, 34]) 5 [22, 35]

theorem held_ints {b : Nat} {ks : List Int} {n : Nat} (ho : h.obj b = some (.cells (ks.map (V.int .i64)) false)) (hn : ks.length = n) : Held h ⟨some ⟨b, 0⟩, n, n⟩ 1 (ks.map (V.int .i64)) := by
  refine ⟨by simp [hn], fun p hp i v hv => ?_, fun hp => by cases hp⟩
  cases hp
  rw [get_cells ho, ← hv, Nat.zero_add]

theorem shapes_step {m : Nat} {l : List (Int × V)} (M : MapAt h m .i64 l) {v : Int} {ks : List Int} {n : Nat} (hn : ks.length = n) (hks : ks.length ≤ 1000) {κ : Heap → Prop}
    (hq : ∀ h', MapAt h' m .i64 (ks.foldl (fun l k => iput k (.int .i64 v) l) l) → (∀ z, h.obj z ≠ none → z ≠ m → h'.obj z = h.obj z) → (∀ z, h.obj z ≠ none → h'.obj z ≠ none) → κ h') :
    al (ks.map (V.int .i64)) (fun b h => zf21 (some m) v ⟨some ⟨b, 0⟩, n, n⟩ (fun h => κ h) h) h := by
  refine al_of (fun b h1 hb ho k => ?_)
  have M1 := M.keeps k (fun f => f)
  have hbm : b ≠ m := M.ne hb
  refine fill_of M1 (held_ints ho hn) (fun p hp => by cases hp; exact hbm) hks (fun h2 M2 k2 => ?_)
  refine hq h2 M2 (fun z hz hm => ?_) (fun z hz => k2.known z (k.known z hz))
  rw [k2.same z (k.known z hz) hm, k.same z hz (fun f => f)]

theorem shapes_of {Q : Option Nat → Heap → Prop} (hq : ∀ m h', MapAt h' m .i64 shapesL → Keeps none_ h h' → Q (some m) h') : zf20 Q h := by
  unfold zf20
  refine alM_of (fun m h1 hm M k => ?_)
  refine mapPut_of M (fun h2 M k2 => ?_)
  refine shapes_step (ks := [41, 42, 43, 44]) M rfl (by decide) (fun h3 M s3 n3 => ?_)
  refine shapes_step (ks := [1, 2, 3, 4, 5, 6, 7, 8, 9, 10, 11, 12, 13, 37, 38, 39, 40]) M rfl (by decide) (fun h4 M s4 n4 => ?_)
  refine shapes_step (ks := [14, 15, 16, 17, 18, 19, 20, 21, 23, 24, 25, 36, 46, 47, 48]) M rfl (by decide) (fun h5 M s5 n5 => ?_)
  refine shapes_step (ks := [26, 27, 28]) M rfl (by decide) (fun h6 M s6 n6 => ?_)
  refine shapes_step (ks := [29, 30, 31, 32, 33, 34]) M rfl (by decide) (fun h7 M s7 n7 => ?_)
  refine shapes_step (ks := [22, 35]) M rfl (by decide) (fun h8 M s8 n8 => ?_)
  refine hq m h8 M ⟨fun z hz _ => ?_, fun z hz => n8 z (n7 z (n6 z (n5 z (n4 z (n3 z (k2.known z (k.known z hz)))))))⟩
  have z1 := k.known z hz
  have zm : z ≠ m := fun e => hz (e ▸ hm)
  have z2 := k2.known z z1
  have z3 := n3 z z2
  have z4 := n4 z z3
  have z5 := n5 z z4
  have z6 := n6 z z5
  have z7 := n7 z z6
  rw [s8 z z7 zm, s7 z z6 zm, s6 z z5 zm, s5 z z4 zm, s4 z z3 zm, s3 z z2 zm, k2.same z z1 zm, k.same z hz (fun f => f)]

/-- The shape of an operation; none: there is no such operation. -/
def shapeOf (op : Int) : Option Int := match ifind op shapesL with | some (.int .i64 v) => some v | _ => none

theorem shapesL_ints : ∀ p ∈ shapesL, ∃ v, p.2 = V.int .i64 v := by
  have : shapesL.all (fun p => match p.2 with | .int .i64 _ => true | _ => false) = true := by decide +kernel
  intro p hp
  have := List.all_eq_true.1 this p hp
  obtain ⟨a, v⟩ := p
  dsimp only at this
  split at this
  · exact ⟨_, rfl⟩
  · cases this

theorem ifind_mem {a : Int} {v : V} : ∀ {l : List (Int × V)}, ifind a l = some v → ∃ p ∈ l, p.2 = v
  | [], h => by cases h
  | (b, u) :: l, h => by
    simp only [ifind] at h
    split at h
    · injection h with h; exact ⟨(b, u), by simp, h⟩
    · obtain ⟨p, hp, e⟩ := ifind_mem (l := l) h
      exact ⟨p, by simp [hp], e⟩

theorem Shape_of {op : Int} {Q : Int → Bool → Heap → Prop} (hq : ∀ h', Keeps none_ h h' → Q ((shapeOf op).getD 0) (shapeOf op).isSome h') : zf17 op Q h := by
  unfold zf17
  refine shapes_of (fun m h1 M k => mapGet_of M ?_)
  have := hq h1 k
  unfold shapeOf at this
  cases hf : ifind op shapesL with
  | none => rw [hf] at this; exact asI_of this
  | some v =>
    rw [hf] at this
    obtain ⟨p, hp, e⟩ := ifind_mem hf
    obtain ⟨n, hn⟩ := shapesL_ints p hp
    rw [← e, hn] at this ⊢
    exact asI_of this

/-! ## instructions that may be -/

def immOk (op sh v : Int) : Bool :=
  if op = 18 ∨ op = 19 ∨ op = 20 then decide (v ≥ 0) && decide (v < 64)
  else if op = 46 ∨ op = 47 ∨ op = 48 then decide (v ≥ 0) && decide (v < 4096)
  else if sh = 2 ∨ sh = 3 ∨ sh = 4 then wsign v 14 == v
  else if sh = 5 then wsign v 18 == v
  else v == 0

theorem immOf_of {op sh v : Int} {Q : Bool → Heap → Prop} (hq : Q (immOk op sh v) h) : zf19 op sh v Q h := by
  unfold zf19
  unfold immOk at hq
  have j5 : op = 18 ∨ op = 19 ∨ op = 20 → zf19.j5 v Q h := by
    intro c
    rw [if_pos c] at hq
    unfold zf19.j5
    refine br_if (fun h1 => ?_) (fun h1 => ?_) <;> (rw [h1] at hq; exact hq)
  refine br_if (fun c => j5 (by simp at c; omega)) (fun c1 => br_if (fun c => j5 (by simp at c; omega)) (fun c2 => br_if (fun c => j5 (by simp at c; omega)) (fun c3 => ?_)))
  simp only [beq_eq_false_iff_ne, ne_eq] at c1 c2 c3
  rw [if_neg (by omega)] at hq
  have j9 : op = 46 ∨ op = 47 ∨ op = 48 → zf19.j9 v Q h := by
    intro c
    rw [if_pos c] at hq
    unfold zf19.j9
    refine br_if (fun h1 => ?_) (fun h1 => ?_) <;> (rw [h1] at hq; exact hq)
  refine br_if (fun c => j9 (by simp at c; omega)) (fun c4 => br_if (fun c => j9 (by simp at c; omega)) (fun c5 => br_if (fun c => j9 (by simp at c; omega)) (fun c6 => ?_)))
  simp only [beq_eq_false_iff_ne, ne_eq] at c4 c5 c6
  rw [if_neg (by omega)] at hq
  have f14 : sh = 2 ∨ sh = 3 ∨ sh = 4 → zf74 v 14 (fun r h => Q r h) h := by
    intro c
    rw [if_pos c] at hq
    exact Fits_of rfl (by decide) hq
  refine br_if (fun c => f14 (by simp at c; omega)) (fun c7 => br_if (fun c => f14 (by simp at c; omega)) (fun c8 => br_if (fun c => f14 (by simp at c; omega)) (fun c9 => ?_)))
  simp only [beq_eq_false_iff_ne, ne_eq] at c7 c8 c9
  rw [if_neg (by omega)] at hq
  refine br_if (fun c => ?_) (fun c => ?_)
  · rw [if_pos (by simpa using c)] at hq
    exact Fits_of rfl (by decide) hq
  · rw [if_neg (by simpa using c)] at hq
    exact hq

def regOk (r : Int) (has : Bool) : Bool := !(decide (r < 0)) && (!(decide (r > 15)) && !(decide (r > 0) && !has))

theorem regs_of {b : Nat} {l : List V} (ho : h.obj b = some (.cells l false)) : ∀ {n : Nat} (rs : List (Int × Bool)), l = rs.flatMap (fun p => [.int .i64 p.1, .bool p.2]) → rs.length = n → n ≤ 1000 → ∀ {Q : Bool → Heap → Prop},
    (∀ h', Keeps none_ h h' → Q (rs.all fun p => regOk p.1 p.2) h') → zf18.j5 ⟨some ⟨b, 0⟩, n, n⟩ ((n : Nat) : Int) 0 Q h := by
  intro n rs hl hn hn1 Q hq
  unfold zf18.j5
  intro I HI
  have key : ∀ (j i : Nat) (g : Heap), i + j = n → (∀ p ∈ rs.take i, regOk p.1 p.2 = true) → Keeps none_ h g → I ⟨some ⟨b, 0⟩, n, n⟩ (n : Int) (i : Int) g := by
    intro j
    induction j with
    | zero =>
      intro i g hi hr k
      refine HI _ _ _ _ ?_
      unfold zf18.b5
      refine br_f (by simp; omega) ?_
      have := hq g k
      rw [List.take_of_length_le (by omega)] at hr
      rw [List.all_eq_true.2 hr] at this
      exact this
    | succ j ih =>
      intro i g hi hr k
      refine HI _ _ _ _ ?_
      unfold zf18.b5
      have hog := k.obj ho (fun f => f)
      have hil : i < rs.length := by omega
      have hri : rs[i]? = some rs[i] := List.getElem?_eq_getElem hil
      have hget : ∀ (rs : List (Int × Bool)) (i : Nat) (p : Int × Bool), rs[i]? = some p → (rs.flatMap (fun p => [V.int .i64 p.1, .bool p.2]))[i * 2]? = some (.int .i64 p.1) ∧ (rs.flatMap (fun p => [V.int .i64 p.1, .bool p.2]))[i * 2 + 1]? = some (.bool p.2) := by
        intro rs
        induction rs with
        | nil => intro i p hp; simp at hp
        | cons q rs ih =>
          intro i p hp
          cases i with
          | zero => simp at hp; subst hp; exact ⟨rfl, rfl⟩
          | succ i =>
            simp at hp
            have := ih i p hp
            have e : (i + 1) * 2 = i * 2 + 2 := by omega
            rw [e]
            exact this
      obtain ⟨g1, g2⟩ := hget rs i rs[i] hri
      generalize hp : rs[i] = p at *
      have stop : regOk p.1 p.2 = false → ∀ g', Keeps none_ g g' → Q false g' := by
        intro hf g' k'
        have := hq g' (k.trans k')
        rw [show (rs.all fun p => regOk p.1 p.2) = false from by
          rw [List.all_eq_false]
          exact ⟨p, List.mem_of_getElem? hri, by rw [hf]; simp⟩] at this
        exact this
      have next : regOk p.1 p.2 = true → ∀ g', Keeps none_ g g' → I ⟨some ⟨b, 0⟩, n, n⟩ (n : Int) (IntKind.i64.wrap ((i : Int) + 1)) g' := by
        intro ht g' k'
        rw [wrap64]
        have := ih (i + 1) g' (by omega) (fun q hq => by
          rw [List.take_add_one, hri] at hq
          rcases List.mem_append.1 hq with hq | hq
          · exact hr q hq
          · simp at hq; subst hq; exact ht) (k.trans k')
        simpa using this
      refine br_t (by simp; omega) (ix_of (by omega) (by show (i : Int) < ((n : Nat) : Int); omega) ?_)
      rw [der_some, Int.toNat_natCast]
      have e1 : 0 + i * 2 + 0 = i * 2 := by omega
      have e2 : 0 + i * 2 + 1 = i * 2 + 1 := by omega
      refine loc_I hog (x := p.1) (by rw [hl]; show _[0 + i * 2 + 0]? = _; rw [e1]; exact g1) (loc_B hog (x := p.2) (by rw [hl]; show _[0 + i * 2 + 1]? = _; rw [e2]; exact g2) ?_)
      have S := St.start g none_
      repeat (first | ((with_reducible first|apply St.rI|apply St.rB|apply St.rP|apply St.rSl|apply St.rV|apply St.rM|apply St.rS|apply St.rN|apply St.ckA);assumption;(first|exact i0|exact i1|exact i2|exact i3|exact i4|exact i5|exact i6|exact i7|exact i8|exact i9|exact i10|exact i11|exact i12|exact i13|exact i14|exact i15);(first|rfl|exact Nat.le_of_ble_eq_true rfl)) | with_reducible refine der_of ?_ | ((with_reducible refine br_t ?_ ?_);rfl) | ((with_reducible refine br_f ?_ ?_);rfl) | ((with_reducible refine br_t ?_ ?_);assumption) | ((with_reducible refine br_f ?_ ?_);assumption) | ((with_reducible first|apply St.wrL|apply St.wr);assumption;(first|exact i0|exact i1|exact i2|exact i3|exact i4|exact i5|exact i6|exact i7|exact i8|exact i9|exact i10|exact i11|exact i12|exact i13|exact i14|exact i15);(first|exact Nat.le_of_ble_eq_true rfl|rfl);intro g_ S_;simp only [Ptr.add, List.set, splice, List.take, List.drop, List.nil_append, List.append_nil, List.cons_append, List.length_cons, List.length_nil, Nat.zero_add, Nat.add_zero, Nat.reduceAdd, Nat.reduceMul, Nat.mul_one, Int.toNat_zero, Int.toNat_one, Int.reduceToNat] at S_) | ((with_reducible first|apply St.al|apply St.alM);assumption;intro b_ g_ S_) | ((with_reducible refine ix_of ?_ ?_ ?_);exact of_decide_eq_true rfl;exact of_decide_eq_true rfl) | ((with_reducible first|refine nz_of ?_ ?_|refine nneg_of ?_ ?_);exact of_decide_eq_true rfl) | ((with_reducible refine chk_of ?_ ?_);rfl) | (with_reducible first|apply asI_of|apply asB_of|apply asP_of|apply asSl_of|apply asAggV_of|apply asTupV_of|apply asCons_of|apply asNil_of|apply isNil_n|apply isNil_i|apply nilC_i|apply nilCU_i|apply nilCU_f|apply mthC_i) | ((with_reducible refine And.intro ?_ ?_);rfl) | ((with_reducible apply exAnd);rfl))
      refine br_if (fun c => ?_) (fun c1 => ?_)
      · unfold zf18.j8
        exact stop (by unfold regOk; rw [c]; rfl) _ (St.keeps ‹_›)
      repeat (first | ((with_reducible first|apply St.rI|apply St.rB|apply St.rP|apply St.rSl|apply St.rV|apply St.rM|apply St.rS|apply St.rN|apply St.ckA);assumption;(first|exact i0|exact i1|exact i2|exact i3|exact i4|exact i5|exact i6|exact i7|exact i8|exact i9|exact i10|exact i11|exact i12|exact i13|exact i14|exact i15);(first|rfl|exact Nat.le_of_ble_eq_true rfl)) | with_reducible refine der_of ?_ | ((with_reducible refine br_t ?_ ?_);rfl) | ((with_reducible refine br_f ?_ ?_);rfl) | ((with_reducible refine br_t ?_ ?_);assumption) | ((with_reducible refine br_f ?_ ?_);assumption) | ((with_reducible first|apply St.wrL|apply St.wr);assumption;(first|exact i0|exact i1|exact i2|exact i3|exact i4|exact i5|exact i6|exact i7|exact i8|exact i9|exact i10|exact i11|exact i12|exact i13|exact i14|exact i15);(first|exact Nat.le_of_ble_eq_true rfl|rfl);intro g_ S_;simp only [Ptr.add, List.set, splice, List.take, List.drop, List.nil_append, List.append_nil, List.cons_append, List.length_cons, List.length_nil, Nat.zero_add, Nat.add_zero, Nat.reduceAdd, Nat.reduceMul, Nat.mul_one, Int.toNat_zero, Int.toNat_one, Int.reduceToNat] at S_) | ((with_reducible first|apply St.al|apply St.alM);assumption;intro b_ g_ S_) | ((with_reducible refine ix_of ?_ ?_ ?_);exact of_decide_eq_true rfl;exact of_decide_eq_true rfl) | ((with_reducible first|refine nz_of ?_ ?_|refine nneg_of ?_ ?_);exact of_decide_eq_true rfl) | ((with_reducible refine chk_of ?_ ?_);rfl) | (with_reducible first|apply asI_of|apply asB_of|apply asP_of|apply asSl_of|apply asAggV_of|apply asTupV_of|apply asCons_of|apply asNil_of|apply isNil_n|apply isNil_i|apply nilC_i|apply nilCU_i|apply nilCU_f|apply mthC_i) | ((with_reducible refine And.intro ?_ ?_);rfl) | ((with_reducible apply exAnd);rfl))
      refine br_if (fun c => ?_) (fun c2 => ?_)
      · unfold zf18.j8
        exact stop (by unfold regOk; rw [c1, c]; rfl) _ (St.keeps ‹_›)
      repeat (first | ((with_reducible first|apply St.rI|apply St.rB|apply St.rP|apply St.rSl|apply St.rV|apply St.rM|apply St.rS|apply St.rN|apply St.ckA);assumption;(first|exact i0|exact i1|exact i2|exact i3|exact i4|exact i5|exact i6|exact i7|exact i8|exact i9|exact i10|exact i11|exact i12|exact i13|exact i14|exact i15);(first|rfl|exact Nat.le_of_ble_eq_true rfl)) | with_reducible refine der_of ?_ | ((with_reducible refine br_t ?_ ?_);rfl) | ((with_reducible refine br_f ?_ ?_);rfl) | ((with_reducible refine br_t ?_ ?_);assumption) | ((with_reducible refine br_f ?_ ?_);assumption) | ((with_reducible first|apply St.wrL|apply St.wr);assumption;(first|exact i0|exact i1|exact i2|exact i3|exact i4|exact i5|exact i6|exact i7|exact i8|exact i9|exact i10|exact i11|exact i12|exact i13|exact i14|exact i15);(first|exact Nat.le_of_ble_eq_true rfl|rfl);intro g_ S_;simp only [Ptr.add, List.set, splice, List.take, List.drop, List.nil_append, List.append_nil, List.cons_append, List.length_cons, List.length_nil, Nat.zero_add, Nat.add_zero, Nat.reduceAdd, Nat.reduceMul, Nat.mul_one, Int.toNat_zero, Int.toNat_one, Int.reduceToNat] at S_) | ((with_reducible first|apply St.al|apply St.alM);assumption;intro b_ g_ S_) | ((with_reducible refine ix_of ?_ ?_ ?_);exact of_decide_eq_true rfl;exact of_decide_eq_true rfl) | ((with_reducible first|refine nz_of ?_ ?_|refine nneg_of ?_ ?_);exact of_decide_eq_true rfl) | ((with_reducible refine chk_of ?_ ?_);rfl) | (with_reducible first|apply asI_of|apply asB_of|apply asP_of|apply asSl_of|apply asAggV_of|apply asTupV_of|apply asCons_of|apply asNil_of|apply isNil_n|apply isNil_i|apply nilC_i|apply nilCU_i|apply nilCU_f|apply mthC_i) | ((with_reducible refine And.intro ?_ ?_);rfl) | ((with_reducible apply exAnd);rfl))
      refine br_if (fun c3 => ?_) (fun c3 => ?_)
      · repeat (first | ((with_reducible first|apply St.rI|apply St.rB|apply St.rP|apply St.rSl|apply St.rV|apply St.rM|apply St.rS|apply St.rN|apply St.ckA);assumption;(first|exact i0|exact i1|exact i2|exact i3|exact i4|exact i5|exact i6|exact i7|exact i8|exact i9|exact i10|exact i11|exact i12|exact i13|exact i14|exact i15);(first|rfl|exact Nat.le_of_ble_eq_true rfl)) | with_reducible refine der_of ?_ | ((with_reducible refine br_t ?_ ?_);rfl) | ((with_reducible refine br_f ?_ ?_);rfl) | ((with_reducible refine br_t ?_ ?_);assumption) | ((with_reducible refine br_f ?_ ?_);assumption) | ((with_reducible first|apply St.wrL|apply St.wr);assumption;(first|exact i0|exact i1|exact i2|exact i3|exact i4|exact i5|exact i6|exact i7|exact i8|exact i9|exact i10|exact i11|exact i12|exact i13|exact i14|exact i15);(first|exact Nat.le_of_ble_eq_true rfl|rfl);intro g_ S_;simp only [Ptr.add, List.set, splice, List.take, List.drop, List.nil_append, List.append_nil, List.cons_append, List.length_cons, List.length_nil, Nat.zero_add, Nat.add_zero, Nat.reduceAdd, Nat.reduceMul, Nat.mul_one, Int.toNat_zero, Int.toNat_one, Int.reduceToNat] at S_) | ((with_reducible first|apply St.al|apply St.alM);assumption;intro b_ g_ S_) | ((with_reducible refine ix_of ?_ ?_ ?_);exact of_decide_eq_true rfl;exact of_decide_eq_true rfl) | ((with_reducible first|refine nz_of ?_ ?_|refine nneg_of ?_ ?_);exact of_decide_eq_true rfl) | ((with_reducible refine chk_of ?_ ?_);rfl) | (with_reducible first|apply asI_of|apply asB_of|apply asP_of|apply asSl_of|apply asAggV_of|apply asTupV_of|apply asCons_of|apply asNil_of|apply isNil_n|apply isNil_i|apply nilC_i|apply nilCU_i|apply nilCU_f|apply mthC_i) | ((with_reducible refine And.intro ?_ ?_);rfl) | ((with_reducible apply exAnd);rfl))
        refine br_if (fun c => ?_) (fun c => ?_)
        · unfold zf18.j8
          exact stop (by unfold regOk; rw [c1, c2, c3, c]; rfl) _ (St.keeps ‹_›)
        · unfold zf18.j9
          exact next (by unfold regOk; rw [c1, c2, c3, c]; rfl) _ (St.keeps ‹_›)
      · unfold zf18.j9
        exact next (by unfold regOk; rw [c1, c2, c3]; rfl) _ (St.keeps ‹_›)
  have := key n 0 h (by omega) (fun p hp => by simp at hp) (Keeps.refl _ _)
  simpa using this

def validOf (op rd rs1 rs2 imm : Int) : Bool :=
  match shapeOf op with
  | none => false
  | some sh => immOk op sh imm && (!(op == 37 && rs2 != 0) && (regOk rd (sh == 1 || (sh == 2 || sh == 5)) && (regOk rs1 (sh != 0 && sh != 5) && (regOk rs2 (sh == 1 || (sh == 3 || sh == 4)) && true))))

theorem Valid_of {op rd rs1 rs2 imm : Int} {Q : Bool → Heap → Prop} (hq : ∀ h', Keeps none_ h h' → Q (validOf op rd rs1 rs2 imm) h') : zf18 op rd rs1 rs2 imm Q h := by
  unfold zf18
  have S := St.start h none_
  repeat (first | ((with_reducible first|apply St.rI|apply St.rB|apply St.rP|apply St.rSl|apply St.rV|apply St.rM|apply St.rS|apply St.rN|apply St.ckA);assumption;(first|exact i0|exact i1|exact i2|exact i3|exact i4|exact i5|exact i6|exact i7|exact i8|exact i9|exact i10|exact i11|exact i12|exact i13|exact i14|exact i15);(first|rfl|exact Nat.le_of_ble_eq_true rfl)) | with_reducible refine der_of ?_ | ((with_reducible refine br_t ?_ ?_);rfl) | ((with_reducible refine br_f ?_ ?_);rfl) | ((with_reducible refine br_t ?_ ?_);assumption) | ((with_reducible refine br_f ?_ ?_);assumption) | ((with_reducible first|apply St.wrL|apply St.wr);assumption;(first|exact i0|exact i1|exact i2|exact i3|exact i4|exact i5|exact i6|exact i7|exact i8|exact i9|exact i10|exact i11|exact i12|exact i13|exact i14|exact i15);(first|exact Nat.le_of_ble_eq_true rfl|rfl);intro g_ S_;simp only [Ptr.add, List.set, splice, List.take, List.drop, List.nil_append, List.append_nil, List.cons_append, List.length_cons, List.length_nil, Nat.zero_add, Nat.add_zero, Nat.reduceAdd, Nat.reduceMul, Nat.mul_one, Int.toNat_zero, Int.toNat_one, Int.reduceToNat] at S_) | ((with_reducible first|apply St.al|apply St.alM);assumption;intro b_ g_ S_) | ((with_reducible refine ix_of ?_ ?_ ?_);exact of_decide_eq_true rfl;exact of_decide_eq_true rfl) | ((with_reducible first|refine nz_of ?_ ?_|refine nneg_of ?_ ?_);exact of_decide_eq_true rfl) | ((with_reducible refine chk_of ?_ ?_);rfl) | (with_reducible first|apply asI_of|apply asB_of|apply asP_of|apply asSl_of|apply asAggV_of|apply asTupV_of|apply asCons_of|apply asNil_of|apply isNil_n|apply isNil_i|apply nilC_i|apply nilCU_i|apply nilCU_f|apply mthC_i) | ((with_reducible refine And.intro ?_ ?_);rfl) | ((with_reducible apply exAnd);rfl))
  refine Shape_of (fun h2 k2 => ?_)
  have S2 := St.keep ‹_› k2
  cases hs : shapeOf op with
  | none =>
    dsimp only [Option.getD_none, Option.isSome_none]
    refine br_t rfl ?_
    unfold zf18.j3
    have := hq h2 S2.keeps
    unfold validOf at this; rw [hs] at this; exact this
  | some sh =>
    have hq : ∀ h', Keeps none_ h h' → Q (immOk op sh imm && (!(op == 37 && rs2 != 0) && (regOk rd (sh == 1 || (sh == 2 || sh == 5)) && (regOk rs1 (sh != 0 && sh != 5) && (regOk rs2 (sh == 1 || (sh == 3 || sh == 4)) && true))))) h' := by
      intro h' k
      have := hq h' k
      unfold validOf at this; rw [hs] at this; exact this
    dsimp only [Option.getD_some, Option.isSome_some]
    refine br_f rfl ?_
    repeat (first | ((with_reducible first|apply St.rI|apply St.rB|apply St.rP|apply St.rSl|apply St.rV|apply St.rM|apply St.rS|apply St.rN|apply St.ckA);assumption;(first|exact i0|exact i1|exact i2|exact i3|exact i4|exact i5|exact i6|exact i7|exact i8|exact i9|exact i10|exact i11|exact i12|exact i13|exact i14|exact i15);(first|rfl|exact Nat.le_of_ble_eq_true rfl)) | with_reducible refine der_of ?_ | ((with_reducible refine br_t ?_ ?_);rfl) | ((with_reducible refine br_f ?_ ?_);rfl) | ((with_reducible refine br_t ?_ ?_);assumption) | ((with_reducible refine br_f ?_ ?_);assumption) | ((with_reducible first|apply St.wrL|apply St.wr);assumption;(first|exact i0|exact i1|exact i2|exact i3|exact i4|exact i5|exact i6|exact i7|exact i8|exact i9|exact i10|exact i11|exact i12|exact i13|exact i14|exact i15);(first|exact Nat.le_of_ble_eq_true rfl|rfl);intro g_ S_;simp only [Ptr.add, List.set, splice, List.take, List.drop, List.nil_append, List.append_nil, List.cons_append, List.length_cons, List.length_nil, Nat.zero_add, Nat.add_zero, Nat.reduceAdd, Nat.reduceMul, Nat.mul_one, Int.toNat_zero, Int.toNat_one, Int.reduceToNat] at S_) | ((with_reducible first|apply St.al|apply St.alM);assumption;intro b_ g_ S_) | ((with_reducible refine ix_of ?_ ?_ ?_);exact of_decide_eq_true rfl;exact of_decide_eq_true rfl) | ((with_reducible first|refine nz_of ?_ ?_|refine nneg_of ?_ ?_);exact of_decide_eq_true rfl) | ((with_reducible refine chk_of ?_ ?_);rfl) | (with_reducible first|apply asI_of|apply asB_of|apply asP_of|apply asSl_of|apply asAggV_of|apply asTupV_of|apply asCons_of|apply asNil_of|apply isNil_n|apply isNil_i|apply nilC_i|apply nilCU_i|apply nilCU_f|apply mthC_i) | ((with_reducible refine And.intro ?_ ?_);rfl) | ((with_reducible apply exAnd);rfl))
    refine immOf_of (br_if (fun c => ?_) (fun c => ?_))
    · unfold zf18.j3
      have := hq h2 S2.keeps
      rw [show immOk op sh imm = false by simpa using c] at this; exact this
    have hi : immOk op sh imm = true := by simpa using c
    rw [hi] at hq
    simp only [Bool.true_and] at hq
    have j4 : (!(op == 37 && rs2 != 0)) = true → zf18.j4 ⟨b_, 0⟩ sh Q h2 := by
      intro c37
      rw [c37] at hq
      simp only [Bool.true_and] at hq
      unfold zf18.j4
      have fin : ∀ (b : Nat) (g : Heap) (p q r : Bool), St h none_ ((b, .cells [.int .i64 rd, .bool p, .int .i64 rs1, .bool q, .int .i64 rs2, .bool r] false) :: [(b_, .cells [.int .i64 op, .int .i64 rd, .int .i64 rs1, .int .i64 rs2, .int .i64 imm] false)]) g →
          p = (sh == 1 || (sh == 2 || sh == 5)) → q = (sh != 0 && sh != 5) → r = (sh == 1 || (sh == 3 || sh == 4)) → zf18.j5 ⟨some ⟨b, 0⟩, 3, 3⟩ ((3 : Nat) : Int) 0 Q g := by
        intro b g p q r Sg hp hq' hr
        refine regs_of (Sg.obj i0) [(rd, p), (rs1, q), (rs2, r)] rfl rfl (Nat.le_of_ble_eq_true rfl) (fun g' k' => ?_)
        have := hq g' (Sg.keeps.trans k')
        rw [← hp, ← hq', ← hr] at this
        exact this
      repeat (first | ((with_reducible first|apply St.rI|apply St.rB|apply St.rP|apply St.rSl|apply St.rV|apply St.rM|apply St.rS|apply St.rN|apply St.ckA);assumption;(first|exact i0|exact i1|exact i2|exact i3|exact i4|exact i5|exact i6|exact i7|exact i8|exact i9|exact i10|exact i11|exact i12|exact i13|exact i14|exact i15);(first|rfl|exact Nat.le_of_ble_eq_true rfl)) | with_reducible refine der_of ?_ | ((with_reducible refine br_t ?_ ?_);rfl) | ((with_reducible refine br_f ?_ ?_);rfl) | ((with_reducible refine br_t ?_ ?_);assumption) | ((with_reducible refine br_f ?_ ?_);assumption) | ((with_reducible first|apply St.wrL|apply St.wr);assumption;(first|exact i0|exact i1|exact i2|exact i3|exact i4|exact i5|exact i6|exact i7|exact i8|exact i9|exact i10|exact i11|exact i12|exact i13|exact i14|exact i15);(first|exact Nat.le_of_ble_eq_true rfl|rfl);intro g_ S_;simp only [Ptr.add, List.set, splice, List.take, List.drop, List.nil_append, List.append_nil, List.cons_append, List.length_cons, List.length_nil, Nat.zero_add, Nat.add_zero, Nat.reduceAdd, Nat.reduceMul, Nat.mul_one, Int.toNat_zero, Int.toNat_one, Int.reduceToNat] at S_) | ((with_reducible first|apply St.al|apply St.alM);assumption;intro b_ g_ S_) | ((with_reducible refine ix_of ?_ ?_ ?_);exact of_decide_eq_true rfl;exact of_decide_eq_true rfl) | ((with_reducible first|refine nz_of ?_ ?_|refine nneg_of ?_ ?_);exact of_decide_eq_true rfl) | ((with_reducible refine chk_of ?_ ?_);rfl) | (with_reducible first|apply asI_of|apply asB_of|apply asP_of|apply asSl_of|apply asAggV_of|apply asTupV_of|apply asCons_of|apply asNil_of|apply isNil_n|apply isNil_i|apply nilC_i|apply nilCU_i|apply nilCU_f|apply mthC_i) | ((with_reducible refine And.intro ?_ ?_);rfl) | ((with_reducible apply exAnd);rfl))
      refine br_if (fun c1 => ?_) (fun c1 => ?_)
      all_goals repeat (first | ((with_reducible first|apply St.rI|apply St.rB|apply St.rP|apply St.rSl|apply St.rV|apply St.rM|apply St.rS|apply St.rN|apply St.ckA);assumption;(first|exact i0|exact i1|exact i2|exact i3|exact i4|exact i5|exact i6|exact i7|exact i8|exact i9|exact i10|exact i11|exact i12|exact i13|exact i14|exact i15);(first|rfl|exact Nat.le_of_ble_eq_true rfl)) | with_reducible refine der_of ?_ | ((with_reducible refine br_t ?_ ?_);rfl) | ((with_reducible refine br_f ?_ ?_);rfl) | ((with_reducible refine br_t ?_ ?_);assumption) | ((with_reducible refine br_f ?_ ?_);assumption) | ((with_reducible first|apply St.wrL|apply St.wr);assumption;(first|exact i0|exact i1|exact i2|exact i3|exact i4|exact i5|exact i6|exact i7|exact i8|exact i9|exact i10|exact i11|exact i12|exact i13|exact i14|exact i15);(first|exact Nat.le_of_ble_eq_true rfl|rfl);intro g_ S_;simp only [Ptr.add, List.set, splice, List.take, List.drop, List.nil_append, List.append_nil, List.cons_append, List.length_cons, List.length_nil, Nat.zero_add, Nat.add_zero, Nat.reduceAdd, Nat.reduceMul, Nat.mul_one, Int.toNat_zero, Int.toNat_one, Int.reduceToNat] at S_) | ((with_reducible first|apply St.al|apply St.alM);assumption;intro b_ g_ S_) | ((with_reducible refine ix_of ?_ ?_ ?_);exact of_decide_eq_true rfl;exact of_decide_eq_true rfl) | ((with_reducible first|refine nz_of ?_ ?_|refine nneg_of ?_ ?_);exact of_decide_eq_true rfl) | ((with_reducible refine chk_of ?_ ?_);rfl) | (with_reducible first|apply asI_of|apply asB_of|apply asP_of|apply asSl_of|apply asAggV_of|apply asTupV_of|apply asCons_of|apply asNil_of|apply isNil_n|apply isNil_i|apply nilC_i|apply nilCU_i|apply nilCU_f|apply mthC_i) | ((with_reducible refine And.intro ?_ ?_);rfl) | ((with_reducible apply exAnd);rfl))
      all_goals (first | (refine br_if (fun c2 => ?_) (fun c2 => ?_)) | skip)
      all_goals repeat (first | ((with_reducible first|apply St.rI|apply St.rB|apply St.rP|apply St.rSl|apply St.rV|apply St.rM|apply St.rS|apply St.rN|apply St.ckA);assumption;(first|exact i0|exact i1|exact i2|exact i3|exact i4|exact i5|exact i6|exact i7|exact i8|exact i9|exact i10|exact i11|exact i12|exact i13|exact i14|exact i15);(first|rfl|exact Nat.le_of_ble_eq_true rfl)) | with_reducible refine der_of ?_ | ((with_reducible refine br_t ?_ ?_);rfl) | ((with_reducible refine br_f ?_ ?_);rfl) | ((with_reducible refine br_t ?_ ?_);assumption) | ((with_reducible refine br_f ?_ ?_);assumption) | ((with_reducible first|apply St.wrL|apply St.wr);assumption;(first|exact i0|exact i1|exact i2|exact i3|exact i4|exact i5|exact i6|exact i7|exact i8|exact i9|exact i10|exact i11|exact i12|exact i13|exact i14|exact i15);(first|exact Nat.le_of_ble_eq_true rfl|rfl);intro g_ S_;simp only [Ptr.add, List.set, splice, List.take, List.drop, List.nil_append, List.append_nil, List.cons_append, List.length_cons, List.length_nil, Nat.zero_add, Nat.add_zero, Nat.reduceAdd, Nat.reduceMul, Nat.mul_one, Int.toNat_zero, Int.toNat_one, Int.reduceToNat] at S_) | ((with_reducible first|apply St.al|apply St.alM);assumption;intro b_ g_ S_) | ((with_reducible refine ix_of ?_ ?_ ?_);exact of_decide_eq_true rfl;exact of_decide_eq_true rfl) | ((with_reducible first|refine nz_of ?_ ?_|refine nneg_of ?_ ?_);exact of_decide_eq_true rfl) | ((with_reducible refine chk_of ?_ ?_);rfl) | (with_reducible first|apply asI_of|apply asB_of|apply asP_of|apply asSl_of|apply asAggV_of|apply asTupV_of|apply asCons_of|apply asNil_of|apply isNil_n|apply isNil_i|apply nilC_i|apply nilCU_i|apply nilCU_f|apply mthC_i) | ((with_reducible refine And.intro ?_ ?_);rfl) | ((with_reducible apply exAnd);rfl))
      all_goals (first | (refine br_if (fun c3 => ?_) (fun c3 => ?_)) | skip)
      all_goals repeat (first | ((with_reducible first|apply St.rI|apply St.rB|apply St.rP|apply St.rSl|apply St.rV|apply St.rM|apply St.rS|apply St.rN|apply St.ckA);assumption;(first|exact i0|exact i1|exact i2|exact i3|exact i4|exact i5|exact i6|exact i7|exact i8|exact i9|exact i10|exact i11|exact i12|exact i13|exact i14|exact i15);(first|rfl|exact Nat.le_of_ble_eq_true rfl)) | with_reducible refine der_of ?_ | ((with_reducible refine br_t ?_ ?_);rfl) | ((with_reducible refine br_f ?_ ?_);rfl) | ((with_reducible refine br_t ?_ ?_);assumption) | ((with_reducible refine br_f ?_ ?_);assumption) | ((with_reducible first|apply St.wrL|apply St.wr);assumption;(first|exact i0|exact i1|exact i2|exact i3|exact i4|exact i5|exact i6|exact i7|exact i8|exact i9|exact i10|exact i11|exact i12|exact i13|exact i14|exact i15);(first|exact Nat.le_of_ble_eq_true rfl|rfl);intro g_ S_;simp only [Ptr.add, List.set, splice, List.take, List.drop, List.nil_append, List.append_nil, List.cons_append, List.length_cons, List.length_nil, Nat.zero_add, Nat.add_zero, Nat.reduceAdd, Nat.reduceMul, Nat.mul_one, Int.toNat_zero, Int.toNat_one, Int.reduceToNat] at S_) | ((with_reducible first|apply St.al|apply St.alM);assumption;intro b_ g_ S_) | ((with_reducible refine ix_of ?_ ?_ ?_);exact of_decide_eq_true rfl;exact of_decide_eq_true rfl) | ((with_reducible first|refine nz_of ?_ ?_|refine nneg_of ?_ ?_);exact of_decide_eq_true rfl) | ((with_reducible refine chk_of ?_ ?_);rfl) | (with_reducible first|apply asI_of|apply asB_of|apply asP_of|apply asSl_of|apply asAggV_of|apply asTupV_of|apply asCons_of|apply asNil_of|apply isNil_n|apply isNil_i|apply nilC_i|apply nilCU_i|apply nilCU_f|apply mthC_i) | ((with_reducible refine And.intro ?_ ?_);rfl) | ((with_reducible apply exAnd);rfl))
      all_goals (first | (refine br_if (fun c4 => ?_) (fun c4 => ?_)) | skip)
      all_goals repeat (first | ((with_reducible first|apply St.rI|apply St.rB|apply St.rP|apply St.rSl|apply St.rV|apply St.rM|apply St.rS|apply St.rN|apply St.ckA);assumption;(first|exact i0|exact i1|exact i2|exact i3|exact i4|exact i5|exact i6|exact i7|exact i8|exact i9|exact i10|exact i11|exact i12|exact i13|exact i14|exact i15);(first|rfl|exact Nat.le_of_ble_eq_true rfl)) | with_reducible refine der_of ?_ | ((with_reducible refine br_t ?_ ?_);rfl) | ((with_reducible refine br_f ?_ ?_);rfl) | ((with_reducible refine br_t ?_ ?_);assumption) | ((with_reducible refine br_f ?_ ?_);assumption) | ((with_reducible first|apply St.wrL|apply St.wr);assumption;(first|exact i0|exact i1|exact i2|exact i3|exact i4|exact i5|exact i6|exact i7|exact i8|exact i9|exact i10|exact i11|exact i12|exact i13|exact i14|exact i15);(first|exact Nat.le_of_ble_eq_true rfl|rfl);intro g_ S_;simp only [Ptr.add, List.set, splice, List.take, List.drop, List.nil_append, List.append_nil, List.cons_append, List.length_cons, List.length_nil, Nat.zero_add, Nat.add_zero, Nat.reduceAdd, Nat.reduceMul, Nat.mul_one, Int.toNat_zero, Int.toNat_one, Int.reduceToNat] at S_) | ((with_reducible first|apply St.al|apply St.alM);assumption;intro b_ g_ S_) | ((with_reducible refine ix_of ?_ ?_ ?_);exact of_decide_eq_true rfl;exact of_decide_eq_true rfl) | ((with_reducible first|refine nz_of ?_ ?_|refine nneg_of ?_ ?_);exact of_decide_eq_true rfl) | ((with_reducible refine chk_of ?_ ?_);rfl) | (with_reducible first|apply asI_of|apply asB_of|apply asP_of|apply asSl_of|apply asAggV_of|apply asTupV_of|apply asCons_of|apply asNil_of|apply isNil_n|apply isNil_i|apply nilC_i|apply nilCU_i|apply nilCU_f|apply mthC_i) | ((with_reducible refine And.intro ?_ ?_);rfl) | ((with_reducible apply exAnd);rfl))
      all_goals (first | (refine br_if (fun c5 => ?_) (fun c5 => ?_)) | skip)
      all_goals repeat (first | ((with_reducible first|apply St.rI|apply St.rB|apply St.rP|apply St.rSl|apply St.rV|apply St.rM|apply St.rS|apply St.rN|apply St.ckA);assumption;(first|exact i0|exact i1|exact i2|exact i3|exact i4|exact i5|exact i6|exact i7|exact i8|exact i9|exact i10|exact i11|exact i12|exact i13|exact i14|exact i15);(first|rfl|exact Nat.le_of_ble_eq_true rfl)) | with_reducible refine der_of ?_ | ((with_reducible refine br_t ?_ ?_);rfl) | ((with_reducible refine br_f ?_ ?_);rfl) | ((with_reducible refine br_t ?_ ?_);assumption) | ((with_reducible refine br_f ?_ ?_);assumption) | ((with_reducible first|apply St.wrL|apply St.wr);assumption;(first|exact i0|exact i1|exact i2|exact i3|exact i4|exact i5|exact i6|exact i7|exact i8|exact i9|exact i10|exact i11|exact i12|exact i13|exact i14|exact i15);(first|exact Nat.le_of_ble_eq_true rfl|rfl);intro g_ S_;simp only [Ptr.add, List.set, splice, List.take, List.drop, List.nil_append, List.append_nil, List.cons_append, List.length_cons, List.length_nil, Nat.zero_add, Nat.add_zero, Nat.reduceAdd, Nat.reduceMul, Nat.mul_one, Int.toNat_zero, Int.toNat_one, Int.reduceToNat] at S_) | ((with_reducible first|apply St.al|apply St.alM);assumption;intro b_ g_ S_) | ((with_reducible refine ix_of ?_ ?_ ?_);exact of_decide_eq_true rfl;exact of_decide_eq_true rfl) | ((with_reducible first|refine nz_of ?_ ?_|refine nneg_of ?_ ?_);exact of_decide_eq_true rfl) | ((with_reducible refine chk_of ?_ ?_);rfl) | (with_reducible first|apply asI_of|apply asB_of|apply asP_of|apply asSl_of|apply asAggV_of|apply asTupV_of|apply asCons_of|apply asNil_of|apply isNil_n|apply isNil_i|apply nilC_i|apply nilCU_i|apply nilCU_f|apply mthC_i) | ((with_reducible refine And.intro ?_ ?_);rfl) | ((with_reducible apply exAnd);rfl))
      all_goals (refine fin _ _ _ _ _ ‹St _ _ _ _› ?_ ?_ ?_ <;> (clear fin hq; first | (simp only [*, Bool.false_or, Bool.true_or, Bool.or_false, Bool.or_true, Bool.true_and, Bool.and_true, Bool.false_and, Bool.and_false]; done) | (exfalso; simp_all; done) | (exfalso; simp_all; omega)))
    repeat (first | ((with_reducible first|apply St.rI|apply St.rB|apply St.rP|apply St.rSl|apply St.rV|apply St.rM|apply St.rS|apply St.rN|apply St.ckA);assumption;(first|exact i0|exact i1|exact i2|exact i3|exact i4|exact i5|exact i6|exact i7|exact i8|exact i9|exact i10|exact i11|exact i12|exact i13|exact i14|exact i15);(first|rfl|exact Nat.le_of_ble_eq_true rfl)) | with_reducible refine der_of ?_ | ((with_reducible refine br_t ?_ ?_);rfl) | ((with_reducible refine br_f ?_ ?_);rfl) | ((with_reducible refine br_t ?_ ?_);assumption) | ((with_reducible refine br_f ?_ ?_);assumption) | ((with_reducible first|apply St.wrL|apply St.wr);assumption;(first|exact i0|exact i1|exact i2|exact i3|exact i4|exact i5|exact i6|exact i7|exact i8|exact i9|exact i10|exact i11|exact i12|exact i13|exact i14|exact i15);(first|exact Nat.le_of_ble_eq_true rfl|rfl);intro g_ S_;simp only [Ptr.add, List.set, splice, List.take, List.drop, List.nil_append, List.append_nil, List.cons_append, List.length_cons, List.length_nil, Nat.zero_add, Nat.add_zero, Nat.reduceAdd, Nat.reduceMul, Nat.mul_one, Int.toNat_zero, Int.toNat_one, Int.reduceToNat] at S_) | ((with_reducible first|apply St.al|apply St.alM);assumption;intro b_ g_ S_) | ((with_reducible refine ix_of ?_ ?_ ?_);exact of_decide_eq_true rfl;exact of_decide_eq_true rfl) | ((with_reducible first|refine nz_of ?_ ?_|refine nneg_of ?_ ?_);exact of_decide_eq_true rfl) | ((with_reducible refine chk_of ?_ ?_);rfl) | (with_reducible first|apply asI_of|apply asB_of|apply asP_of|apply asSl_of|apply asAggV_of|apply asTupV_of|apply asCons_of|apply asNil_of|apply isNil_n|apply isNil_i|apply nilC_i|apply nilCU_i|apply nilCU_f|apply mthC_i) | ((with_reducible refine And.intro ?_ ?_);rfl) | ((with_reducible apply exAnd);rfl))
    refine br_if (fun c => ?_) (fun c => ?_)
    · repeat (first | ((with_reducible first|apply St.rI|apply St.rB|apply St.rP|apply St.rSl|apply St.rV|apply St.rM|apply St.rS|apply St.rN|apply St.ckA);assumption;(first|exact i0|exact i1|exact i2|exact i3|exact i4|exact i5|exact i6|exact i7|exact i8|exact i9|exact i10|exact i11|exact i12|exact i13|exact i14|exact i15);(first|rfl|exact Nat.le_of_ble_eq_true rfl)) | with_reducible refine der_of ?_ | ((with_reducible refine br_t ?_ ?_);rfl) | ((with_reducible refine br_f ?_ ?_);rfl) | ((with_reducible refine br_t ?_ ?_);assumption) | ((with_reducible refine br_f ?_ ?_);assumption) | ((with_reducible first|apply St.wrL|apply St.wr);assumption;(first|exact i0|exact i1|exact i2|exact i3|exact i4|exact i5|exact i6|exact i7|exact i8|exact i9|exact i10|exact i11|exact i12|exact i13|exact i14|exact i15);(first|exact Nat.le_of_ble_eq_true rfl|rfl);intro g_ S_;simp only [Ptr.add, List.set, splice, List.take, List.drop, List.nil_append, List.append_nil, List.cons_append, List.length_cons, List.length_nil, Nat.zero_add, Nat.add_zero, Nat.reduceAdd, Nat.reduceMul, Nat.mul_one, Int.toNat_zero, Int.toNat_one, Int.reduceToNat] at S_) | ((with_reducible first|apply St.al|apply St.alM);assumption;intro b_ g_ S_) | ((with_reducible refine ix_of ?_ ?_ ?_);exact of_decide_eq_true rfl;exact of_decide_eq_true rfl) | ((with_reducible first|refine nz_of ?_ ?_|refine nneg_of ?_ ?_);exact of_decide_eq_true rfl) | ((with_reducible refine chk_of ?_ ?_);rfl) | (with_reducible first|apply asI_of|apply asB_of|apply asP_of|apply asSl_of|apply asAggV_of|apply asTupV_of|apply asCons_of|apply asNil_of|apply isNil_n|apply isNil_i|apply nilC_i|apply nilCU_i|apply nilCU_f|apply mthC_i) | ((with_reducible refine And.intro ?_ ?_);rfl) | ((with_reducible apply exAnd);rfl))
      refine br_if (fun c2 => ?_) (fun c2 => ?_)
      · unfold zf18.j3
        have := hq h2 S2.keeps
        rw [c, c2] at this; exact this
      · exact j4 (by rw [c, c2]; rfl)
    · exact j4 (by rw [c]; rfl)

/-! ## encoding, decoding -/

def encW (op rd rs1 rs2 : Int) : Int := ibits .or .u32 (ibits .or .u32 (ibits .or .u32 (shlI .u32 (IntKind.u32.wrap op) 26) (shlI .u32 (IntKind.u32.wrap rd) 22)) (shlI .u32 (IntKind.u32.wrap rs1) 18)) (shlI .u32 (IntKind.u32.wrap rs2) 14)
def encOf (op rd rs1 rs2 imm : Int) : Int × Int :=
  if validOf op rd rs1 rs2 imm = true then (wplace (encW op rd rs1 rs2) imm 0 (if (shapeOf op).getD 0 = 5 then 18 else 14), 0) else (0, 10)

theorem Encode_of {op rd rs1 rs2 imm : Int} {Q : Int → Int → Heap → Prop} (hq : ∀ h', Keeps none_ h h' → Q (encOf op rd rs1 rs2 imm).1 (encOf op rd rs1 rs2 imm).2 h') : zf16 op rd rs1 rs2 imm Q h := by
  unfold zf16
  have S := St.start h none_
  repeat (first | ((with_reducible first|apply St.rI|apply St.rB|apply St.rP|apply St.rSl|apply St.rV|apply St.rM|apply St.rS|apply St.rN|apply St.ckA);assumption;(first|exact i0|exact i1|exact i2|exact i3|exact i4|exact i5|exact i6|exact i7|exact i8|exact i9|exact i10|exact i11|exact i12|exact i13|exact i14|exact i15);(first|rfl|exact Nat.le_of_ble_eq_true rfl)) | with_reducible refine der_of ?_ | ((with_reducible refine br_t ?_ ?_);rfl) | ((with_reducible refine br_f ?_ ?_);rfl) | ((with_reducible refine br_t ?_ ?_);assumption) | ((with_reducible refine br_f ?_ ?_);assumption) | ((with_reducible first|apply St.wrL|apply St.wr);assumption;(first|exact i0|exact i1|exact i2|exact i3|exact i4|exact i5|exact i6|exact i7|exact i8|exact i9|exact i10|exact i11|exact i12|exact i13|exact i14|exact i15);(first|exact Nat.le_of_ble_eq_true rfl|rfl);intro g_ S_;simp only [Ptr.add, List.set, splice, List.take, List.drop, List.nil_append, List.append_nil, List.cons_append, List.length_cons, List.length_nil, Nat.zero_add, Nat.add_zero, Nat.reduceAdd, Nat.reduceMul, Nat.mul_one, Int.toNat_zero, Int.toNat_one, Int.reduceToNat] at S_) | ((with_reducible first|apply St.al|apply St.alM);assumption;intro b_ g_ S_) | ((with_reducible refine ix_of ?_ ?_ ?_);exact of_decide_eq_true rfl;exact of_decide_eq_true rfl) | ((with_reducible first|refine nz_of ?_ ?_|refine nneg_of ?_ ?_);exact of_decide_eq_true rfl) | ((with_reducible refine chk_of ?_ ?_);rfl) | (with_reducible first|apply asI_of|apply asB_of|apply asP_of|apply asSl_of|apply asAggV_of|apply asTupV_of|apply asCons_of|apply asNil_of|apply isNil_n|apply isNil_i|apply nilC_i|apply nilCU_i|apply nilCU_f|apply mthC_i) | ((with_reducible refine And.intro ?_ ?_);rfl) | ((with_reducible apply exAnd);rfl))
  refine Valid_of (fun h2 k2 => ?_)
  have S2 := St.keep ‹_› k2
  unfold encOf at hq
  refine br_if (fun c => ?_) (fun c => ?_)
  · have := hq h2 S2.keeps
    rw [if_neg (by simpa using c)] at this
    exact this
  · have c : validOf op rd rs1 rs2 imm = true := by simpa using c
    rw [if_pos c] at hq
    repeat (first | ((with_reducible first|apply St.rI|apply St.rB|apply St.rP|apply St.rSl|apply St.rV|apply St.rM|apply St.rS|apply St.rN|apply St.ckA);assumption;(first|exact i0|exact i1|exact i2|exact i3|exact i4|exact i5|exact i6|exact i7|exact i8|exact i9|exact i10|exact i11|exact i12|exact i13|exact i14|exact i15);(first|rfl|exact Nat.le_of_ble_eq_true rfl)) | with_reducible refine der_of ?_ | ((with_reducible refine br_t ?_ ?_);rfl) | ((with_reducible refine br_f ?_ ?_);rfl) | ((with_reducible refine br_t ?_ ?_);assumption) | ((with_reducible refine br_f ?_ ?_);assumption) | ((with_reducible first|apply St.wrL|apply St.wr);assumption;(first|exact i0|exact i1|exact i2|exact i3|exact i4|exact i5|exact i6|exact i7|exact i8|exact i9|exact i10|exact i11|exact i12|exact i13|exact i14|exact i15);(first|exact Nat.le_of_ble_eq_true rfl|rfl);intro g_ S_;simp only [Ptr.add, List.set, splice, List.take, List.drop, List.nil_append, List.append_nil, List.cons_append, List.length_cons, List.length_nil, Nat.zero_add, Nat.add_zero, Nat.reduceAdd, Nat.reduceMul, Nat.mul_one, Int.toNat_zero, Int.toNat_one, Int.reduceToNat] at S_) | ((with_reducible first|apply St.al|apply St.alM);assumption;intro b_ g_ S_) | ((with_reducible refine ix_of ?_ ?_ ?_);exact of_decide_eq_true rfl;exact of_decide_eq_true rfl) | ((with_reducible first|refine nz_of ?_ ?_|refine nneg_of ?_ ?_);exact of_decide_eq_true rfl) | ((with_reducible refine chk_of ?_ ?_);rfl) | (with_reducible first|apply asI_of|apply asB_of|apply asP_of|apply asSl_of|apply asAggV_of|apply asTupV_of|apply asCons_of|apply asNil_of|apply isNil_n|apply isNil_i|apply nilC_i|apply nilCU_i|apply nilCU_f|apply mthC_i) | ((with_reducible refine And.intro ?_ ?_);rfl) | ((with_reducible apply exAnd);rfl))
    unfold zf16.j4
    repeat (first | ((with_reducible first|apply St.rI|apply St.rB|apply St.rP|apply St.rSl|apply St.rV|apply St.rM|apply St.rS|apply St.rN|apply St.ckA);assumption;(first|exact i0|exact i1|exact i2|exact i3|exact i4|exact i5|exact i6|exact i7|exact i8|exact i9|exact i10|exact i11|exact i12|exact i13|exact i14|exact i15);(first|rfl|exact Nat.le_of_ble_eq_true rfl)) | with_reducible refine der_of ?_ | ((with_reducible refine br_t ?_ ?_);rfl) | ((with_reducible refine br_f ?_ ?_);rfl) | ((with_reducible refine br_t ?_ ?_);assumption) | ((with_reducible refine br_f ?_ ?_);assumption) | ((with_reducible first|apply St.wrL|apply St.wr);assumption;(first|exact i0|exact i1|exact i2|exact i3|exact i4|exact i5|exact i6|exact i7|exact i8|exact i9|exact i10|exact i11|exact i12|exact i13|exact i14|exact i15);(first|exact Nat.le_of_ble_eq_true rfl|rfl);intro g_ S_;simp only [Ptr.add, List.set, splice, List.take, List.drop, List.nil_append, List.append_nil, List.cons_append, List.length_cons, List.length_nil, Nat.zero_add, Nat.add_zero, Nat.reduceAdd, Nat.reduceMul, Nat.mul_one, Int.toNat_zero, Int.toNat_one, Int.reduceToNat] at S_) | ((with_reducible first|apply St.al|apply St.alM);assumption;intro b_ g_ S_) | ((with_reducible refine ix_of ?_ ?_ ?_);exact of_decide_eq_true rfl;exact of_decide_eq_true rfl) | ((with_reducible first|refine nz_of ?_ ?_|refine nneg_of ?_ ?_);exact of_decide_eq_true rfl) | ((with_reducible refine chk_of ?_ ?_);rfl) | (with_reducible first|apply asI_of|apply asB_of|apply asP_of|apply asSl_of|apply asAggV_of|apply asTupV_of|apply asCons_of|apply asNil_of|apply isNil_n|apply isNil_i|apply nilC_i|apply nilCU_i|apply nilCU_f|apply mthC_i) | ((with_reducible refine And.intro ?_ ?_);rfl) | ((with_reducible apply exAnd);rfl))
    refine Shape_of (fun h3 k3 => ?_)
    have S3 := St.keep ‹_› k3
    refine br_if (fun c5 => ?_) (fun c5 => ?_)
    · rw [if_pos (by simpa using c5)] at hq
      repeat (first | ((with_reducible first|apply St.rI|apply St.rB|apply St.rP|apply St.rSl|apply St.rV|apply St.rM|apply St.rS|apply St.rN|apply St.ckA);assumption;(first|exact i0|exact i1|exact i2|exact i3|exact i4|exact i5|exact i6|exact i7|exact i8|exact i9|exact i10|exact i11|exact i12|exact i13|exact i14|exact i15);(first|rfl|exact Nat.le_of_ble_eq_true rfl)) | with_reducible refine der_of ?_ | ((with_reducible refine br_t ?_ ?_);rfl) | ((with_reducible refine br_f ?_ ?_);rfl) | ((with_reducible refine br_t ?_ ?_);assumption) | ((with_reducible refine br_f ?_ ?_);assumption) | ((with_reducible first|apply St.wrL|apply St.wr);assumption;(first|exact i0|exact i1|exact i2|exact i3|exact i4|exact i5|exact i6|exact i7|exact i8|exact i9|exact i10|exact i11|exact i12|exact i13|exact i14|exact i15);(first|exact Nat.le_of_ble_eq_true rfl|rfl);intro g_ S_;simp only [Ptr.add, List.set, splice, List.take, List.drop, List.nil_append, List.append_nil, List.cons_append, List.length_cons, List.length_nil, Nat.zero_add, Nat.add_zero, Nat.reduceAdd, Nat.reduceMul, Nat.mul_one, Int.toNat_zero, Int.toNat_one, Int.reduceToNat] at S_) | ((with_reducible first|apply St.al|apply St.alM);assumption;intro b_ g_ S_) | ((with_reducible refine ix_of ?_ ?_ ?_);exact of_decide_eq_true rfl;exact of_decide_eq_true rfl) | ((with_reducible first|refine nz_of ?_ ?_|refine nneg_of ?_ ?_);exact of_decide_eq_true rfl) | ((with_reducible refine chk_of ?_ ?_);rfl) | (with_reducible first|apply asI_of|apply asB_of|apply asP_of|apply asSl_of|apply asAggV_of|apply asTupV_of|apply asCons_of|apply asNil_of|apply isNil_n|apply isNil_i|apply nilC_i|apply nilCU_i|apply nilCU_f|apply mthC_i) | ((with_reducible refine And.intro ?_ ?_);rfl) | ((with_reducible apply exAnd);rfl))
      exact Place_of rfl (by decide) (by decide) (hq _ (St.keeps ‹_›))
    · rw [if_neg (by simpa using c5)] at hq
      repeat (first | ((with_reducible first|apply St.rI|apply St.rB|apply St.rP|apply St.rSl|apply St.rV|apply St.rM|apply St.rS|apply St.rN|apply St.ckA);assumption;(first|exact i0|exact i1|exact i2|exact i3|exact i4|exact i5|exact i6|exact i7|exact i8|exact i9|exact i10|exact i11|exact i12|exact i13|exact i14|exact i15);(first|rfl|exact Nat.le_of_ble_eq_true rfl)) | with_reducible refine der_of ?_ | ((with_reducible refine br_t ?_ ?_);rfl) | ((with_reducible refine br_f ?_ ?_);rfl) | ((with_reducible refine br_t ?_ ?_);assumption) | ((with_reducible refine br_f ?_ ?_);assumption) | ((with_reducible first|apply St.wrL|apply St.wr);assumption;(first|exact i0|exact i1|exact i2|exact i3|exact i4|exact i5|exact i6|exact i7|exact i8|exact i9|exact i10|exact i11|exact i12|exact i13|exact i14|exact i15);(first|exact Nat.le_of_ble_eq_true rfl|rfl);intro g_ S_;simp only [Ptr.add, List.set, splice, List.take, List.drop, List.nil_append, List.append_nil, List.cons_append, List.length_cons, List.length_nil, Nat.zero_add, Nat.add_zero, Nat.reduceAdd, Nat.reduceMul, Nat.mul_one, Int.toNat_zero, Int.toNat_one, Int.reduceToNat] at S_) | ((with_reducible first|apply St.al|apply St.alM);assumption;intro b_ g_ S_) | ((with_reducible refine ix_of ?_ ?_ ?_);exact of_decide_eq_true rfl;exact of_decide_eq_true rfl) | ((with_reducible first|refine nz_of ?_ ?_|refine nneg_of ?_ ?_);exact of_decide_eq_true rfl) | ((with_reducible refine chk_of ?_ ?_);rfl) | (with_reducible first|apply asI_of|apply asB_of|apply asP_of|apply asSl_of|apply asAggV_of|apply asTupV_of|apply asCons_of|apply asNil_of|apply isNil_n|apply isNil_i|apply nilC_i|apply nilCU_i|apply nilCU_f|apply mthC_i) | ((with_reducible refine And.intro ?_ ?_);rfl) | ((with_reducible apply exAnd);rfl))
      exact Place_of rfl (by decide) (by decide) (hq _ (St.keeps ‹_›))

structure Dec where
  op : Int
  rd : Int
  rs1 : Int
  rs2 : Int
  imm : Int
  e : Int
  deriving DecidableEq

end
end Go.Insn

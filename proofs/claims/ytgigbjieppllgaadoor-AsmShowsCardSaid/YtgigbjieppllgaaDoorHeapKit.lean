/- Words on shallow memories: reading, writing, what is kept. -/
import Derived.Test.YtgigbjieppllgaaDoorLiftB
set_option linter.unusedSimpArgs false
set_option linter.unusedVariables false
set_option maxRecDepth 100000
namespace Go.Lift

theorem Heap.get_of_W {h : Heap} {b o : Nat} {v : V} (hg : h.getW b o = some v) : h.get b o = some v := by
  unfold Heap.getW at hg
  unfold Heap.get
  split at hg
  · rename_i l m hl; rw [hl]; exact hg
  · cases hg

theorem Heap.obj_of_W {h : Heap} {b o : Nat} {v : V} (hg : h.getW b o = some v) : h.obj b ≠ none := by
  unfold Heap.getW at hg
  intro hn
  rw [hn] at hg
  cases hg

theorem Heap.getW_set {h : Heap} {b o : Nat} {u v : V} (hg : h.getW b o = some u) (b' o' : Nat) : (h.set b o v).getW b' o' = if b' = b ∧ o' = o then some v else h.getW b' o' := by
  unfold Heap.getW at hg
  simp only [Heap.getW, Heap.set]
  by_cases hb : b' = b
  · subst hb
    simp only [if_true, true_and]
    cases hx : h.obj b' with
    | none => rw [hx] at hg; cases hg
    | some x =>
      rw [hx] at hg
      cases x with
      | map ks es bs c => cases hg
      | iter m a b c => cases hg
      | siter a b => cases hg
      | chan a b => cases hg
      | ro f => cases hg
      | cells l m =>
        simp only at hg
        simp only [Option.map_some, HO.set]
        by_cases ho : o' = o
        · subst ho
          rw [if_pos rfl, List.getElem?_set_self]
          rcases Nat.lt_or_ge o' l.length with h | h
          · exact h
          · rw [List.getElem?_eq_none h] at hg; cases hg
        · rw [if_neg ho, List.getElem?_set_ne (fun h => ho h.symm)]
  · simp [hb]

theorem Heap.obj_set {h : Heap} {b o : Nat} {v : V} {b' : Nat} (hb : b' ≠ b) : (h.set b o v).obj b' = h.obj b' := by
  simp [Heap.set, hb]

theorem Heap.getW_obj {h h' : Heap} {b : Nat} (e : h'.obj b = h.obj b) (o : Nat) : h'.getW b o = h.getW b o := by
  simp [Heap.getW, e]

theorem Heap.get_obj {h h' : Heap} {b : Nat} (e : h'.obj b = h.obj b) (o : Nat) : h'.get b o = h.get b o := by
  simp [Heap.get, e]

/-- All blocks that were known are as they were, but those of S, which are known still. -/
structure Keeps (S : Nat → Prop) (h h' : Heap) : Prop where
  same : ∀ b, h.obj b ≠ none → ¬ S b → h'.obj b = h.obj b
  known : ∀ b, h.obj b ≠ none → h'.obj b ≠ none

def none_ : Nat → Prop := fun _ => False

theorem Keeps.refl (S : Nat → Prop) (h : Heap) : Keeps S h h := ⟨fun _ _ _ => rfl, fun _ h => h⟩

theorem Keeps.trans {S : Nat → Prop} {a b c : Heap} (h : Keeps S a b) (k : Keeps S b c) : Keeps S a c :=
  ⟨fun x hx hs => (k.same x (h.known x hx) hs).trans (h.same x hx hs), fun x hx => k.known x (h.known x hx)⟩

theorem Keeps.mono {S S' : Nat → Prop} {a b : Heap} (h : Keeps S a b) (hs : ∀ x, S x → S' x) : Keeps S' a b :=
  ⟨fun x hx hn => h.same x hx (fun s => hn (hs x s)), h.known⟩

theorem Keeps.set {h : Heap} {b o : Nat} {u v : V} (hg : h.getW b o = some u) : Keeps (· = b) h (h.set b o v) := by
  refine ⟨fun x _ hs => Heap.obj_set hs, fun x hx => ?_⟩
  by_cases hb : x = b
  · subst hb
    simp only [Heap.set, if_true]
    cases hy : h.obj x with
    | none => exact absurd hy hx
    | some y => simp
  · rw [Heap.obj_set hb]; exact hx

theorem Keeps.new {S : Nat → Prop} {h : Heap} {b : Nat} (hb : h.obj b = none) (x : HO) : Keeps S h (h.new b x) := by
  refine ⟨fun y hy _ => ?_, fun y hy => ?_⟩ <;>
  · have : y ≠ b := fun e => hy (e ▸ hb)
    simp only [Heap.new, if_neg this]
    try exact hy

theorem Heap.new_obj {h : Heap} {b : Nat} {x : HO} : (h.new b x).obj b = some x := by simp [Heap.new]

theorem getW_cells {h : Heap} {b : Nat} {l : List V} {m : Bool} (e : h.obj b = some (.cells l m)) (o : Nat) : h.getW b o = l[o]? := by simp [Heap.getW, e]
theorem get_cells {h : Heap} {b : Nat} {l : List V} {m : Bool} (e : h.obj b = some (.cells l m)) (o : Nat) : h.get b o = l[o]? := by simp [Heap.get, e]

/-! ### steps -/

theorem rdI_of {k : IntKind} {p : Ptr} {κ : Int → Prop} {h : Heap} {x : Int} (hg : h.get p.b p.o = some (.int k x)) (hk : κ x) : rdI k p κ h := ⟨x, hg, hk⟩
theorem rdB_of {p : Ptr} {κ : Bool → Prop} {h : Heap} {x : Bool} (hg : h.get p.b p.o = some (.bool x)) (hk : κ x) : rdB p κ h := ⟨x, hg, hk⟩
theorem rdStr_of {p : Ptr} {κ : List UInt8 → Prop} {h : Heap} {x : List UInt8} (hg : h.get p.b p.o = some (.str x)) (hk : κ x) : rdStr p κ h := ⟨x, hg, hk⟩
theorem rdP_of {p : Ptr} {κ : Option Ptr → Prop} {h : Heap} {x : Option Ptr} (hg : h.get p.b p.o = some (.ptr x)) (hk : κ x) : rdP p κ h := ⟨x, hg, hk⟩
theorem rdSl_of {p : Ptr} {κ : Sl → Prop} {h : Heap} {x : Sl} (hg : h.get p.b p.o = some (.sl x)) (hk : κ x) : rdSl p κ h := ⟨x, hg, hk⟩
theorem rdM_of {p : Ptr} {κ : Option Nat → Prop} {h : Heap} {x : Option Nat} (hg : h.get p.b p.o = some (.map x)) (hk : κ x) : rdM p κ h := ⟨x, hg, hk⟩
theorem rdC_of {p : Ptr} {κ : Option Nat → Prop} {h : Heap} {x : Option Nat} (hg : h.get p.b p.o = some (.chan x)) (hk : κ x) : rdC p κ h := ⟨x, hg, hk⟩
theorem rdV_of {p : Ptr} {κ : V → Prop} {h : Heap} {x : V} (hg : h.get p.b p.o = some x) (hk : κ x) : rdV p κ h := ⟨x, hg, hk⟩
theorem wr_of {p : Ptr} {v u : V} {κ : Heap → Prop} {h : Heap} (hg : h.getW p.b p.o = some u) (hk : κ (h.set p.b p.o v)) : wr p v κ h := ⟨⟨u, hg⟩, hk⟩

theorem br_if {c : Bool} {A B : Prop} (h1 : c = true → A) (h2 : c = false → B) : br c A B := by
  cases c
  · exact h2 rfl
  · exact h1 rfl

theorem br_f {c : Bool} {A B : Prop} (h : c = false) (hB : B) : br c A B := by rw [h]; exact hB
theorem br_t {c : Bool} {A B : Prop} (h : c = true) (hA : A) : br c A B := by rw [h]; exact hA

theorem ix_of {i : Int} {n : Nat} {κ : Nat → Prop} (h0 : 0 ≤ i) (h1 : i < n) (hk : κ i.toNat) : ix i n κ := ⟨h0, h1, hk⟩

theorem br_true {A B : Prop} : br true A B = A := rfl
theorem br_false {A B : Prop} : br false A B = B := rfl
theorem der_some {p : Ptr} {κ : Ptr → Prop} : der (some p) κ = κ p := rfl

/-- A local variable that is laid and filled at once. -/
theorem al_wrL {z vs : List V} {κ : Nat → Heap → Prop} {h : Heap} (hl : z.length = vs.length) (hk : ∀ b h', h.obj b = none → h'.obj b = some (.cells vs false) → Keeps none_ h h' → κ b h') :
    al z (fun b h => wrL vs ⟨b, 0⟩ 0 (κ b) h) h := by
  intro b hb
  have key : ∀ (vs pre z : List V) (h1 : Heap), z.length = vs.length → h1.obj b = some (.cells (pre ++ z) false) → Keeps none_ h h1 →
      (∀ h', h'.obj b = some (.cells (pre ++ vs) false) → Keeps none_ h h' → κ b h') → wrL vs ⟨b, 0⟩ pre.length (κ b) h1 := by
    intro vs
    induction vs with
    | nil =>
      intro pre z h1 hz ho hk1 hk
      have : z = [] := List.length_eq_zero_iff.1 (by simpa using hz)
      subst this
      exact hk h1 ho hk1
    | cons v vs ih =>
      intro pre z h1 hz ho hk1 hk
      cases z with
      | nil => simp at hz
      | cons u z =>
        have hg : h1.getW b (0 + pre.length) = some u := by rw [getW_cells ho]; simp
        refine wr_of (p := (⟨b, 0⟩ : Ptr).add pre.length) hg ?_
        have := ih (pre ++ [v]) z (h1.set b (0 + pre.length) v) (by simpa using hz) (by simp [Heap.set, ho, HO.set]) ?_ ?_
        · have e : ((⟨b, 0⟩ : Ptr).add pre.length).o = 0 + pre.length := rfl
          show wrL vs ⟨b, 0⟩ (pre.length + 1) (κ b) (h1.set b (0 + pre.length) v)
          simpa using this
        · refine ⟨fun x hx hs => ?_, fun x hx => (Keeps.set hg).known x (hk1.known x hx)⟩
          have hne : x ≠ b := fun e => hx (e ▸ hb)
          rw [Heap.obj_set hne]
          exact hk1.same x hx hs
        · intro h' ho' hk'
          exact hk h' (by simpa using ho') hk'
  exact key vs [] z _ hl (by simp [Heap.new]) (Keeps.new hb _) (fun h' ho hk' => hk b h' hb (by simpa using ho) hk')

theorem al_of {z : List V} {κ : Nat → Heap → Prop} {h : Heap} (hk : ∀ b h', h.obj b = none → h'.obj b = some (.cells z false) → Keeps none_ h h' → κ b h') : al z κ h :=
  fun b hb => hk b _ hb Heap.new_obj (Keeps.new hb _)

end Go.Lift

namespace Go.Lift

theorem loc_I {l : List V} {m : Bool} {b o : Nat} {k : IntKind} {x : Int} {κ : Int → Prop} {h : Heap} (ho : h.obj b = some (.cells l m)) (hx : l[o]? = some (.int k x)) (hk : κ x) : rdI k ⟨b, o⟩ κ h := rdI_of ((get_cells ho _).trans hx) hk
theorem loc_B {l : List V} {m : Bool} {b o : Nat} {x : Bool} {κ : Bool → Prop} {h : Heap} (ho : h.obj b = some (.cells l m)) (hx : l[o]? = some (.bool x)) (hk : κ x) : rdB ⟨b, o⟩ κ h := rdB_of ((get_cells ho _).trans hx) hk
theorem loc_Str {l : List V} {m : Bool} {b o : Nat} {x : List UInt8} {κ : List UInt8 → Prop} {h : Heap} (ho : h.obj b = some (.cells l m)) (hx : l[o]? = some (.str x)) (hk : κ x) : rdStr ⟨b, o⟩ κ h := rdStr_of ((get_cells ho _).trans hx) hk
theorem loc_P {l : List V} {m : Bool} {b o : Nat} {x : Option Ptr} {κ : Option Ptr → Prop} {h : Heap} (ho : h.obj b = some (.cells l m)) (hx : l[o]? = some (.ptr x)) (hk : κ x) : rdP ⟨b, o⟩ κ h := rdP_of ((get_cells ho _).trans hx) hk
theorem loc_Sl {l : List V} {m : Bool} {b o : Nat} {x : Sl} {κ : Sl → Prop} {h : Heap} (ho : h.obj b = some (.cells l m)) (hx : l[o]? = some (.sl x)) (hk : κ x) : rdSl ⟨b, o⟩ κ h := rdSl_of ((get_cells ho _).trans hx) hk
theorem loc_wr {l : List V} {b o : Nat} {u v : V} {κ : Heap → Prop} {h : Heap} (ho : h.obj b = some (.cells l false)) (hx : l[o]? = some u) (hk : ∀ h', h'.obj b = some (.cells (l.set o v) false) → Keeps (· = b) h h' → κ h') : wr ⟨b, o⟩ v κ h := by
  have hg : h.getW b o = some u := (getW_cells ho _).trans hx
  exact wr_of (p := ⟨b, o⟩) hg (hk _ (by simp [Heap.set, ho, HO.set]) (Keeps.set hg))

theorem Keeps.obj {S : Nat → Prop} {h h' : Heap} {b : Nat} {x : HO} (k : Keeps S h h') (e : h.obj b = some x) (hs : ¬ S b) : h'.obj b = some x := (k.same b (by rw [e]; simp) hs).trans e
theorem Keeps.ne {S : Nat → Prop} {h h' : Heap} {b c : Nat} (k : Keeps S h h') (hb : h.obj b ≠ none) (hc : h'.obj c = none) : b ≠ c := fun e => k.known b hb (e ▸ hc)

theorem all_range {n : Nat} {p : Nat → Bool} (h : (List.range n).all p = true) {i : Nat} (hi : i < n) : p i = true := List.all_eq_true.1 h i (List.mem_range.2 hi)

/-- A row of integers. -/
def IntArr (k : IntKind) (n : Nat) (p : Ptr) (f : Nat → Int) (h : Heap) : Prop := ∀ i, i < n → h.getW p.b (p.o + i * 1) = some (.int k (f i))

section
variable {k : IntKind} {n : Nat} {p : Ptr} {f : Nat → Int} {h h' : Heap}
theorem IntArr.stay (R : IntArr k n p f h) (e : h'.obj p.b = h.obj p.b) : IntArr k n p f h' := fun i hi => (Heap.getW_obj e _).trans (R i hi)
theorem IntArr.known (R : IntArr k n p f h) (hn : 0 < n) : h.obj p.b ≠ none := Heap.obj_of_W (R 0 hn)
theorem IntArr.keeps {S : Nat → Prop} (R : IntArr k n p f h) (hk : Keeps S h h') (hn : 0 < n) (hs : ¬ S p.b) : IntArr k n p f h' := R.stay (hk.same _ (R.known hn) hs)
theorem IntArr.rd (R : IntArr k n p f h) {i : Nat} (hi : i < n) {κ : Int → Prop} (hk : κ (f i)) : rdI k (p.add (i * 1)) κ h := rdI_of (Heap.get_of_W (R i hi)) hk
theorem IntArr.wr (R : IntArr k n p f h) {i : Nat} (hi : i < n) {x : Int} {κ : Heap → Prop} (hk : ∀ h', IntArr k n p (fun j => if j = i then x else f j) h' → Keeps (· = p.b) h h' → κ h') : wr (p.add (i * 1)) (.int k x) κ h := by
  have hg := R i hi
  refine wr_of hg (hk _ ?_ (Keeps.set hg))
  intro j hj
  refine (Heap.getW_set hg _ _).trans ?_
  by_cases e : j = i
  · subst e; rw [if_pos ⟨rfl, rfl⟩]; simp
  · rw [if_neg (by rintro ⟨_, e2⟩; omega)]; simp only [if_neg e]; exact R j hj
theorem IntArr.zeros {b : Nat} {l : List V} (ho : h.obj b = some (.cells l false)) (hl : (List.range n).all (fun i => match l[i]? with | some (.int k' x) => decide (k' = k) && x == 0 | _ => false) = true) : IntArr k n ⟨b, 0⟩ (fun _ => 0) h := by
  intro i hi
  have := all_range hl hi
  rw [getW_cells ho]
  simp only [Nat.zero_add, Nat.mul_one]
  split at this
  · rename_i k' x hx
    simp only [Bool.and_eq_true, decide_eq_true_eq, beq_iff_eq] at this
    rw [hx, this.1, this.2]
  · cases this
end

/-! ### records from lists -/

def intAt (l : List V) (o : Nat) : Int := match l[o]? with | some (.int _ n) => n | _ => 0
def boolAt (l : List V) (o : Nat) : Bool := match l[o]? with | some (.bool b) => b | _ => false
def strAt (l : List V) (o : Nat) : List UInt8 := match l[o]? with | some (.str b) => b | _ => []
def ptrAt (l : List V) (o : Nat) : Option Ptr := match l[o]? with | some (.ptr b) => b | _ => none
def slAt (l : List V) (o : Nat) : Sl := match l[o]? with | some (.sl b) => b | _ => ⟨none, 0, 0⟩
def mapAt (l : List V) (o : Nat) : Option Nat := match l[o]? with | some (.map b) => b | _ => none
def chanAt (l : List V) (o : Nat) : Option Nat := match l[o]? with | some (.chan b) => b | _ => none
def vAt (l : List V) (o : Nat) : V := match l[o]? with | some v => v | _ => .nilif

def isI (k : IntKind) : Option V → Bool | some (.int k' _) => decide (k' = k) | _ => false
def isB : Option V → Bool | some (.bool _) => true | _ => false
def isS : Option V → Bool | some (.str _) => true | _ => false
def isP : Option V → Bool | some (.ptr _) => true | _ => false
def isSl : Option V → Bool | some (.sl _) => true | _ => false
def isM : Option V → Bool | some (.map _) => true | _ => false
def isC : Option V → Bool | some (.chan _) => true | _ => false
def isV : Option V → Bool | some _ => true | _ => false

theorem at_isI {k : IntKind} {l : List V} {o o' : Nat} (h : isI k l[o]? = true) (e : o = o' := by omega) : l[o']? = some (.int k (intAt l o)) := by
  subst e; unfold isI at h; split at h
  · rename_i k' n hn; have : k' = k := by simpa using h
    subst this; simp [intAt, hn]
  · cases h
theorem at_isB {l : List V} {o o' : Nat} (h : isB l[o]? = true) (e : o = o' := by omega) : l[o']? = some (.bool (boolAt l o)) := by
  subst e; unfold isB at h; split at h
  · rename_i hn; simp [boolAt, hn]
  · cases h
theorem at_isS {l : List V} {o o' : Nat} (h : isS l[o]? = true) (e : o = o' := by omega) : l[o']? = some (.str (strAt l o)) := by
  subst e; unfold isS at h; split at h
  · rename_i hn; simp [strAt, hn]
  · cases h
theorem at_isP {l : List V} {o o' : Nat} (h : isP l[o]? = true) (e : o = o' := by omega) : l[o']? = some (.ptr (ptrAt l o)) := by
  subst e; unfold isP at h; split at h
  · rename_i hn; simp [ptrAt, hn]
  · cases h
theorem at_isSl {l : List V} {o o' : Nat} (h : isSl l[o]? = true) (e : o = o' := by omega) : l[o']? = some (.sl (slAt l o)) := by
  subst e; unfold isSl at h; split at h
  · rename_i hn; simp [slAt, hn]
  · cases h
theorem at_isM {l : List V} {o o' : Nat} (h : isM l[o]? = true) (e : o = o' := by omega) : l[o']? = some (.map (mapAt l o)) := by
  subst e; unfold isM at h; split at h
  · rename_i hn; simp [mapAt, hn]
  · cases h
theorem at_isC {l : List V} {o o' : Nat} (h : isC l[o]? = true) (e : o = o' := by omega) : l[o']? = some (.chan (chanAt l o)) := by
  subst e; unfold isC at h; split at h
  · rename_i hn; simp [chanAt, hn]
  · cases h
theorem at_isV {l : List V} {o o' : Nat} (h : isV l[o]? = true) (e : o = o' := by omega) : l[o']? = some (vAt l o) := by
  subst e; unfold isV at h; split at h
  · rename_i hn; simp [vAt, hn]
  · cases h

theorem rdN_of {n : Nat} {p : Ptr} {κ : List V → Prop} {h : Heap} (hs : ∀ i, i < n → ∃ v, h.get p.b (p.o + i) = some v) (hk : ∀ cs : List V, cs.length = n → (∀ i, i < n → h.get p.b (p.o + i) = cs[i]?) → κ cs) : rdN n p κ h := by
  have : ∀ m, m ≤ n → ∃ cs : List V, cs.length = m ∧ ∀ i, i < m → h.get p.b (p.o + i) = cs[i]? := by
    intro m
    induction m with
    | zero => intro _; exact ⟨[], rfl, by simp⟩
    | succ m ih =>
      intro hm
      obtain ⟨cs, hl, hc⟩ := ih (by omega)
      obtain ⟨v, hv⟩ := hs m (by omega)
      refine ⟨cs ++ [v], by simp [hl], ?_⟩
      intro i hi
      by_cases e : i = m
      · subst e; rw [hv, ← hl]; simp
      · rw [List.getElem?_append_left (by omega)]; exact hc i (by omega)
  obtain ⟨cs, hl, hc⟩ := this n (Nat.le_refl _)
  exact ⟨cs, hl, hc, hk cs hl hc⟩

theorem take_drop_get {l : List V} {a m k : Nat} (h : k < m) : ((l.drop a).take m)[k]? = l[a + k]? := by
  rw [List.getElem?_take_of_lt h, List.getElem?_drop]

end Go.Lift

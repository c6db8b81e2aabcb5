/- Rows of cells: slices that are read, slices of one's own, strings, maps. -/
import Derived.Test.YtgigbjieppllgaaDoorHeapKit
set_option linter.unusedSimpArgs false
set_option linter.unusedVariables false
set_option maxRecDepth 100000
namespace Go.Lift

theorem chk_of {b : Bool} {A : Prop} (h : b = true) (hA : A) : chk b A := by rw [h]; exact hA
theorem sb_of {i : Int} {n : Nat} {κ : Nat → Prop} (h0 : 0 ≤ i) (h1 : i ≤ n) (hk : κ i.toNat) : sb i n κ := ⟨h0, h1, hk⟩
theorem nz_of {x : Int} {A : Prop} (h : x ≠ 0) (hA : A) : nz x A := ⟨h, hA⟩
theorem nneg_of {x : Int} {A : Prop} (h : 0 ≤ x) (hA : A) : nneg x A := ⟨h, hA⟩

theorem loc_M {l : List V} {m : Bool} {b o : Nat} {x : Option Nat} {κ : Option Nat → Prop} {h : Heap} (ho : h.obj b = some (.cells l m)) (hx : l[o]? = some (.map x)) (hk : κ x) : rdM ⟨b, o⟩ κ h := rdM_of ((get_cells ho _).trans hx) hk

theorem Heap.ne_of {h : Heap} {a b : Nat} {x : HO} (ha : h.obj a = some x) (hb : h.obj b = none) : a ≠ b := fun e => by rw [e, hb] at ha; cases ha

/-- A local variable is laid, then written. -/
theorem Keeps.widen' {h h1 h2 : Heap} {b : Nat} (k1 : Keeps none_ h h1) (k2 : Keeps (· = b) h1 h2) (hb : h.obj b = none) : Keeps none_ h h2 := by
  refine ⟨fun y hy _ => ?_, fun y hy => k2.known y (k1.known y hy)⟩
  rw [k2.same y (k1.known y hy) (fun e => hy (e ▸ hb))]
  exact k1.same y hy (fun f => f)

/-- A slice whose cells are known. -/
structure Held (h : Heap) (s : Sl) (sz : Nat) (vs : List V) : Prop where
  len : vs.length = s.len * sz
  row : ∀ p, s.p = some p → ∀ i v, vs[i]? = some v → h.get p.b (p.o + i) = some v
  nil : s.p = none → s.len = 0

/-- The block of a slice. -/
def Sl.at (s : Sl) (b : Nat) : Prop := ∃ p, s.p = some p ∧ p.b = b

theorem Held.keeps {S : Nat → Prop} {h h' : Heap} {s : Sl} {sz : Nat} {vs : List V} (H : Held h s sz vs) (k : Keeps S h h') (hs : ∀ p, s.p = some p → ¬ S p.b) : Held h' s sz vs := by
  refine ⟨H.len, fun p hp i v hv => ?_, H.nil⟩
  have hg := H.row p hp i v hv
  have hn : h.obj p.b ≠ none := by
    intro hn; unfold Heap.get at hg; rw [hn] at hg; cases hg
  rw [Heap.get_obj (k.same p.b hn (hs p hp))]; exact hg

theorem Held.keepsE {S : Nat → Prop} {h h' : Heap} {s : Sl} {sz : Nat} {vs : List V} (H : Held h s sz vs) (k : Keeps S h h') (hs : vs ≠ [] → ∀ p, s.p = some p → ¬ S p.b) : Held h' s sz vs := by
  by_cases e : vs = []
  · subst e; exact ⟨H.len, fun p _ i v hv => (by cases hv), H.nil⟩
  · exact H.keeps k (hs e)

theorem Held.known {h : Heap} {s : Sl} {sz : Nat} {vs : List V} (H : Held h s sz vs) (hne : vs ≠ []) (p : Ptr) (hp : s.p = some p) : h.obj p.b ≠ none := by
  cases vs with
  | nil => exact absurd rfl hne
  | cons v vs =>
    have := H.row p hp 0 v rfl
    intro hn
    unfold Heap.get at this
    rw [hn] at this
    cases this

theorem Held.empty {h : Heap} {sz : Nat} : Held h ⟨none, 0, 0⟩ sz [] := ⟨by simp, fun p hp => (by cases hp), fun _ => rfl⟩

theorem rdN_held {h : Heap} {n : Nat} {p : Ptr} {vs : List V} {κ : List V → Prop} (hl : vs.length = n) (hr : ∀ i v, vs[i]? = some v → h.get p.b (p.o + i) = some v) (hk : κ vs) : rdN n p κ h := by
  refine ⟨vs, hl, fun i hi => ?_, hk⟩
  rw [List.getElem?_eq_getElem (by omega)]
  exact hr i _ (List.getElem?_eq_getElem (by omega))

theorem cellsS_of {h : Heap} {s : Sl} {sz : Nat} {vs : List V} {κ : List V → Prop} (H : Held h s sz vs) (hk : κ vs) : cellsS sz s κ h := by
  unfold cellsS
  cases hp : s.p with
  | none =>
    have h0 := H.nil hp
    have : vs = [] := List.length_eq_zero_iff.1 (by rw [H.len, h0]; simp)
    subst this
    exact ⟨h0, hk⟩
  | some p => exact rdN_held H.len (H.row p hp) hk

/-- A slice of one's own: its block is known, and begins with it. -/
structure Own (h : Heap) (s : Sl) (sz : Nat) (vs : List V) (b : Nat) : Prop where
  p : s.p = some ⟨b, 0⟩
  cap : s.len ≤ s.cap
  len : vs.length = s.len * sz
  obj : ∃ rest mk, h.obj b = some (.cells (vs ++ rest) mk) ∧ rest.length = (s.cap - s.len) * sz

section
variable {h h' : Heap} {s : Sl} {sz : Nat} {vs : List V} {b : Nat}

theorem Own.held (O : Own h s sz vs b) : Held h s sz vs := by
  refine ⟨O.len, fun p hp i v hv => ?_, fun hp => by rw [O.p] at hp; cases hp⟩
  rw [O.p] at hp; cases hp
  obtain ⟨rest, mk, ho, _⟩ := O.obj
  rw [get_cells ho, Nat.zero_add]
  rcases Nat.lt_or_ge i vs.length with h | h
  · rw [List.getElem?_append_left h]; exact hv
  · rw [List.getElem?_eq_none h] at hv; cases hv

theorem Own.known (O : Own h s sz vs b) : h.obj b ≠ none := by obtain ⟨rest, mk, ho, _⟩ := O.obj; rw [ho]; simp

theorem Own.stay (O : Own h s sz vs b) (e : h'.obj b = h.obj b) : Own h' s sz vs b := by
  obtain ⟨rest, mk, ho, hr⟩ := O.obj
  exact ⟨O.p, O.cap, O.len, rest, mk, by rw [e]; exact ho, hr⟩

theorem Own.keeps {S : Nat → Prop} (O : Own h s sz vs b) (k : Keeps S h h') (hs : ¬ S b) : Own h' s sz vs b := O.stay (k.same b O.known hs)

end

/-- What stands at o in a list is replaced by so many others. -/
def splice (L : List V) (o : Nat) (vs : List V) : List V := L.take o ++ vs ++ L.drop (o + vs.length)

theorem splice_length {L vs : List V} {o : Nat} (hl : o + vs.length ≤ L.length) : (splice L o vs).length = L.length := by
  simp [splice]; omega

theorem splice_get {L vs : List V} {o : Nat} (hl : o + vs.length ≤ L.length) (i : Nat) : (splice L o vs)[i]? = if o ≤ i ∧ i < o + vs.length then vs[i - o]? else L[i]? := by
  unfold splice
  by_cases h1 : i < o
  · rw [List.append_assoc, List.getElem?_append_left (by simp; omega), List.getElem?_take_of_lt h1, if_neg (by omega)]
  · have ht : (L.take o).length = o := by simp; omega
    by_cases h2 : i < o + vs.length
    · rw [List.append_assoc, List.getElem?_append_right (by omega), ht, List.getElem?_append_left (by omega), if_pos (by omega)]
    · rw [List.getElem?_append_right (by simp; omega)]
      simp only [List.length_append, ht, List.getElem?_drop]
      rw [if_neg (by omega)]
      congr 1; omega

theorem splice_set {L vs : List V} {v : V} {o : Nat} (hl : o + (vs.length + 1) ≤ L.length) : splice (L.set o v) (o + 1) vs = splice L o (v :: vs) := by
  apply List.ext_getElem?
  intro i
  rw [splice_get (by simp; omega), splice_get (by simpa using hl)]
  simp only [List.length_cons]
  by_cases h1 : i = o
  · subst h1
    rw [if_neg (by omega), if_pos (by omega), List.getElem?_set_self (by omega)]
    simp
  · by_cases h2 : o + 1 ≤ i ∧ i < o + 1 + vs.length
    · rw [if_pos h2, if_pos (by omega)]
      have : i - o = (i - (o + 1)) + 1 := by omega
      rw [this, List.getElem?_cons_succ]
    · rw [if_neg h2, if_neg (by omega), List.getElem?_set_ne (by omega)]

theorem wrL_of {κ : Heap → Prop} : ∀ {vs L : List V} {mk : Bool} {b o j : Nat} {h : Heap}, h.obj b = some (.cells L mk) → o + j + vs.length ≤ L.length → (∀ h', h'.obj b = some (.cells (splice L (o + j) vs) mk) → Keeps (· = b) h h' → κ h') → wrL vs ⟨b, o⟩ j κ h := by
  intro vs
  induction vs with
  | nil =>
    intro L mk b o j h ho hl hk
    exact hk h (by simpa [splice] using ho) (Keeps.refl _ _)
  | cons v vs ih =>
    intro L mk b o j h ho hl hk
    simp only [List.length_cons] at hl
    have hg : h.getW b (o + j) = some (L[o + j]'(by omega)) := by rw [getW_cells ho]; exact List.getElem?_eq_getElem (by omega)
    refine wr_of (p := (⟨b, o⟩ : Ptr).add j) hg ?_
    refine ih (L := L.set (o + j) v) (mk := mk) ?_ (by simp; omega) ?_
    · show (h.set b (o + j) v).obj b = _
      simp [Heap.set, ho, HO.set]
    · intro h' ho' hk'
      refine hk h' ?_ ((Keeps.set hg).trans hk')
      rw [ho', ← splice_set (by omega)]
      rfl

section
variable {h : Heap} {s : Sl} {sz : Nat} {vs new : List V} {b m bytes : Nat} {z : List V}

theorem flatRep_length (n : Nat) (z : List V) : (flatRep n z).length = n * z.length := by
  simp [flatRep]

/-- append to a slice of one's own -/
theorem appS_own {κ : Sl → Heap → Prop} (O : Own h s sz vs b) (hnew : new.length = m * sz) (hz : z.length = sz) (hb : (s.len + m) * bytes ≤ 140737488355328) (hm : s.len + m ≤ 9223372036854775807)
    (hk : ∀ s' h' b', Own h' s' sz (vs ++ new) b' → s'.len = s.len + m → (b' = b ∨ h.obj b' = none) → Keeps (· = b) h h' → κ s' h') : appS sz bytes z s new m κ h := by
  obtain ⟨rest, mk, ho, hr⟩ := O.obj
  have hlen := O.len
  unfold appS
  by_cases hc : s.len + m ≤ s.cap
  · rw [if_pos hc, O.p]
    simp only
    have hmul : (s.len + m) * sz ≤ s.cap * sz := Nat.mul_le_mul_right _ hc
    have hrl : rest.length = s.cap * sz - s.len * sz := by rw [hr, Nat.sub_mul]
    rw [Nat.add_mul] at hmul
    refine wrL_of (b := b) (o := 0 + s.len * sz) ho (by simp; omega) ?_
    intro h' ho' hk'
    refine hk _ h' b ?_ rfl (.inl rfl) hk'
    refine ⟨rfl, hc, by simp [hnew, hlen, Nat.add_mul], rest.drop new.length, mk, ?_, ?_⟩
    · rw [ho']
      congr 2
      unfold splice
      rw [Nat.add_zero, Nat.zero_add, ← hlen, List.take_left, List.drop_append]
      simp
    · simp only [List.length_drop, hnew, hr]; rw [← Nat.sub_mul]; congr 1; omega
  · rw [if_neg hc]
    refine ⟨hb, hm, ?_⟩
    rw [O.p]
    refine rdN_held O.len (O.held.row _ O.p) ?_
    intro c hcc b' hb'
    refine hk _ _ b' ?_ rfl (.inr hb') (Keeps.new hb' _)
    exact ⟨rfl, hcc, by simp [hnew, hlen, Nat.add_mul], flatRep (c - (s.len + m)) z, false, by simp [Heap.new], by rw [flatRep_length, hz]⟩

/-- append to nil -/
theorem appS_nil {κ : Sl → Heap → Prop} (hnew : new.length = m * sz) (h0 : 0 < m) (hz : z.length = sz) (hb : m * bytes ≤ 140737488355328) (hm : m ≤ 9223372036854775807)
    (hk : ∀ s' h' b', Own h' s' sz new b' → s'.len = m → h.obj b' = none → Keeps none_ h h' → κ s' h') : appS sz bytes z ⟨none, 0, 0⟩ new m κ h := by
  unfold appS
  rw [if_neg (by simp; omega)]
  refine ⟨by show (0 + m) * bytes ≤ _; rw [Nat.zero_add]; exact hb, by show 0 + m ≤ _; rw [Nat.zero_add]; exact hm, rfl, ?_⟩
  intro c hc b' hb'
  refine hk _ _ b' ?_ (by simp) hb' (Keeps.new hb' _)
  exact ⟨rfl, hc, by simp [hnew], flatRep (c - (0 + m)) z, false, by simp [Heap.new], by rw [flatRep_length, hz]⟩

/-- append(T{}, x...): a copy -/
theorem copy_of {κ : Sl → Heap → Prop} {n : Nat} (hnew : new.length = n * sz) (hz : z.length = sz) (hb : n * bytes ≤ 140737488355328) (hm : n ≤ 9223372036854775807)
    (hk : ∀ s' h' b', Own h' s' sz new b' → s'.len = n → h.obj b' = none → Keeps none_ h h' → κ s' h') {b : Nat} (hbn : h.obj b = none) : appS sz bytes z ⟨some ⟨b, 0⟩, 0, 0⟩ new n κ (h.new b (.cells [] false)) := by
  have kb : Keeps none_ h (h.new b (.cells [] false)) := Keeps.new hbn _
  refine appS_own (vs := []) (b := b) ⟨rfl, Nat.le_refl _, by simp, [], false, by simp [Heap.new], by simp⟩ hnew hz (by show (0 + n) * bytes ≤ _; rw [Nat.zero_add]; exact hb) (by show 0 + n ≤ _; rw [Nat.zero_add]; exact hm) ?_
  intro s' h' b' O hl hbb hk'
  have hbn' : h.obj b' = none := by
    rcases hbb with rfl | hbb
    · exact hbn
    · cases hx : h.obj b' with
      | none => rfl
      | some x => exact absurd hbb (kb.known b' (by rw [hx]; simp))
  refine hk s' h' b' (by simpa using O) (by simpa using hl) hbn' ⟨fun x hx _ => ?_, fun x hx => hk'.known x (kb.known x hx)⟩
  have hne : x ≠ b := fun e => hx (e ▸ hbn)
  rw [hk'.same x (kb.known x hx) hne]
  exact kb.same x hx (fun f => f)

theorem mkSl_of {κ : Sl → Heap → Prop} {n : Nat} (hz : z.length = sz) (hb : bytes * n ≤ 281474976710656) (hm : n ≤ 9223372036854775807)
    (hk : ∀ h' b', Own h' ⟨some ⟨b', 0⟩, n, n⟩ sz (flatRep n z) b' → h.obj b' = none → Keeps none_ h h' → κ ⟨some ⟨b', 0⟩, n, n⟩ h') : mkSl bytes z n n κ h := by
  refine ⟨by omega, by omega, by omega, by rw [← Int.natCast_mul]; exact Int.ofNat_le.2 hb, ?_⟩
  intro b' hb'
  have e : ((n : Int)).toNat = n := by omega
  rw [e]
  exact hk _ b' ⟨rfl, Nat.le_refl _, by rw [flatRep_length, hz], [], false, by simp [Heap.new], by simp⟩ hb' (Keeps.new hb' _)

/-- copy into a block of one's own -/
theorem copyS_of {κ : Int → Heap → Prop} {d : Sl} {o : Nat} {L cs : List V} {mk : Bool} (hp : d.p = some ⟨b, o⟩) (ho : h.obj b = some (.cells L mk)) (hl : o + (cs.take (min m d.len * sz)).length ≤ L.length)
    (hk : ∀ h', h'.obj b = some (.cells (splice L o (cs.take (min m d.len * sz))) mk) → Keeps (· = b) h h' → κ (min m d.len : Nat) h') : copyS sz d cs m κ h := by
  unfold copyS
  rw [hp]
  refine wrL_of (j := 0) ho (by simpa using hl) ?_
  intro h' ho' hk'
  exact hk h' (by simpa using ho') hk'

theorem clearS_of {κ : Heap → Prop} {d : Sl} {o : Nat} {L : List V} {mk : Bool} (hp : d.p = some ⟨b, o⟩) (ho : h.obj b = some (.cells L mk)) (hl : o + (flatRep d.len z).length ≤ L.length)
    (hk : ∀ h', h'.obj b = some (.cells (splice L o (flatRep d.len z)) mk) → Keeps (· = b) h h' → κ h') : clearS z d κ h := by
  unfold clearS
  rw [hp]
  refine wrL_of (j := 0) ho (by simpa using hl) ?_
  intro h' ho' hk'
  exact hk h' (by simpa using ho') hk'

end

/-! ### bytes -/

theorem u8_ofNat (b : UInt8) : UInt8.ofNat ((b.toNat : Int)).toNat = b := by simp

theorem bytesOf_str (s : List UInt8) (κ : List UInt8 → Prop) : bytesOf (strCells s) κ = κ s := by
  induction s generalizing κ with
  | nil => rfl
  | cons b s ih =>
    show bytesOf (strCells s) (fun s => κ (UInt8.ofNat ((b.toNat : Int)).toNat :: s)) = _
    rw [ih, u8_ofNat]

theorem strCells_length (s : List UInt8) : (strCells s).length = s.length := by simp [strCells]
theorem strCells_append (a b : List UInt8) : strCells (a ++ b) = strCells a ++ strCells b := by simp [strCells]
theorem strCells_get (s : List UInt8) (i : Nat) : (strCells s)[i]? = s[i]?.map (fun b => V.int .u8 b.toNat) := by simp [strCells]
theorem flatRep_bytes (n : Nat) : flatRep n [.int .u8 0] = strCells (List.replicate n 0) := by
  induction n with
  | zero => rfl
  | succ n ih =>
    simp only [flatRep, List.replicate_succ, List.flatten_cons, strCells, List.map_cons] at ih ⊢
    rw [ih]; rfl

/-! ### maps whose keys are numbers -/

def ikeys (k : IntKind) (l : List (Int × V)) : List (V × V) := l.map fun p => (.int k p.1, p.2)
def iput (a : Int) (v : V) : List (Int × V) → List (Int × V)
  | [] => [(a, v)]
  | (a', v') :: l => if a = a' then (a, v) :: l else (a', v') :: iput a v l
def idel (a : Int) : List (Int × V) → List (Int × V)
  | [] => []
  | (a', v') :: l => if a = a' then l else (a', v') :: idel a l
def ifind (a : Int) : List (Int × V) → Option V
  | [] => none
  | (a', v') :: l => if a = a' then some v' else ifind a l

theorem mfind_ikeys {k : IntKind} {a : Int} (l : List (Int × V)) : mfind (.int k a) (ikeys k l) = ifind a l := by
  induction l with
  | nil => rfl
  | cons p l ih =>
    obtain ⟨a', v⟩ := p
    simp only [ikeys, List.map_cons, mfind, keq, ifind]
    by_cases e : a = a'
    · simp [e]
    · simp only [beq_eq_false_iff_ne.2 e, cond_false, if_neg e]; exact ih
theorem mput_ikeys {k : IntKind} {a : Int} {v : V} (l : List (Int × V)) : mput (.int k a) v (ikeys k l) = ikeys k (iput a v l) := by
  induction l with
  | nil => rfl
  | cons p l ih =>
    obtain ⟨a', v'⟩ := p
    simp only [ikeys, List.map_cons, mput, keq, iput]
    by_cases e : a = a'
    · simp [e]
    · simp only [beq_eq_false_iff_ne.2 e, cond_false, if_neg e, List.map_cons]; rw [show List.map _ l = ikeys k l from rfl, ih]; rfl
theorem mdel_ikeys {k : IntKind} {a : Int} (l : List (Int × V)) : mdel (.int k a) (ikeys k l) = ikeys k (idel a l) := by
  induction l with
  | nil => rfl
  | cons p l ih =>
    obtain ⟨a', v'⟩ := p
    simp only [ikeys, List.map_cons, mdel, keq, idel]
    by_cases e : a = a'
    · simp [e]
    · simp only [beq_eq_false_iff_ne.2 e, cond_false, if_neg e, List.map_cons]; rw [show List.map _ l = ikeys k l from rfl, ih]; rfl

def IKeys (l : List (Int × V)) : Prop := (l.map (·.1)).Nodup

theorem ifind_iput {a x : Int} {v : V} (l : List (Int × V)) : ifind x (iput a v l) = if x = a then some v else ifind x l := by
  induction l with
  | nil => simp [iput, ifind]
  | cons p l ih =>
    obtain ⟨a', v'⟩ := p
    simp only [iput]
    by_cases e : a = a'
    · subst e; simp only [if_true, ifind]
      by_cases e2 : x = a <;> simp [e2]
    · rw [if_neg e]; simp only [ifind, ih]
      by_cases e2 : x = a'
      · subst e2; rw [if_pos rfl, if_neg (fun h => e h.symm), if_pos rfl]
      · simp [e2]

theorem ifind_none {a : Int} {l : List (Int × V)} (h : a ∉ l.map (·.1)) : ifind a l = none := by
  induction l with
  | nil => rfl
  | cons p l ih =>
    simp only [List.map_cons, List.mem_cons, not_or] at h
    simp only [ifind, if_neg h.1]
    exact ih h.2

theorem ifind_idel {a x : Int} {l : List (Int × V)} (hn : IKeys l) : ifind x (idel a l) = if x = a then none else ifind x l := by
  induction l with
  | nil => simp [idel, ifind]
  | cons p l ih =>
    obtain ⟨a', v'⟩ := p
    simp only [IKeys, List.map_cons, List.nodup_cons] at hn
    simp only [idel]
    by_cases e : a = a'
    · subst e; rw [if_pos rfl]
      by_cases e2 : x = a
      · subst e2; rw [if_pos rfl]; exact ifind_none hn.1
      · simp [ifind, e2]
    · rw [if_neg e]; simp only [ifind, ih hn.2]
      by_cases e2 : x = a'
      · subst e2; rw [if_pos rfl, if_neg (fun h => e h.symm), if_pos rfl]
      · simp [e2]

theorem iput_keys {a x : Int} {v : V} {l : List (Int × V)} (h : x ∈ (iput a v l).map (·.1)) : x = a ∨ x ∈ l.map (·.1) := by
  induction l with
  | nil => simp [iput] at h; exact .inl h
  | cons p l ih =>
    obtain ⟨a', v'⟩ := p
    simp only [iput] at h
    by_cases e : a = a'
    · subst e; rw [if_pos rfl] at h; simpa using h
    · rw [if_neg e] at h
      simp only [List.map_cons, List.mem_cons] at h ⊢
      rcases h with h | h
      · exact .inr (.inl h)
      · rcases ih h with h | h
        · exact .inl h
        · exact .inr (.inr h)
theorem IKeys.put {a : Int} {v : V} {l : List (Int × V)} (hn : IKeys l) : IKeys (iput a v l) := by
  induction l with
  | nil => simp [iput, IKeys]
  | cons p l ih =>
    obtain ⟨a', v'⟩ := p
    simp only [iput]
    by_cases e : a = a'
    · subst e; rw [if_pos rfl]; exact hn
    · rw [if_neg e]
      simp only [IKeys, List.map_cons, List.nodup_cons] at hn ⊢
      refine ⟨fun h => ?_, ih hn.2⟩
      rcases iput_keys h with h | h
      · exact e h.symm
      · exact hn.1 h
theorem idel_keys {a x : Int} {l : List (Int × V)} (h : x ∈ (idel a l).map (·.1)) : x ∈ l.map (·.1) := by
  induction l with
  | nil => simp [idel] at h
  | cons p l ih =>
    obtain ⟨a', v'⟩ := p
    simp only [idel] at h
    by_cases e : a = a'
    · rw [if_pos e] at h; simp only [List.map_cons, List.mem_cons]; exact .inr h
    · rw [if_neg e] at h
      simp only [List.map_cons, List.mem_cons] at h ⊢
      rcases h with h | h
      · exact .inl h
      · exact .inr (ih h)
theorem IKeys.del {a : Int} {l : List (Int × V)} (hn : IKeys l) : IKeys (idel a l) := by
  induction l with
  | nil => exact hn
  | cons p l ih =>
    obtain ⟨a', v'⟩ := p
    simp only [IKeys, List.map_cons, List.nodup_cons] at hn
    simp only [idel]
    by_cases e : a = a'
    · rw [if_pos e]; exact hn.2
    · rw [if_neg e]
      simp only [IKeys, List.map_cons, List.nodup_cons]
      exact ⟨fun h => hn.1 (idel_keys h), ih hn.2⟩

/-- A map whose keys are numbers stands at m. -/
def MapAt (h : Heap) (m : Nat) (k : IntKind) (l : List (Int × V)) : Prop :=
  ∃ bs c, h.obj m = some (.map (.int k) (ikeys k l) bs c) ∧ bs.Nodup ∧ (∀ b, b ∈ bs → b < c) ∧ bs.length = l.length

theorem ikeys_length {k : IntKind} (l : List (Int × V)) : (ikeys k l).length = l.length := by simp [ikeys]

theorem iput_length {a : Int} {v : V} (l : List (Int × V)) : (iput a v l).length = if ifind a l = none then l.length + 1 else l.length := by
  induction l with
  | nil => rfl
  | cons p l ih =>
    obtain ⟨a', v'⟩ := p
    simp only [iput, ifind]
    by_cases e : a = a'
    · simp [e]
    · simp only [if_neg e, List.length_cons, ih]; split <;> rfl

theorem bdel_ikeys {k : IntKind} {a : Int} : ∀ (l : List (Int × V)) (bs : List Nat), bs.length = l.length → (bdel (.int k a) (ikeys k l) bs).length = (idel a l).length ∧ (bdel (.int k a) (ikeys k l) bs).Sublist bs
  | [], [], _ => ⟨rfl, List.Sublist.refl _⟩
  | [], _ :: _, h => by simp at h
  | _ :: _, [], h => by simp at h
  | (a', v') :: l, b :: bs, h => by
    simp only [ikeys, List.map_cons, bdel, keq, idel]
    by_cases e : a = a'
    · simp only [e, beq_self_eq_true, cond_true, if_true]
      exact ⟨by simpa using h, List.sublist_cons_self _ _⟩
    · simp only [beq_eq_false_iff_ne.2 e, cond_false, if_neg e]
      obtain ⟨h1, h2⟩ := bdel_ikeys (k := k) (a := a) l bs (by simpa using h)
      exact ⟨by simpa [ikeys] using h1, List.Sublist.cons_cons _ h2⟩

section
variable {h h' : Heap} {m : Nat} {k : IntKind} {l : List (Int × V)}

theorem MapAt.known (M : MapAt h m k l) : h.obj m ≠ none := by obtain ⟨bs, c, ho, _⟩ := M; rw [ho]; simp
theorem MapAt.keeps {S : Nat → Prop} (M : MapAt h m k l) (kk : Keeps S h h') (hs : ¬ S m) : MapAt h' m k l := by
  obtain ⟨bs, c, ho, h1⟩ := M; exact ⟨bs, c, kk.obj ho hs, h1⟩
theorem MapAt.ne {b : Nat} (M : MapAt h m k l) (hb : h.obj b = none) : b ≠ m := fun e => M.known (e ▸ hb)
theorem MapAt.cells {b : Nat} {x : List V} {mk : Bool} (M : MapAt h m k l) (hb : h.obj b = some (.cells x mk)) : m ≠ b := by
  obtain ⟨bs, c, ho, _⟩ := M
  intro e; rw [e, hb] at ho; cases ho

theorem mapGet_of {a : Int} {κ : Option V → Prop} (M : MapAt h m k l) (hk : κ (ifind a l)) : mapGet (.int k) (some m) (.int k a) κ h := by
  obtain ⟨bs, c, ho, _⟩ := M
  exact ⟨_, bs, c, ho, by rw [mfind_ikeys]; exact hk⟩

theorem mapLen_of {κ : Int → Prop} (M : MapAt h m k l) (hk : κ l.length) : mapLen (some m) κ h := by
  obtain ⟨bs, c, ho, _⟩ := M
  exact ⟨_, _, bs, c, ho, by rw [ikeys_length]; exact hk⟩

theorem Keeps.setO {x y : HO} {b : Nat} (ho : h.obj b = some x) : Keeps (· = b) h (h.setO b y) := by
  refine ⟨fun c _ hc => by simp only [Heap.setO]; exact if_neg hc, fun c hc => ?_⟩
  simp only [Heap.setO]
  by_cases e : c = b
  · rw [if_pos e]; simp
  · rw [if_neg e]; exact hc

theorem mapPut_of {a : Int} {v : V} {κ : Heap → Prop} (M : MapAt h m k l) (hk : ∀ h', MapAt h' m k (iput a v l) → Keeps (· = m) h h' → κ h') : mapPut (.int k) (some m) (.int k a) v κ h := by
  obtain ⟨bs, c, ho, h1, h2, h3⟩ := M
  refine ⟨_, bs, c, ho, hk _ ?_ (Keeps.setO ho)⟩
  unfold putO
  rw [mfind_ikeys]
  cases hf : ifind a l with
  | some w => exact ⟨bs, c, by simp [Heap.setO, mput_ikeys], h1, h2, by rw [iput_length, if_neg (by rw [hf]; simp)]; exact h3⟩
  | none =>
    refine ⟨bs ++ [c], c + 1, by simp [Heap.setO, mput_ikeys], ?_, ?_, by rw [iput_length, if_pos hf]; simp [h3]⟩
    · rw [List.nodup_append]
      exact ⟨h1, by simp, fun x hx y hy => by simp at hy; subst hy; have := h2 x hx; omega⟩
    · intro b hb
      rcases List.mem_append.1 hb with hb | hb
      · have := h2 b hb; omega
      · simp at hb; omega

theorem mapDel_of {a : Int} {κ : Heap → Prop} (M : MapAt h m k l) (hk : ∀ h', MapAt h' m k (idel a l) → Keeps (· = m) h h' → κ h') : mapDel (.int k) (some m) (.int k a) κ h := by
  obtain ⟨bs, c, ho, h1, h2, h3⟩ := M
  obtain ⟨g1, g2⟩ := bdel_ikeys (k := k) (a := a) l bs h3
  exact ⟨_, bs, c, ho, hk _ ⟨_, c, by simp [Heap.setO, mdel_ikeys], h1.sublist g2, fun b hb => h2 b (g2.subset hb), g1⟩ (Keeps.setO ho)⟩

theorem alM_of {κ : Nat → Heap → Prop} (hk : ∀ b h', h.obj b = none → MapAt h' b k [] → Keeps none_ h h' → κ b h') : alM (.int k) κ h :=
  fun b hb => hk b _ hb ⟨[], 0, Heap.new_obj, by simp, by simp, rfl⟩ (Keeps.new hb _)

/-- One goes through the map: what it has had. -/
def IterAt (h : Heap) (it m : Nat) (k : IntKind) (l : List (Int × V)) (done : List Int) : Prop :=
  ∃ bs c seen, h.obj it = some (.iter (some m) c seen c) ∧ h.obj m = some (.map (.int k) (ikeys k l) bs c) ∧ bs.Nodup ∧ (∀ b, b ∈ bs → b < c) ∧ bs.length = l.length ∧
    (∀ (i : Nat) a v b, l[i]? = some (a, v) → bs[i]? = some b → (b ∈ seen ↔ a ∈ done)) ∧
    ∀ a, done.getLast? = some a → ∃ (i : Nat) (v : V) (b : Nat), seen.getLast? = some b ∧ bs[i]? = some b ∧ l[i]? = some (a, v)

theorem IterAt.keeps {S : Nat → Prop} {it : Nat} {done : List Int} (I : IterAt h it m k l done) (kk : Keeps S h h') (h1 : ¬ S it) (h2 : ¬ S m) : IterAt h' it m k l done := by
  obtain ⟨bs, c, seen, a1, a2, a3⟩ := I
  exact ⟨bs, c, seen, kk.obj a1 h1, kk.obj a2 h2, a3⟩

theorem range_of {κ : Nat → Heap → Prop} (M : MapAt h m k l) (hk : ∀ it h', h.obj it = none → IterAt h' it m k l [] → Keeps none_ h h' → κ it h') : rangeM (some m) κ h := by
  obtain ⟨bs, c, ho, h1, h2, h3⟩ := M
  refine ⟨_, _, bs, c, ho, fun it hit => hk it _ hit ?_ (Keeps.new hit _)⟩
  have kk : Keeps none_ h (h.new it (.iter (some m) c [] c)) := Keeps.new hit _
  exact ⟨bs, c, [], Heap.new_obj, kk.obj ho (fun f => f), h1, h2, h3, fun i a v b _ _ => by simp, fun a ha => by cases ha⟩

theorem next_of {it : Nat} {done : List Int} {over : Heap → Prop} {step : V → V → Heap → Prop} (hn : IKeys l) (I : IterAt h it m k l done)
    (ho : (∀ a v, (a, v) ∈ l → a ∈ done) → over h) (hs : ∀ a v, (a, v) ∈ l → a ∉ done → ∀ h', IterAt h' it m k l (done ++ [a]) → Keeps (· = it) h h' → step (.int k a) v h') : nextM it over step h := by
  obtain ⟨bs, c, seen, a1, a2, a3, a4, a5, a6, _⟩ := I
  refine ⟨_, _, _, _, a1, _, _, bs, c, a2, ?_, fun hall => ?_, fun i kk v b hi hb hns => ?_⟩
  · rintro ⟨_, hne, hge⟩
    cases bs with
    | nil =>
      apply hne
      have : l = [] := List.length_eq_zero_iff.1 (by simpa using a5.symm)
      subst this; rfl
    | cons b bs =>
      have h1 := a4 b (by simp)
      have h2 := hge b (by simp)
      omega
  · refine ho (fun a v hav => ?_)
    obtain ⟨i, hi⟩ := List.getElem?_of_mem hav
    have hlt : i < l.length := by rcases Nat.lt_or_ge i l.length with h | h; exact h; rw [List.getElem?_eq_none h] at hi; cases hi
    have hb : bs[i]? = some (bs[i]'(by omega)) := List.getElem?_eq_getElem _
    generalize bs[i]'(by omega) = b at hb
    refine (a6 i a v b hi hb).1 ?_
    by_cases hm : b ∈ seen
    · exact hm
    · have h1 := hall b (List.mem_of_getElem? hb) hm
      have h2 := a4 b (List.mem_of_getElem? hb)
      omega
  · have hli : ∃ a, l[i]? = some (a, v) ∧ kk = .int k a := by
      simp only [ikeys, List.getElem?_map] at hi
      cases hl : l[i]? with
      | none => rw [hl] at hi; cases hi
      | some p => rw [hl] at hi; simp at hi; exact ⟨p.1, by rw [← hi.2], hi.1.symm⟩
    obtain ⟨a, hli, rfl⟩ := hli
    have hnd : a ∉ done := fun hd => hns ((a6 i a v b hli hb).2 hd)
    have hit : it ≠ m := by intro e; rw [e, a2] at a1; cases a1
    refine hs a v (List.mem_of_getElem? hli) hnd _ ?_ (Keeps.setO a1)
    refine ⟨bs, c, seen ++ [b], by simp [Heap.setO], by simp only [Heap.setO]; rw [if_neg hit.symm]; exact a2, a3, a4, a5, fun i' a' v' b' hl' hb' => ?_, fun a' ha' => ⟨i, v, b, by simp, hb, by simp at ha'; rw [← ha']; exact hli⟩⟩
    simp only [List.mem_append, List.mem_singleton]
    have key : b' = b ↔ a' = a := by
      constructor
      · rintro rfl
        have : i' = i := (List.getElem?_inj (by rw [a5]; rcases Nat.lt_or_ge i' l.length with h | h; exact h; rw [List.getElem?_eq_none h] at hl'; cases hl') a3).1 (hb'.trans hb.symm)
        subst this
        rw [hli] at hl'; cases hl'; rfl
      · rintro rfl
        have h1 : (l.map (·.1))[i']? = some a' := by rw [List.getElem?_map, hl']; rfl
        have h2 : (l.map (·.1))[i]? = some a' := by rw [List.getElem?_map, hli]; rfl
        have : i' = i := (List.getElem?_inj (by simp; rcases Nat.lt_or_ge i' l.length with h | h; exact h; rw [List.getElem?_eq_none h] at hl'; cases hl') hn).1 (h1.trans h2.symm)
        subst this
        rw [hb] at hb'; cases hb'; rfl
    rw [a6 i' a' v' b' hl' hb', key]
theorem entry_of {it : Nat} {done : List Int} {a : Int} {v : V} {κ : V → V → Prop} (hn : IKeys l) (I : IterAt h it m k l (done ++ [a])) (hav : (a, v) ∈ l) (hk : κ (.int k a) v) : entryM it κ h := by
  obtain ⟨bs, c, seen, a1, a2, a3, a4, a5, a6, a7⟩ := I
  obtain ⟨i, v', b, h1, h2, h3⟩ := a7 a (by simp)
  have hv : v' = v := by
    obtain ⟨j, hj⟩ := List.getElem?_of_mem hav
    have e1 : (l.map (·.1))[i]? = some a := by rw [List.getElem?_map, h3]; rfl
    have e2 : (l.map (·.1))[j]? = some a := by rw [List.getElem?_map, hj]; rfl
    have : i = j := (List.getElem?_inj (by simp; rcases Nat.lt_or_ge i l.length with h | h; exact h; rw [List.getElem?_eq_none h] at h3; cases h3) hn).1 (e1.trans e2.symm)
    subst this
    rw [h3] at hj; cases hj; rfl
  subst hv
  exact ⟨_, _, _, _, a1, _, _, bs, a2, i, .int k a, v', b, h1, h2, by simp [ikeys, h3], hk⟩

end

end Go.Lift

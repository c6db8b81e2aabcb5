/- The call's two ends: the memory as the arguments lay it, and the row's last step. -/
import Derived.Test.YtgigbjieppllgaaDoorLiftN
import Derived.Carry
import Derived.ChangeSame
import Derived.OpenShut
import Derived.Deep.Slices
namespace Go.Lift
open Go.RowKit Go.ChangeShapes Go.WideShapes

/-! ## the memory ahead of the call -/

noncomputable def inv : Value → Option V
  | .int k n => some (.int k n)
  | .bool b => some (.bool b)
  | .string s => some (.str s.data.toList)
  | .pointer none => some (.ptr none)
  | .pointer (some a) => some (.ptr (some (Addr.ptr a)))
  | .slice none l c => some (.sl ⟨none, l, c⟩)
  | .slice (some a) l c => some (.sl ⟨some (Addr.ptr a), l, c⟩)
  | _ => none

theorem inv_val {σ : Seat} {v : Value} {u : V} (h : inv v = some u) : v = u.val σ ∧ u.one = true := by
  unfold inv at h
  split at h <;> first | (cases h; done) | skip
  all_goals (cases h; first | exact ⟨rfl, rfl⟩ | (refine ⟨?_, rfl⟩; simp [V.val, ptr_addr]))

noncomputable def heap0 (W : World) : Heap := ⟨fun b => if b % 2 = 0 then match W.heap[b / 2]? with
  | some (.cells c _ _) => some (.ro fun i => (c[i]?).bind inv)
  | _ => none else none⟩

theorem heap0_obj {W : World} (k : Nat) : (heap0 W).obj (2 * k) = match W.heap[k]? with
  | some (.cells c _ _) => some (.ro fun i => (c[i]?).bind inv)
  | _ => none := by
  simp [heap0]

theorem heap0_even {W : World} {b : Nat} {x : HO} (h : (heap0 W).obj b = some x) : ∃ k, b = 2 * k := by
  by_cases hb : b % 2 = 0
  · exact ⟨b / 2, by omega⟩
  · simp only [heap0, if_neg hb] at h; cases h

theorem sim0 (σ : Seat) (W : World) : Sim σ W (heap0 W) W := by
  refine ⟨rfl, rfl, rfl, Nat.le_refl _, ?_, fun _ _ => rfl, ?_⟩
  · intro b x hx
    obtain ⟨k, rfl⟩ := heap0_even hx
    rw [heap0_obj] at hx
    split at hx
    · rename_i c e fz hc
      cases hx
      refine ⟨k, _, rfl, hc, ?_⟩
      intro i v hv
      have hv : (c[i]?).bind inv = some v := hv
      cases hci : c[i]? with
      | none => rw [hci] at hv; cases hv
      | some u =>
        rw [hci] at hv
        have := inv_val (σ := σ) hv
        exact ⟨by rw [← this.1], this.2⟩
    · cases hx
  · intro b x hx hr
    obtain ⟨k, rfl⟩ := heap0_even hx
    rw [heap0_obj] at hx
    split at hx
    · cases hx; cases hr
    · cases hx

theorem heap0_get {W : World} {b o : Nat} {v : Value} {u : V} (h : W.cell? ⟨b, o, none⟩ = some v) (hu : inv v = some u) : (heap0 W).get (2 * b) o = some u := by
  unfold World.cell? at h
  split at h
  · rename_i c e fz hc
    simp only [Option.isSome_none, Bool.false_eq_true, if_false] at h
    simp only [Heap.get, heap0_obj, hc, h, Option.bind_some, hu]
  · cases h

theorem heap0_ro {W : World} {b : Nat} {x : HO} (h : (heap0 W).obj b = some x) : x.isRo = true := by
  obtain ⟨k, rfl⟩ := heap0_even h
  rw [heap0_obj] at h
  split at h
  · cases h; rfl
  · cases h

/-! ## plain data -/

mutual
inductive DS where
  | int (k : IntKind) | bool | str
  | slice (sz : Nat) (e : DS)
  | arr (n sz : Nat) (e : DS)
  | struct (fs : DSL)
inductive DSL where
  | nil
  | cons (o sz : Nat) (d : DS) (fs : DSL)
end

mutual
/-- Data of a kind, as the memory has it. -/
def Fits (h : Heap) : DS → List V → Prop
  | .int k, l => ∃ n, l = [.int k n] ∧ (Lit.int k n).wf = true
  | .bool, l => ∃ b, l = [.bool b]
  | .str, l => ∃ s, l = [.str s] ∧ s.length ≤ maxLen
  | .slice sz e, l => ∃ s : Sl, l = [.sl s] ∧ s.len ≤ s.cap ∧ s.cap ≤ maxLen ∧ (s.p = none → s.cap = 0) ∧
      ∀ p, s.p = some p → ∀ i, i < s.cap → ∃ cs, cs.length = sz ∧ (∀ j, j < sz → h.get p.b (p.o + i * sz + j) = cs[j]?) ∧ Fits h e cs
  | .arr n sz e, l => l.length = n * sz ∧ ∀ i, i < n → Fits h e ((l.drop (i * sz)).take sz)
  | .struct fs, l => FitsL h fs l
def FitsL (h : Heap) : DSL → List V → Prop
  | .nil, _ => True
  | .cons o sz d fs, l => Fits h d ((l.drop o).take sz) ∧ FitsL h fs l
end

mutual
def dsOK (P : Program) : DS → Nat → Bool
  | .int k, t => match P.underlying t with | some (.int k') => decide (k' = k) | _ => false
  | .bool, t => match P.underlying t with | some .bool => true | _ => false
  | .str, t => match P.underlying t with | some .string => true | _ => false
  | .slice sz e, t => match P.underlying t with | some (.slice u) => Nat.beq (P.cellsOf u) sz && Nat.blt 0 sz && dsOK P e u | _ => false
  | .arr n sz e, t => match P.underlying t with | some (.array m u) => Nat.beq m n && Nat.beq (P.cellsOf u) sz && Nat.beq (P.cellsOf t) (n * sz) && dsOK P e u | _ => false
  | .struct fs, t => match P.underlying t with | some (.struct fields) => dslOK P fs fields.toList 0 (P.cellsOf t) | _ => false
def dslOK (P : Program) : DSL → List Field → Nat → Nat → Bool
  | .nil, [], i, n => Nat.beq i n
  | .cons o sz d fs, f :: l, i, n => Nat.beq o i && Nat.beq f.offset o && Nat.beq (P.cellsOf f.type) sz && dsOK P d f.type && dslOK P fs l (i + sz) n
  | _, _, _, _ => false
def DS.flat : DS → Bool
  | .slice _ _ => false
  | .arr _ _ e => e.flat
  | .struct fs => fs.flat
  | _ => true
def DSL.flat : DSL → Bool
  | .nil => true
  | .cons _ _ d fs => d.flat && fs.flat
end

def noSpot : Value → Prop
  | .slice (some a) _ _ => a.spot = none
  | _ => True

section
variable {H : Type} {enc : TypeId × Value → H} {P : Program} {W : World} {σ : Seat}

theorem vals_take (l : List V) (n : Nat) : (V.vals σ l).take n = V.vals σ (l.take n) := by simp [vals_map, List.map_take]
theorem vals_drop (l : List V) (n : Nat) : (V.vals σ l).drop n = V.vals σ (l.drop n) := by simp [vals_map, List.map_drop]

theorem invs_of {cs : List Value} (h : ∀ v ∈ cs, ∃ u, inv v = some u) : ∃ vs : List V, vs.length = cs.length ∧ ∀ j : Nat, (cs[j]?).bind inv = vs[j]? := by
  induction cs with
  | nil => exact ⟨[], rfl, by simp⟩
  | cons c cs ih =>
    obtain ⟨u, hu⟩ := h c (by simp)
    obtain ⟨vs, hl, hv⟩ := ih (fun v hv => h v (by simp [hv]))
    refine ⟨u :: vs, by simp [hl], ?_⟩
    intro j
    cases j with
    | zero => simpa using hu
    | succ j => simpa using hv j

noncomputable def invL (cs : List Value) : List V := cs.filterMap inv

/-- All cells can be told. -/
def told (cs : List Value) : Prop := ∀ v ∈ cs, ∃ u, inv v = some u

theorem told_vals {cs : List Value} (h : told cs) : cs = V.vals σ (invL cs) ∧ (∀ u ∈ invL cs, u.one = true) ∧ (invL cs).length = cs.length := by
  induction cs with
  | nil => exact ⟨rfl, by simp [invL], rfl⟩
  | cons c cs ih =>
    obtain ⟨u, hu⟩ := h c (by simp)
    obtain ⟨h1, h2, h3⟩ := ih (fun v hv => h v (by simp [hv]))
    have he : invL (c :: cs) = u :: invL cs := by simp [invL, hu]
    obtain ⟨hv, ho⟩ := inv_val (σ := σ) hu
    refine ⟨?_, ?_, ?_⟩
    · rw [he, V.vals, ← h1, ← hv]
    · rw [he]; intro x hx
      rcases List.mem_cons.1 hx with rfl | hx
      · exact ho
      · exact h2 x hx
    · rw [he]; simp [h3]

theorem invL_app {a b : List Value} : invL (a ++ b) = invL a ++ invL b := by simp [invL]

theorem told_drop {cs : List Value} (h : told cs) (n : Nat) : told (cs.drop n) ∧ invL (cs.drop n) = (invL cs).drop n := by
  refine ⟨fun v hv => h v (List.mem_of_mem_drop hv), ?_⟩
  induction cs generalizing n with
  | nil => simp [invL]
  | cons c cs ih =>
    obtain ⟨u, hu⟩ := h c (by simp)
    have he : invL (c :: cs) = u :: invL cs := by simp [invL, hu]
    cases n with
    | zero => simp
    | succ n => rw [he, List.drop_succ_cons, List.drop_succ_cons]; exact ih (fun v hv => h v (by simp [hv])) n

theorem told_take {cs : List Value} (h : told cs) (n : Nat) : told (cs.take n) ∧ invL (cs.take n) = (invL cs).take n := by
  refine ⟨fun v hv => h v (List.mem_of_mem_take hv), ?_⟩
  induction cs generalizing n with
  | nil => simp [invL]
  | cons c cs ih =>
    obtain ⟨u, hu⟩ := h c (by simp)
    have he : invL (c :: cs) = u :: invL cs := by simp [invL, hu]
    cases n with
    | zero => simp [invL]
    | succ n =>
      rw [he, List.take_succ_cons, List.take_succ_cons, ← ih (fun v hv => h v (by simp [hv])) n]
      simp [invL, hu]

theorem flat_spot {d : DS} {cs : List Value} (h : d.flat = true ∨ ∀ v ∈ cs, noSpot v) (n m : Nat) : d.flat = true ∨ ∀ v ∈ (cs.drop n).take m, noSpot v := by
  rcases h with h | h
  · exact .inl h
  · exact .inr fun v hv => h v (List.mem_of_mem_drop (List.mem_of_mem_take hv))

theorem cell_at {a : Addr} {v : Value} (h : W.cell? a = some v) : a.spot = none := by
  unfold World.cell? at h
  split at h
  · cases hs : a.spot with
    | none => rfl
    | some x => rw [hs] at h; simp at h
  · cases h

theorem add_spot {a : Addr} {n : Nat} (h : (a.add n).spot = none) (h0 : n = 0 → a.spot = none) : (a.add n) = ⟨a.block, a.off + n, none⟩ := by
  unfold Addr.add at h ⊢
  split
  · rename_i hn
    subst hn
    have := h0 rfl
    cases a
    simp_all
  · rfl

mutual
theorem told_of : ∀ (d : DS) {t : TypeId} {fuel : Nat} {cs : List Value} {x : DataW H × List MemPlace}, dsOK P d t = true → DataW.trod enc P W 0 (fun _ => true) true fuel t cs = some x → told cs
  | .int k, t, fuel, cs, x, hk, h => by
    unfold dsOK at hk
    split at hk
    · rename_i k' hu
      obtain ⟨n, rfl, _⟩ := DataW.trod_int hu h
      intro v hv; simp at hv; subst hv; exact ⟨_, rfl⟩
    · cases hk
  | .bool, t, fuel, cs, x, hk, h => by
    unfold dsOK at hk
    split at hk
    · rename_i hu
      obtain ⟨n, rfl, _⟩ := DataW.trod_bool hu h
      intro v hv; simp at hv; subst hv; exact ⟨_, rfl⟩
    · cases hk
  | .str, t, fuel, cs, x, hk, h => by
    unfold dsOK at hk
    split at hk
    · rename_i hu
      obtain ⟨n, rfl, _⟩ := DataW.trod_string hu h
      intro v hv; simp at hv; subst hv; exact ⟨_, rfl⟩
    · cases hk
  | .slice sz e, t, fuel, cs, x, hk, h => by
    unfold dsOK at hk
    split at hk
    · rename_i u hu
      rcases DataW.trod_slice hu h with ⟨rfl, _⟩ | ⟨a, len, cap, elems, rest, n, _, rfl, _⟩
      · intro v hv; simp at hv; subst hv; exact ⟨_, rfl⟩
      · intro v hv; simp at hv; subst hv
        exact ⟨_, rfl⟩
    · cases hk
  | .arr n sz e, t, fuel, cs, x, hk, h => by
    unfold dsOK at hk
    split at hk
    · rename_i m u hu
      simp only [Bool.and_eq_true] at hk
      obtain ⟨⟨⟨h1, h2⟩, h3⟩, h4⟩ := hk
      have h1 := Nat.eq_of_beq_eq_true h1
      have h2 := Nat.eq_of_beq_eq_true h2
      have h3 := Nat.eq_of_beq_eq_true h3
      obtain ⟨xs, n', _, _, hl, hxl, hg⟩ := DataW.trod_array hu h
      rw [h3] at hl
      rw [h2] at hg
      intro v hv
      obtain ⟨j, hj, hjv⟩ := List.mem_iff_getElem.1 hv
      have hpos : 0 < sz := by
        rcases Nat.eq_zero_or_pos sz with h | h
        · subst h; simp at hl; simp [hl] at hj
        · exact h
      have hq : j / sz < n := by rw [Nat.div_lt_iff_lt_mul hpos]; omega
      have hgq := hg (j / sz) (by omega)
      have hxs : xs[j / sz]? = some (xs[j / sz]'(by omega)) := List.getElem?_eq_getElem _
      rw [hxs] at hgq
      refine told_of e h4 hgq v ?_
      have hm : j % sz < sz := Nat.mod_lt _ hpos
      have hdm : j / sz * sz + j % sz = j := by rw [Nat.mul_comm]; exact Nat.div_add_mod j sz
      apply List.mem_iff_getElem?.2
      refine ⟨j % sz, ?_⟩
      rw [List.getElem?_take_of_lt hm, List.getElem?_drop, hdm, ← hjv]
      exact List.getElem?_eq_getElem hj
    · cases hk
  | .struct fs, t, fuel, cs, x, hk, h => by
    unfold dsOK at hk
    split at hk
    · rename_i fields hu
      obtain ⟨xs, n, _, _, hl, hxl, hg⟩ := DataW.trod_struct hu h
      have := toldL_of fs (fields := fields.toList) (i := 0) (n := P.cellsOf t) (m := n) (cs := cs) hk hl (by
        intro f hfm
        obtain ⟨j, hj, hjf⟩ := List.mem_iff_getElem.1 hfm
        have hgj := hg j f (by simp only [Array.length_toList] at hj; rw [Array.getElem?_eq_getElem hj]; simpa using hjf)
        simp only [Array.length_toList] at hj
        have hxs : xs[j]? = some (xs[j]'(by omega)) := List.getElem?_eq_getElem _
        rw [hxs] at hgj
        exact ⟨_, hgj⟩)
      simpa using this
    · cases hk
theorem toldL_of : ∀ (fs : DSL) {fields : List Field} {i n m : Nat} {cs : List Value}, dslOK P fs fields i n = true → cs.length = n → (∀ f ∈ fields, ∃ x : DataW H × List MemPlace, DataW.trod enc P W 0 (fun _ => true) true m f.type ((cs.drop f.offset).take (P.cellsOf f.type)) = some x) → told (cs.drop i)
  | .nil, fields, i, n, m, cs, hk, hl, hg => by
    cases fields with
    | cons f l => simp [dslOK] at hk
    | nil =>
      simp only [dslOK] at hk
      have := Nat.eq_of_beq_eq_true hk
      subst this
      rw [List.drop_of_length_le (by omega)]
      intro v hv; cases hv
  | .cons o sz d fs, fields, i, n, m, cs, hk, hl, hg => by
    cases fields with
    | nil => simp [dslOK] at hk
    | cons f l =>
      simp only [dslOK, Bool.and_eq_true] at hk
      obtain ⟨⟨⟨⟨h0, h1⟩, h2⟩, h3⟩, h4⟩ := hk
      have h0 := Nat.eq_of_beq_eq_true h0
      have h1 := Nat.eq_of_beq_eq_true h1
      have h2 := Nat.eq_of_beq_eq_true h2
      obtain ⟨x, hx⟩ := hg f (by simp)
      rw [h1, h2, h0] at hx
      have ta := told_of d h3 hx
      have tb := toldL_of fs h4 hl (fun f hf => hg f (by simp [hf]))
      have : cs.drop i = (cs.drop i).take sz ++ cs.drop (i + sz) := by rw [← List.drop_drop]; exact (List.take_append_drop sz (cs.drop i)).symm
      rw [this]
      intro v hv
      rcases List.mem_append.1 hv with hv | hv
      · exact ta v hv
      · exact tb v hv
end

mutual
theorem fits_of : ∀ (d : DS) {t : TypeId} {fuel : Nat} {cs : List Value} {x : DataW H × List MemPlace}, dsOK P d t = true → DataW.trod enc P W 0 (fun _ => true) true fuel t cs = some x → Fits (heap0 W) d (invL cs)
  | .int k, t, fuel, cs, x, hk, h => by
    unfold dsOK at hk
    split at hk
    · rename_i k' hu
      obtain ⟨n, rfl, _, hw⟩ := DataW.trod_int hu h
      have : k' = k := by simpa using hk
      subst this
      exact ⟨n, rfl, hw⟩
    · cases hk
  | .bool, t, fuel, cs, x, hk, h => by
    unfold dsOK at hk
    split at hk
    · rename_i hu
      obtain ⟨n, rfl, _⟩ := DataW.trod_bool hu h
      exact ⟨n, rfl⟩
    · cases hk
  | .str, t, fuel, cs, x, hk, h => by
    unfold dsOK at hk
    split at hk
    · rename_i hu
      obtain ⟨s, rfl, _, hs⟩ := DataW.trod_string hu h
      exact ⟨s.data.toList, rfl, by rw [Array.length_toList]; exact hs⟩
    · cases hk
  | .slice sz e, t, fuel, cs, x, hk, h => by
    unfold dsOK at hk
    split at hk
    · rename_i u hu
      simp only [Bool.and_eq_true] at hk
      obtain ⟨⟨h1, h2⟩, h4⟩ := hk
      have h1 := Nat.eq_of_beq_eq_true h1
      have h2 : 0 < sz := by simpa using h2
      rcases Deep.open_slice hu h with ⟨rfl, _⟩ | ⟨a, len, cap, m, n, D, Pl, rfl, _, hl, hc, hm, _, hg⟩
      · exact ⟨⟨none, 0, 0⟩, rfl, Nat.le_refl _, Nat.zero_le _, fun _ => rfl, (fun p hp => by cases hp)⟩
      · simp only [if_true] at hm
        subst hm
        refine ⟨⟨some (Addr.ptr a), len, m⟩, rfl, hl, hc, (fun h => by cases h), ?_⟩
        intro p hp i hi
        cases hp
        have hi : i < m := hi
        have hsp : a.spot = none := by
          obtain ⟨cs', hcs, ht⟩ := hg 0 (by omega)
          rw [h1] at hcs
          obtain ⟨_, hcl, hat⟩ := World.cells?_some hcs
          have hcell := hat 0 h2
          rw [List.getElem?_eq_getElem (by omega)] at hcell
          have := cell_at hcell
          simpa [Addr.add] using this
        obtain ⟨b, o, sp⟩ := a
        simp only at hsp
        subst hsp
        rw [ptr_none]
        obtain ⟨cs', hcs, ht⟩ := hg i hi
        rw [h1] at hcs
        obtain ⟨_, hcl, hat⟩ := World.cells?_some hcs
        have htold := told_of e h4 ht
        obtain ⟨hv1, hv2, hv3⟩ := told_vals (σ := ⟨P, id, id⟩) htold
        refine ⟨invL cs', hv3.trans hcl, ?_, fits_of e h4 ht⟩
        intro j hj
        have hj' : j < cs'.length := by omega
        have hcell := hat j hj
        rw [List.getElem?_eq_getElem hj'] at hcell
        have hadd : ((⟨b, o, none⟩ : Addr).add (i * sz)).add j = ⟨b, o + i * sz + j, none⟩ := by
          have e1 : ∀ (o n : Nat), (⟨b, o, none⟩ : Addr).add n = ⟨b, o + n, none⟩ := by
            intro o n
            unfold Addr.add
            split
            · rename_i hn; subst hn; rfl
            · rfl
          rw [e1, e1]
        rw [hadd] at hcell
        obtain ⟨u', hu'⟩ := htold _ (List.getElem_mem hj')
        rw [heap0_get hcell hu']
        have := congrArg (fun l => l[j]?) hv1
        simp only [vals_map, List.getElem?_map] at this
        rw [List.getElem?_eq_getElem hj'] at this
        have hjl : j < (invL cs').length := by omega
        rw [List.getElem?_eq_getElem hjl]
        have hidx : ∀ (l : List Value) (j : Nat) (h : told l) (hj : j < l.length) (hj2 : j < (invL l).length), inv l[j] = some (invL l)[j] := by
          intro l
          induction l with
          | nil => intro j h hj; cases hj
          | cons c l ih =>
            intro j h hj hj2
            obtain ⟨y, hy⟩ := h c (by simp)
            have he : invL (c :: l) = y :: invL l := by simp [invL, hy]
            cases j with
            | zero => simp [he, hy]
            | succ j => simp only [he, List.getElem_cons_succ]; exact ih j (fun v hv => h v (by simp [hv])) _ _
        rw [hidx cs' j htold hj' hjl] at hu'
        exact hu'.symm
    · cases hk
  | .arr n sz e, t, fuel, cs, x, hk, h => by
    have htold := told_of (.arr n sz e) hk h
    unfold dsOK at hk
    split at hk
    · rename_i m u hu
      simp only [Bool.and_eq_true] at hk
      obtain ⟨⟨⟨h1, h2⟩, h3⟩, h4⟩ := hk
      have h1 := Nat.eq_of_beq_eq_true h1
      have h2 := Nat.eq_of_beq_eq_true h2
      have h3 := Nat.eq_of_beq_eq_true h3
      obtain ⟨xs, n', _, _, hl, hxl, hg⟩ := DataW.trod_array hu h
      rw [h3] at hl
      rw [h2] at hg
      obtain ⟨_, _, hv3⟩ := told_vals (σ := ⟨P, id, id⟩) htold
      refine ⟨hv3.trans hl, ?_⟩
      intro i hi
      have hgq := hg i (by omega)
      have hxs : xs[i]? = some (xs[i]'(by omega)) := List.getElem?_eq_getElem _
      rw [hxs] at hgq
      have := fits_of e h4 hgq
      rwa [(told_take (told_drop htold _).1 _).2, (told_drop htold _).2] at this
    · cases hk
  | .struct fs, t, fuel, cs, x, hk, h => by
    have htold := told_of (.struct fs) hk h
    unfold dsOK at hk
    split at hk
    · rename_i fields hu
      obtain ⟨xs, n, _, _, hl, hxl, hg⟩ := DataW.trod_struct hu h
      exact fitsL_of fs (fields := fields.toList) (i := 0) (n := P.cellsOf t) (m := n) (cs := cs) hk htold (by
        intro f hfm
        obtain ⟨j, hj, hjf⟩ := List.mem_iff_getElem.1 hfm
        have hgj := hg j f (by simp only [Array.length_toList] at hj; rw [Array.getElem?_eq_getElem hj]; simpa using hjf)
        simp only [Array.length_toList] at hj
        have hxs : xs[j]? = some (xs[j]'(by omega)) := List.getElem?_eq_getElem _
        rw [hxs] at hgj
        exact ⟨_, hgj⟩)
    · cases hk
theorem fitsL_of : ∀ (fs : DSL) {fields : List Field} {i n m : Nat} {cs : List Value}, dslOK P fs fields i n = true → told cs → (∀ f ∈ fields, ∃ x : DataW H × List MemPlace, DataW.trod enc P W 0 (fun _ => true) true m f.type ((cs.drop f.offset).take (P.cellsOf f.type)) = some x) → FitsL (heap0 W) fs (invL cs)
  | .nil, fields, i, n, m, cs, hk, hl, hg => trivial
  | .cons o sz d fs, fields, i, n, m, cs, hk, hl, hg => by
    cases fields with
    | nil => simp [dslOK] at hk
    | cons f l =>
      simp only [dslOK, Bool.and_eq_true] at hk
      obtain ⟨⟨⟨⟨h0, h1⟩, h2⟩, h3⟩, h4⟩ := hk
      have h0 := Nat.eq_of_beq_eq_true h0
      have h1 := Nat.eq_of_beq_eq_true h1
      have h2 := Nat.eq_of_beq_eq_true h2
      obtain ⟨x, hx⟩ := hg f (by simp)
      rw [h1, h2] at hx
      have ta := fits_of d h3 hx
      rw [(told_take (told_drop hl _).1 _).2, (told_drop hl _).2] at ta
      exact ⟨ta, fitsL_of fs h4 hl (fun f hf => hg f (by simp [hf]))⟩
end

/-- An argument that is a slice bears no spot. -/
theorem noSpot_of_okWide {t : TypeId} {v : Value} {base : Nat} {e : TypeId} (ht : P.underlying t = some (.slice e)) (h : Value.okWide P W .any base t v) : ∀ u ∈ v.cells.toList, noSpot u := by
  simp only [Value.okWide, ht, Cell.okWide] at h
  cases v <;> try simp_all [Cell.ok, Value.cells, noSpot]
  rename_i a l c
  cases a with
  | none => trivial
  | some a => simp [World.has] at h; exact h.2.2.2.1

theorem noSpot_cell {u : TypeId} {v : Value} {base : Nat} (h : Cell.okWide P W .any base u v) : noSpot v := by
  cases v with
  | slice a l c =>
    cases a with
    | none => trivial
    | some a =>
      unfold Cell.okWide at h
      split at h <;> first | trivial | skip
      all_goals (unfold Cell.ok at h; split at h <;> first | (exact h.elim) | (simp_all [World.has, noSpot]; done) | (cases ‹Value.slice _ _ _ = _›) | (cases ‹(_ : Value) = Value.slice _ _ _›) | skip)
      all_goals simp_all [World.has, noSpot]
  | _ => trivial

/-- What an argument is. -/
theorem arg_fits {t : TypeId} {v : Value} {d : DataW H} {ps : List MemPlace} {ds : DS} (hk : dsOK P ds t = true) (h : DataW.Trod enc P W 0 (fun _ => true) true t v d ps) (_ : ds.flat = true ∨ ∀ u ∈ v.cells.toList, noSpot u) :
    ∃ vs : List V, v.cells.toList = V.vals σ vs ∧ (∀ u ∈ vs, u.one = true) ∧ Fits (heap0 W) ds vs := by
  obtain ⟨fuel, hf⟩ := h
  have ht := told_of ds hk hf
  obtain ⟨h1, h2, _⟩ := told_vals (σ := σ) ht
  exact ⟨_, h1, h2, fits_of ds hk hf⟩

theorem okWide_agg {t : TypeId} {v : Value} {base : Nat} (ht : (∃ fs, P.underlying t = some (.struct fs)) ∨ ∃ n e, P.underlying t = some (.array n e)) (h : Value.okWide P W .any base t v) : ∃ cs, v = .agg cs := by
  rcases ht with ⟨fs, ht⟩ | ⟨n, e, ht⟩ <;>
  · simp only [Value.okWide, ht] at h
    obtain ⟨cs, rfl, _⟩ := h
    exact ⟨cs, rfl⟩

theorem okWide_one {t : TypeId} {v : Value} {base : Nat} (hn : ∀ fs, P.underlying t ≠ some (.struct fs)) (hn2 : ∀ n e, P.underlying t ≠ some (.array n e)) (h : Value.okWide P W .any base t v) {d : DataW H} {ps : List MemPlace} (hd : DataW.Trod enc P W 0 (fun _ => true) true t v d ps) : v.cells = #[v] := by
  obtain ⟨fuel, hf⟩ := hd
  cases v <;> try rfl
  rename_i cs
  exfalso
  unfold Value.okWide at h
  split at h
  · rename_i fs hu; exact hn _ hu
  · rename_i n e hu; exact hn2 _ _ hu
  · simp only [Cell.okWide, Cell.ok] at h
    split at h <;> simp_all

def notAgg (P : Program) (t : TypeId) : Bool :=
  match P.underlying t with
  | some (.struct _) => false
  | some (.array _ _) => false
  | _ => true

theorem okWide_agg_len {t : TypeId} {v : Value} {base : Nat} (ht : notAgg P t = false) (h : Value.okWide P W .any base t v) : ∃ cs, v = .agg cs ∧ cs.size = P.cellsOf t := by
  unfold notAgg at ht
  simp only [Value.okWide] at h
  split at ht <;> first | (cases ht; done) | skip
  all_goals
    rename_i hu
    rw [hu] at h
    obtain ⟨cs, rfl, hs, _⟩ := h
    exact ⟨cs, rfl, hs⟩

theorem noSpot_agg {t : TypeId} {v : Value} {base : Nat} (ht : notAgg P t = false) (h : Value.okWide P W .any base t v) : ∀ u ∈ v.cells.toList, noSpot u := by
  have : ∃ cs, v = .agg cs ∧ cs.size = P.cellsOf t ∧ Row.okWide P W .any base t cs := by
    unfold notAgg at ht
    simp only [Value.okWide] at h
    split at ht <;> first | (cases ht; done) | skip
    all_goals
      rename_i hu
      rw [hu] at h
      exact h
  obtain ⟨cs, rfl, _, ts, _, _, hr⟩ := this
  intro u hu
  obtain ⟨i, hi⟩ := List.getElem?_of_mem hu
  obtain ⟨t', _, hc⟩ := hr i u (by simpa [Value.cells] using hi)
  exact noSpot_cell hc

theorem okWide_leaf {t : TypeId} {v : Value} {base : Nat} (hn : notAgg P t = true) (h : Value.okWide P W .any base t v) {d : DataW H} {ps : List MemPlace} (hd : DataW.Trod enc P W 0 (fun _ => true) true t v d ps) : v.cells = #[v] :=
  okWide_one (fun fs hu => by simp [notAgg, hu] at hn) (fun n e hu => by simp [notAgg, hu] at hn) h hd

/-! ## the row's last step -/

theorem trodAll_below (hl : laidOutB P = true) {W' : World} (hb : Below W.heap.size W W') {sp : Nat → Bool} : ∀ {ts : List TypeId} {vs : List Value} {ds : List (DataW H)} {ps : List MemPlace},
    (ts.all fun t => P.readableRec t && decide (t < P.types.size)) = true → DataW.TrodAll enc P W 0 (fun _ => true) true ts vs ds ps → (∀ x ∈ ps, x.block < W.heap.size) → (∀ x ∈ ps, sp x.block = true) → DataW.TrodAll enc P W' 0 sp true ts vs ds ps
  | [], [], [], ps, _, h, _, _ => h
  | t :: ts, v :: vs, d :: ds, ps, hr, h, hlt, hsp => by
    obtain ⟨p, q, h1, h2, rfl⟩ := h
    simp only [List.all_cons, Bool.and_eq_true, decide_eq_true_eq] at hr
    refine ⟨p, q, ?_, ?_, rfl⟩
    · exact WideElems.Trod_stays hl hr.1.1 hr.1.2 h1 (fun x hx => hb.same (hlt x (by simp [hx]))) (fun x hx => hsp x (by simp [hx]))
    · exact trodAll_below hl hb (by simpa [List.all_eq_true, Bool.and_eq_true] using hr.2) h2 (fun x hx => hlt x (by simp [hx])) (fun x hx => hsp x (by simp [hx]))
  | [], _ :: _, _, _, _, h, _, _ => by simp [DataW.TrodAll] at h
  | [], [], _ :: _, _, _, h, _, _ => by simp [DataW.TrodAll] at h
  | _ :: _, [], _, _, _, h, _, _ => by simp [DataW.TrodAll] at h
  | _ :: _, _ :: _, [], _, _, h, _, _ => by simp [DataW.TrodAll] at h

theorem Sim.below {h : Heap} {w : World} (s : Sim σ W h w) : Below W.heap.size W w :=
  ⟨s.os, s.tape, s.output, s.size, s.old⟩

/-- A law's end: true, and the arguments as they were. -/
theorem law_post {fn : Func} {s : ChangeSpec} {W' : World} {args : Array Value} {ds gs : List (DataW H)} {before : List MemPlace} {tb : TypeId}
    (hW : DataW.Whole enc P fn.params.toList s.vars false W args.toList ds gs before) (hv : s.vars = []) (hl : laidOutB P = true) (hr : (fn.params.toList.all fun t => P.readableRec t && decide (t < P.types.size)) = true)
    (hs : s.fn H ds = { results := [.lit (.bool true)], args := ds }) (hrt : fn.resultTypes = #[tb]) (hb : P.underlying tb = some .bool) (hB : Below W.heap.size W W') :
    s.post enc P fn false true false false W args (.bool true) W' := by
  have hlt : ∀ p ∈ before, p.block < W.heap.size := fun p hp => hW.lt p hp
  have hW' := hW
  obtain ⟨p, q, hA, hV, rfl, hz, hn⟩ := hW'
  rw [hv] at hV
  obtain ⟨rfl, rfl⟩ := trodVars_none hV
  rw [List.append_nil] at hlt
  have hres : ∀ (b : Nat) (sp : Nat → Bool) (hd : Bool), DataW.TrodAll enc P W' b sp hd fn.resultTypes.toList ((Value.bool true).resultList fn.resultTypes.size) (s.fn H (ds ++ [])).results [] := by
    intro b sp hd
    rw [List.append_nil, hs, hrt]
    exact trodAll_mk1 (shut_bool hb true)
  have hargs : ∀ sp : Nat → Bool, (∀ x ∈ p, sp x.block = true) → DataW.TrodAll enc P W' 0 sp true fn.params.toList args.toList (s.fn H (ds ++ [])).args p := by
    intro sp hsp
    rw [List.append_nil, hs]
    exact trodAll_below hl hB hr hA hlt hsp
  have hvars : ∀ sp : Nat → Bool, DataW.TrodVars enc P W' sp s.vars (s.fn H (ds ++ [])).vars [] := by
    intro sp
    rw [List.append_nil, hs, hv]
    trivial
  have hmem : ∀ x ∈ p ++ ([] : List MemPlace), x ∈ p := fun x hx => by simpa using hx
  refine ⟨ds, [], p ++ [], [], p, [], hW, hres _ _ _, hargs _ (fun x hx => by simpa using hlt x hx), hvars _, World.keptBut_mono (fun x hx => ⟨hx, .inr (.inl (hmem x hx))⟩) (hB.frame (· ∈ p ++ [])), fun _ => ?_⟩
  have hok : ∀ (j : Nat) (t : TypeId) (r : Value), fn.resultTypes[j]? = some t → ((Value.bool true).resultList fn.resultTypes.size)[j]? = some r → Value.okWide P W' .any 0 t r := by
    have := @ok_one P W' fn (.bool true) tb hrt rfl (okWide_bool_mk hb true)
    exact this
  refine ⟨hok, _, _, ([] ++ p) ++ [], ⟨[] ++ p, [], trodAll_append (hargs _ (fun _ _ => rfl)) (hres _ _ _), hvars _, rfl, ?_, ?_⟩, ?_⟩
  · intro b off hx
    have hin : MemPlace.cell b off ∈ p := by simpa using hx
    rw [hB.frozen (hlt _ hin)]
    exact hz b off (by simpa using hin)
  · intro ha; cases ha
  · intro x hx _
    simpa using hx

theorem callsVal_enter {f : FuncId} {n : Nat} {rets : List ResultVar} {code : Code} {args : Array Value} {w : World} {R : Ending → World → Prop} (hf : Fun P f n rets code) (h : CallsVal P (.func (.func f) #[] #[]) args w R) : Calls P f args w R := by
  obtain ⟨fn, hfn, hb, hnt, hres, hname⟩ := hf.ex
  obtain ⟨g, as, hrun, hc⟩ := h
  have hrun : (callFunc f (#[] ++ args ++ #[])).run P w = .ok (.enter g as) w := by simpa [Deferred.ofValue, invoke] using hrun
  have : (callFunc f (#[] ++ args ++ #[])).run P w = .ok (.enter f args) w := by
    unfold callFunc
    simp only [Sem.run_bind, run_program, Result.andThen_ok, hfn, hname, hb]
    simp
  rw [this] at hrun
  cases hrun
  exact hc

/-- A law, from what is proved of its shallow function. -/
theorem law_calls {f : FuncId} {n : Nat} {rets : List ResultVar} {code : Code} {σ : Seat} {g : Nat} {C : List V → (V → Heap → Prop) → Heap → Prop} (hS : FnS σ W g C) (hg : σ.fn g = f) (hf : Fun σ.P f n rets code) {fn : Func} {s : ChangeSpec} {args : Array Value} {ds gs : List (DataW H)} {before : List MemPlace} {tb : TypeId}
    (hW : DataW.Whole enc σ.P fn.params.toList s.vars false W args.toList ds gs before) (hv : s.vars = []) (hl : laidOutB σ.P = true) (hr : (fn.params.toList.all fun t => σ.P.readableRec t && decide (t < σ.P.types.size)) = true)
    (hs : s.fn H ds = { results := [.lit (.bool true)], args := ds }) (hrt : fn.resultTypes = #[tb]) (hb : σ.P.underlying tb = some .bool)
    (vs : List V) (hvs : args.toList = V.vals σ vs) (wvs : ∀ v ∈ vs, v.wf) (hx : C vs (fun v _ => v = .bool true) (heap0 W)) :
    Calls σ.P f args W fun e W' => ∃ v, e = .returned v ∧ s.post enc σ.P fn false true false false W args v W' := by
  have h1 := hS vs _ (heap0 W) wvs hx W (sim0 σ W)
  rw [hg] at h1
  have h2 := callsVal_enter hf h1
  have ha : args = (V.vals σ vs).toArray := by rw [← hvs]
  rw [← ha] at h2
  refine h2.mono fun e W' ⟨r, h', he, _, hs', hk⟩ => ?_
  subst hk
  exact ⟨_, he, law_post hW hv hl hr hs hrt hb hs'.below⟩

end
end Go.Lift

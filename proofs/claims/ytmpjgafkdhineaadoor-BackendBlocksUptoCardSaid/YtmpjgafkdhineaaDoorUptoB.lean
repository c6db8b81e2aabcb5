/- What the bound of an '..UptoSaid' gives, all the way down: how long slices and strings are at most. -/
import Derived.Test.YtmpjgafkdhineaaDoorUptoKit

set_option linter.unusedSimpArgs false
set_option linter.unusedVariables false
set_option maxRecDepth 100000
namespace Go.Lift
open Go.Proofs.YtmpjgafkdhineaaDoor Go.RowKit

mutual
/-- All slices and strings are at most so long. -/
def Small (h : Heap) (N : Nat) : DS → List V → Prop
  | .int _, _ => True
  | .bool, _ => True
  | .str, l => ∀ s, l = [.str s] → s.length ≤ N
  | .slice sz e, l => ∀ s : Sl, l = [.sl s] → s.len ≤ N ∧ s.cap ≤ N ∧ ∀ p, s.p = some p → ∀ i, i < s.cap → ∀ cs : List V, cs.length = sz → (∀ j, j < sz → h.get p.b (p.o + i * sz + j) = cs[j]?) → Small h N e cs
  | .arr n sz e, l => ∀ i, i < n → Small h N e ((l.drop (i * sz)).take sz)
  | .struct fs, l => SmallL h N fs l
def SmallL (h : Heap) (N : Nat) : DSL → List V → Prop
  | .nil, _ => True
  | .cons o sz d fs, l => Small h N d ((l.drop o).take sz) ∧ SmallL h N fs l
end

section
variable {H : Type} {enc : TypeId × Value → H} {P : Program} {W : World}

theorem bulk_agg (l : List (DataW H)) : Rows.uptoBulk (DataW.agg l) = Rows.uptoBulkAll l + 1 := by simp only [Rows.uptoBulk]
theorem bulk_slice (l r : List (DataW H)) : Rows.uptoBulk (DataW.slice l r) = Rows.uptoBulkAll l + Rows.uptoBulkAll r + 1 := by simp only [Rows.uptoBulk]

theorem inv_at : ∀ (l : List Value) (j : Nat) (_ : told l) (hj : j < l.length) (hj2 : j < (invL l).length), Go.Lift.inv l[j] = some (invL l)[j] := by
  intro l
  induction l with
  | nil => intro j h hj; cases hj
  | cons c l ih =>
    intro j h hj hj2
    obtain ⟨y, hy⟩ := h c (by simp)
    have he : invL (c :: l) = y :: invL l := by simp [invL, hy]
    cases j with
    | zero => simp [he, hy]
    | succ j => simp only [he, List.getElem_cons_succ]; exact ih j (fun v hv => h v (by simp [hv])) _ _

/-- The cells of an element, as the memory ahead of the call has them. -/
theorem elem_get {a : Addr} {i sz : Nat} {cs' : List Value} (hcs : W.cells? 0 (a.add (i * sz)) sz = some cs') (hsp : a.spot = none) (ht : told cs') : cs'.length = sz ∧ (invL cs').length = sz ∧ ∀ j, j < sz → (heap0 W).get (Addr.ptr a).b ((Addr.ptr a).o + i * sz + j) = (invL cs')[j]? := by
  obtain ⟨b, o, sp⟩ := a
  simp only at hsp
  subst hsp
  obtain ⟨_, hcl, hat⟩ := World.cells?_some hcs
  obtain ⟨_, _, hv3⟩ := told_vals (σ := ⟨default, id, id⟩) ht
  refine ⟨hcl, hv3.trans hcl, fun j hj => ?_⟩
  have hj' : j < cs'.length := by omega
  have hcell := hat j hj
  rw [List.getElem?_eq_getElem hj'] at hcell
  have hadd : ((⟨b, o, none⟩ : Addr).add (i * sz)).add j = ⟨b, o + i * sz + j, none⟩ := by
    have e1 : ∀ (o n : Nat), (⟨b, o, none⟩ : Addr).add n = ⟨b, o + n, none⟩ := by
      intro o n
      unfold Addr.add
      split
      · rename_i hn; subst hn; rfl
      · rfl
    rw [e1, e1]
  rw [hadd] at hcell
  have hj2 : j < (invL cs').length := by omega
  rw [ptr_none, heap0_get hcell (inv_at cs' j ht hj' hj2), List.getElem?_eq_getElem hj2]

theorem spot_none {a : Addr} {sz : Nat} {cs' : List Value} (h0 : 0 < sz) (hcs : W.cells? 0 (a.add (0 * sz)) sz = some cs') : a.spot = none := by
  obtain ⟨_, hcl, hat⟩ := World.cells?_some hcs
  have hcell := hat 0 h0
  rw [List.getElem?_eq_getElem (by omega)] at hcell
  have := cell_at hcell
  simpa [Addr.add] using this

mutual
theorem small_of {N : Nat} : ∀ (d : DS) {t : TypeId} {fuel : Nat} {cs : List Value} {x : DataW H × List MemPlace}, dsOK P d t = true → DataW.trod enc P W 0 (fun _ => true) true fuel t cs = some x → Rows.uptoBulk x.1 ≤ N → Small (heap0 W) N d (invL cs)
  | .int k, t, fuel, cs, x, hk, h, hb => trivial
  | .bool, t, fuel, cs, x, hk, h, hb => trivial
  | .str, t, fuel, cs, x, hk, h, hb => by
    unfold dsOK at hk
    split at hk
    · rename_i hu
      obtain ⟨s, rfl, hx, hs⟩ := DataW.trod_string hu h
      intro s' e
      have : s' = s.data.toList := by
        have e2 : invL [Value.string s] = [V.str s.data.toList] := rfl
        rw [e2] at e
        simpa using e.symm
      subst this
      rw [hx] at hb
      simp only [Rows.uptoBulk] at hb
      omega
    · cases hk
  | .slice sz e, t, fuel, cs, x, hk, h, hb => by
    unfold dsOK at hk
    split at hk
    · rename_i u hu
      simp only [Bool.and_eq_true] at hk
      obtain ⟨⟨h1, h2⟩, h4⟩ := hk
      have h1 := Nat.eq_of_beq_eq_true h1
      have h2 : 0 < sz := by simpa using h2
      rcases Deep.open_slice hu h with ⟨rfl, _⟩ | ⟨a, len, cap, m, n, D, Pl, rfl, _, hl, hc, hm, hx, hg⟩
      · intro s es
        have e2 : invL [Value.slice none 0 0] = [V.sl ⟨none, 0, 0⟩] := rfl
        rw [e2] at es
        obtain rfl : s = ⟨none, 0, 0⟩ := by simpa using es.symm
        exact ⟨Nat.zero_le _, Nat.zero_le _, fun p hp => by cases hp⟩
      · simp only [if_true] at hm
        subst hm
        intro s es
        have e2 : invL [Value.slice (some a) len m] = [V.sl ⟨some (Addr.ptr a), len, m⟩] := rfl
        rw [e2] at es
        obtain rfl : s = ⟨some (Addr.ptr a), len, m⟩ := by simpa using es.symm
        rw [hx] at hb
        simp only [bulk_slice] at hb
        have b1 := bulk_length ((List.range len).map D)
        have b2 := bulk_length ((List.range (m - len)).map fun j => D (len + j))
        rw [List.length_map, List.length_range] at b1 b2
        refine ⟨by show len ≤ N; omega, by show m ≤ N; omega, fun p hp i hi cs2 hcl2 hget => ?_⟩
        cases hp
        have hi : i < m := hi
        obtain ⟨c0, hc0, _⟩ := hg 0 (by omega)
        rw [h1] at hc0
        have hsp := spot_none h2 hc0
        obtain ⟨cs', hcs, ht⟩ := hg i hi
        rw [h1] at hcs
        obtain ⟨g1, g2, g3⟩ := elem_get hcs hsp (told_of e h4 ht)
        have : cs2 = invL cs' := by
          refine List.ext_getElem? (fun j => ?_)
          rcases Nat.lt_or_ge j sz with hj | hj
          · rw [← hget j hj, g3 j hj]
          · rw [List.getElem?_eq_none (by omega), List.getElem?_eq_none (by omega)]
        subst this
        refine small_of e h4 ht ?_
        show Rows.uptoBulk (D i) ≤ N
        rcases Nat.lt_or_ge i len with hil | hil
        · have := bulk_part (d := D i) (l := (List.range len).map D) (List.mem_map.2 ⟨i, List.mem_range.2 hil, rfl⟩)
          omega
        · have := bulk_part (d := D i) (l := (List.range (m - len)).map fun j => D (len + j)) (List.mem_map.2 ⟨i - len, List.mem_range.2 (by omega), by rw [Nat.add_sub_cancel' hil]⟩)
          omega
    · cases hk
  | .arr n sz e, t, fuel, cs, x, hk, h, hb => by
    have htold := told_of (.arr n sz e) hk h
    unfold dsOK at hk
    split at hk
    · rename_i m u hu
      simp only [Bool.and_eq_true] at hk
      obtain ⟨⟨⟨h1, h2⟩, h3⟩, h4⟩ := hk
      have h1 := Nat.eq_of_beq_eq_true h1
      have h2 := Nat.eq_of_beq_eq_true h2
      have h3 := Nat.eq_of_beq_eq_true h3
      obtain ⟨xs, n', _, hx, hl, hxl, hg⟩ := DataW.trod_array hu h
      rw [h2] at hg
      intro i hi
      have hgq := hg i (by omega)
      have hxs : xs[i]? = some (xs[i]'(by omega)) := List.getElem?_eq_getElem _
      rw [hxs] at hgq
      have hbp : Rows.uptoBulk (xs[i]'(by omega)).1 ≤ N := by
        rw [hx] at hb
        simp only [bulk_agg] at hb
        have := bulk_part (d := (xs[i]'(by omega)).1) (l := xs.map (·.1)) (List.mem_map.2 ⟨_, List.getElem_mem (by omega), rfl⟩)
        omega
      have := small_of e h4 hgq hbp
      rwa [(told_take (told_drop htold _).1 _).2, (told_drop htold _).2] at this
    · cases hk
  | .struct fs, t, fuel, cs, x, hk, h, hb => by
    have htold := told_of (.struct fs) hk h
    unfold dsOK at hk
    split at hk
    · rename_i fields hu
      obtain ⟨xs, n, _, hx, hl, hxl, hg⟩ := DataW.trod_struct hu h
      exact smallL_of fs (fields := fields.toList) (i := 0) (n := P.cellsOf t) (m := n) (cs := cs) hk htold (by
        intro f hfm
        obtain ⟨j, hj, hjf⟩ := List.mem_iff_getElem.1 hfm
        have hgj := hg j f (by simp only [Array.length_toList] at hj; rw [Array.getElem?_eq_getElem hj]; simpa using hjf)
        simp only [Array.length_toList] at hj
        have hxs : xs[j]? = some (xs[j]'(by omega)) := List.getElem?_eq_getElem _
        rw [hxs] at hgj
        refine ⟨_, hgj, ?_⟩
        rw [hx] at hb
        simp only [bulk_agg] at hb
        have := bulk_part (d := (xs[j]'(by omega)).1) (l := xs.map (·.1)) (List.mem_map.2 ⟨_, List.getElem_mem (by omega), rfl⟩)
        omega)
    · cases hk
theorem smallL_of {N : Nat} : ∀ (fs : DSL) {fields : List Field} {i n m : Nat} {cs : List Value}, dslOK P fs fields i n = true → told cs → (∀ f ∈ fields, ∃ x : DataW H × List MemPlace, DataW.trod enc P W 0 (fun _ => true) true m f.type ((cs.drop f.offset).take (P.cellsOf f.type)) = some x ∧ Rows.uptoBulk x.1 ≤ N) → SmallL (heap0 W) N fs (invL cs)
  | .nil, fields, i, n, m, cs, hk, hl, hg => trivial
  | .cons o sz d fs, fields, i, n, m, cs, hk, hl, hg => by
    cases fields with
    | nil => simp [dslOK] at hk
    | cons f l =>
      simp only [dslOK, Bool.and_eq_true] at hk
      obtain ⟨⟨⟨⟨h0, h1⟩, h2⟩, h3⟩, h4⟩ := hk
      have h0 := Nat.eq_of_beq_eq_true h0
      have h1 := Nat.eq_of_beq_eq_true h1
      have h2 := Nat.eq_of_beq_eq_true h2
      obtain ⟨x, hx, hb⟩ := hg f (by simp)
      rw [h1, h2] at hx
      have ta := small_of d h3 hx hb
      rw [(told_take (told_drop hl _).1 _).2, (told_drop hl _).2] at ta
      exact ⟨ta, smallL_of fs h4 hl (fun f hf => hg f (by simp [hf]))⟩
end

/-- What an argument is, and how long its parts are. -/
theorem arg_fits2 {σ : Seat} {t : TypeId} {v : Value} {d : DataW H} {ps : List MemPlace} {ds : DS} (hk : dsOK P ds t = true) (h : DataW.Trod enc P W 0 (fun _ => true) true t v d ps) :
    ∃ vs : List V, v.cells.toList = V.vals σ vs ∧ (∀ u ∈ vs, u.one = true) ∧ Fits (heap0 W) ds vs ∧ ∀ N, Rows.uptoBulk d ≤ N → Small (heap0 W) N ds vs := by
  obtain ⟨fuel, hf⟩ := h
  have ht := told_of ds hk hf
  obtain ⟨h1, h2, _⟩ := told_vals (σ := σ) ht
  exact ⟨_, h1, h2, fits_of ds hk hf, fun N hN => small_of ds hk hf hN⟩

end
end Go.Lift

/- What the bound of an '..UptoSaid' gives: how long a slice in a struct is at most. -/
import Derived.Test.YtmpjgafkdhineaaLiftO
import Derived.Test.YtmpjgafkdhineaaRows
set_option linter.unusedSimpArgs false
set_option linter.unusedVariables false
set_option maxRecDepth 100000
namespace Go.Lift
open Go.Proofs.Ytmpjgafkdhineaa

theorem bulk_one {H : Type} (d : DataW H) : 1 ≤ Rows.uptoBulk d := by
  cases d with
  | lit l => cases l <;> simp [Rows.uptoBulk]
  | nil => simp [Rows.uptoBulk]
  | ptr d => simp [Rows.uptoBulk]
  | slice elems spare => simp [Rows.uptoBulk]
  | agg parts => simp [Rows.uptoBulk]
  | iface t d => simp [Rows.uptoBulk]
  | map entries => simp [Rows.uptoBulk]
  | held h => simp [Rows.uptoBulk]

theorem bulk_part {H : Type} {d : DataW H} {l : List (DataW H)} (h : d ∈ l) : Rows.uptoBulk d ≤ Rows.uptoBulkAll l := by
  induction l with
  | nil => cases h
  | cons x r ih =>
    simp only [Rows.uptoBulkAll]
    cases List.mem_cons.1 h with
    | inl e => subst e; omega
    | inr e => have := ih e; omega

theorem bulk_length {H : Type} (l : List (DataW H)) : l.length ≤ Rows.uptoBulkAll l := by
  induction l with
  | nil => simp [Rows.uptoBulkAll]
  | cons x r ih => have := bulk_one x; simp only [Rows.uptoBulkAll, List.length_cons]; omega

/-- A slice in a struct is at most as long as the struct's bulk. -/
theorem field_len {H : Type} {enc : TypeId × Value → H} {P : Program} {w : World} {spare : Nat → Bool} {held : Bool} {fuel t : Nat} {cs : List Value} {x : DataW H × List MemPlace} {fs : Array Field} (hu : P.underlying t = some (.struct fs)) (h : DataW.trod enc P w 0 spare held fuel t cs = some x) (i : Nat) {f : Field} (hf : fs[i]? = some f) {e : Nat} (hfu : P.underlying f.type = some (.slice e)) {a : Option Addr} {len cap : Nat} (hc : (cs.drop f.offset).take (P.cellsOf f.type) = [Value.slice a len cap]) : len ≤ Rows.uptoBulk x.1 := by
  obtain ⟨xs, n, _, rfl, _, hl, hx⟩ := DataW.trod_struct hu h
  have h1 := hx i f hf
  have hi : i < fs.size := by
    rcases Nat.lt_or_ge i fs.size with h2 | h2
    · exact h2
    · rw [Array.getElem?_eq_none h2] at hf; cases hf
  have h2 : xs[i]? = some xs[i] := List.getElem?_eq_getElem (by omega)
  rw [h2, hc] at h1
  have hm : xs[i].1 ∈ xs.map (·.1) := List.mem_map.2 ⟨_, List.getElem_mem (by omega), rfl⟩
  have hp := bulk_part hm
  have hb : Rows.uptoBulk (DataW.agg (xs.map (·.1))) = Rows.uptoBulkAll (xs.map (·.1)) + 1 := by simp only [Rows.uptoBulk]
  rcases DataW.trod_slice hfu h1 with ⟨h3, _⟩ | ⟨a', len', cap', elems, rest, n', _, h3, h4, _, _, _, h5, _⟩
  · simp only [List.cons.injEq, Value.slice.injEq, and_true] at h3
    omega
  · simp only [List.cons.injEq, Value.slice.injEq, and_true] at h3
    have h6 : Rows.uptoBulk (xs[i].1) = Rows.uptoBulkAll (elems.map (·.1)) + Rows.uptoBulkAll (rest.map (·.1)) + 1 := by rw [h4]; simp only [Rows.uptoBulk]
    have h7 := bulk_length (elems.map (·.1))
    rw [List.length_map] at h7
    show len ≤ Rows.uptoBulk (DataW.agg (xs.map (·.1)))
    omega

/-- Part i of a struct is a slice, at cell o. -/
def sliceAt (P : Program) (t i o : Nat) : Bool :=
  match P.underlying t with
  | some (.struct fs) => match fs[i]? with
    | some f => Nat.beq f.offset o && Nat.beq (P.cellsOf f.type) 1 && (match P.underlying f.type with | some (.slice _) => true | _ => false)
    | none => false
  | _ => false

theorem slice_len {H : Type} {enc : TypeId × Value → H} {P : Program} {w : World} {spare : Nat → Bool} {held : Bool} {fuel t : Nat} {cs : List Value} {x : DataW H × List MemPlace} {i o : Nat} (hs : sliceAt P t i o = true) (h : DataW.trod enc P w 0 spare held fuel t cs = some x) {l : List V} {σ : Seat} (hl : cs = V.vals σ l) {s : Sl} (hg : l[o]? = some (.sl s)) : s.len ≤ Rows.uptoBulk x.1 := by
  unfold sliceAt at hs
  split at hs
  case h_2 => cases hs
  case h_1 fs hu =>
    split at hs
    case h_2 => cases hs
    case h_1 f hf =>
      simp only [Bool.and_eq_true] at hs
      obtain ⟨⟨ho', h1'⟩, h2⟩ := hs
      have ho := Nat.eq_of_beq_eq_true ho'
      have h1 := Nat.eq_of_beq_eq_true h1'
      split at h2
      case h_2 => cases h2
      case h_1 e hfu =>
        have hlt : o < l.length := by
          rcases Nat.lt_or_ge o l.length with h3 | h3
          · exact h3
          · rw [List.getElem?_eq_none h3] at hg; cases hg
        have hc : (cs.drop f.offset).take (P.cellsOf f.type) = V.vals σ [.sl s] := by
          rw [h1, ho, hl, vals_drop, vals_take]
          congr 1
          rw [List.drop_eq_getElem_cons hlt, List.take_succ_cons, List.take_zero]
          rw [List.getElem?_eq_getElem hlt] at hg
          rw [Option.some.inj hg]
        exact field_len hu h i hf hfu hc

theorem small_part {H : Type} {e : DataW H} {ds : List (DataW H)} (h : Rows.uptoSmall H ds = true) (he : e ∈ ds) : Rows.uptoBulk e ≤ 1048576 := Nat.le_trans (bulk_part he) (of_decide_eq_true h)

end Go.Lift

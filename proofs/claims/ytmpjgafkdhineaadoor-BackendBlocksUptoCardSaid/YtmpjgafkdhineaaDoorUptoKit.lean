/- What the bound of an '..UptoSaid' gives: how long a slice in a struct is at most. -/
import Derived.Test.YtmpjgafkdhineaaDoorLb
import Derived.Test.YtmpjgafkdhineaaDoorRows

set_option linter.unusedSimpArgs false
set_option linter.unusedVariables false
set_option maxRecDepth 100000
namespace Go.Lift
open Go.Proofs.YtmpjgafkdhineaaDoor

theorem bulk_one {H : Type} (d : DataW H) : 1 ≤ Rows.uptoBulk d := by
  cases d with
  | lit l => cases l <;> simp [Rows.uptoBulk]
  | nil => simp [Rows.uptoBulk]
  | ptr d => simp [Rows.uptoBulk]
  | slice elems spare => simp [Rows.uptoBulk]
  | agg parts => simp [Rows.uptoBulk]
  | iface t d => simp [Rows.uptoBulk]
  | map entries => simp [Rows.uptoBulk]
  | held h => simp [Rows.uptoBulk]

theorem bulk_part {H : Type} {d : DataW H} {l : List (DataW H)} (h : d ∈ l) : Rows.uptoBulk d ≤ Rows.uptoBulkAll l := by
  induction l with
  | nil => cases h
  | cons x r ih =>
    simp only [Rows.uptoBulkAll]
    cases List.mem_cons.1 h with
    | inl e => subst e; omega
    | inr e => have := ih e; omega

theorem bulk_length {H : Type} (l : List (DataW H)) : l.length ≤ Rows.uptoBulkAll l := by
  induction l with
  | nil => simp [Rows.uptoBulkAll]
  | cons x r ih => have := bulk_one x; simp only [Rows.uptoBulkAll, List.length_cons]; omega

/-- Part i of a struct is a slice, at cell o. -/
def sliceAt (P : Program) (t i o : Nat) : Bool :=
  match P.underlying t with
  | some (.struct fs) => match fs[i]? with
    | some f => Nat.beq f.offset o && Nat.beq (P.cellsOf f.type) 1 && (match P.underlying f.type with | some (.slice _) => true | _ => false)
    | none => false
  | _ => false

theorem small_part {H : Type} {e : DataW H} {ds : List (DataW H)} (h : Rows.uptoSmall H ds = true) (he : e ∈ ds) : Rows.uptoBulk e ≤ 1048576 := Nat.le_trans (bulk_part he) (of_decide_eq_true h)

end Go.Lift

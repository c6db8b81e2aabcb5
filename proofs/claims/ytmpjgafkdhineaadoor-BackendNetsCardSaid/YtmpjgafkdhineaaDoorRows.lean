/-
  NARROWER THAN 'FOR EVERY INPUT', by the rows' own cells (each row's printed sentence says how): BackendBlocks: laid · BackendNets: laid.
  DERIVED. THE GIVEN ROWS OF THIS SEAT. 2 by the template 'for every input the law returns true; each argument reads behind the call as it read before'; 0 by the template 'total and deterministic' (their statements: YtmpjgafkdhineaaDoorTotals.lean).
  GIVEN WITH THE SEED: the statements are not yours to turn. If you find one false, say at which input.
  Laid BY PROGRAM, IN A SANDBOX (cutbox-rows.mjs): the forced cells as the released guide's own fill.sh prints them over the translation ecdd0814eed67475… (all of the seat's roots in one cut). By AI agents, Wed Nov 11 2026. No macro, syntax, notation, axiom, sorry.
-/
import Derived.Test.YtmpjgafkdhineaaDoorChecked
import GoSem.Claim
import GoSem.ClaimJoined
import GoSem.ClaimMapViews
import Derived.JoinedTies
import Derived.KernelRfl
namespace Go.Proofs.YtmpjgafkdhineaaDoor
/- THE CELL 'sum', in the pinned program and in every row, IS THE sha256 OF THE DUMP (.gsa) THAT YtmpjgafkdhineaaDoorProg.lean LOADS. Nothing in Lean hashes anything: it is a label: what it is worth is what the hold of that sum in a sandbox is worth. -/
noncomputable def Tryd.pinned : Pinned := { name := "ytmpjgafkdhineaadoor", sum := "ecdd0814eed67475433525043bef1c6e4a95959e16f70ab52c9c934563534107", checked := Tryd.checked }
namespace Rows
def none {H : Type} : Left H := { results := [], args := [] }

/- WHAT THE LISTED PACKAGE-LEVEL VARIABLES READ AS WHEN THE CALL BEGINS. Each datum BY PROGRAM (the guide's laid-datum.mjs) off the statement by which the dump's own 'gosem.cut.vars' lays the variable. In a bare row this is a premise. The card (YtmpjgafkdhineaaDoorCards.lean) ties it to the program's text. -/
def laid_palisade_word_widths {H : Type} : DataW H := .agg [.lit (.int .i64 1), .lit (.int .i64 0), .lit (.int .i64 4), .lit (.int .i64 8)]

/-- 'palisadelaw24.BackendBlocks': WHATEVER THE INPUT: true; the input reads as it did. -/
def backendBlocksSpec : ChangeSpec := { name := "backendBlocks", fn := fun _ => fun
  | [d] => { results := [.lit (.bool true)], args := [d] }
  | _ => none }
def backendBlocksRow : OpenClaim := { program := "ytmpjgafkdhineaadoor", sum := "ecdd0814eed67475433525043bef1c6e4a95959e16f70ab52c9c934563534107", func := "palisade/palisadelaw24.BackendBlocks", spec := "backendBlocks", unfollowed := true, recurses := true, named := ["palisade/word.widths"], apart := false, laid := [("palisade/word.widths", laid_palisade_word_widths)] }
def BackendBlocksSaid : Prop := backendBlocksRow.holds Tryd.pinned (OpenSpec.ofChange backendBlocksSpec)

/-- ITS FALSE NEIGHBOUR: 'it returns false'. Refute it at one input. -/
def backendBlocksWrong : ChangeSpec := { name := "backendBlocks", fn := fun _ => fun
  | [d] => { results := [.lit (.bool false)], args := [d] }
  | _ => none }
def BackendBlocksWrongFalsely : Prop := backendBlocksRow.holds Tryd.pinned (OpenSpec.ofChange backendBlocksWrong)

/-- 'palisadelaw24.BackendNets': WHATEVER THE INPUT: true; the input reads as it did. -/
def backendNetsSpec : ChangeSpec := { name := "backendNets", fn := fun _ => fun
  | [d1, d2, d3] => { results := [.lit (.bool true)], args := [d1, d2, d3] }
  | _ => none }
def backendNetsRow : OpenClaim := { program := "ytmpjgafkdhineaadoor", sum := "ecdd0814eed67475433525043bef1c6e4a95959e16f70ab52c9c934563534107", func := "palisade/palisadelaw24.BackendNets", spec := "backendNets", unfollowed := true, recurses := true, named := ["palisade/word.widths"], apart := false, laid := [("palisade/word.widths", laid_palisade_word_widths)] }
def BackendNetsSaid : Prop := backendNetsRow.holds Tryd.pinned (OpenSpec.ofChange backendNetsSpec)

/-- ITS FALSE NEIGHBOUR: 'it returns false'. Refute it at one input. -/
def backendNetsWrong : ChangeSpec := { name := "backendNets", fn := fun _ => fun
  | [d1, d2, d3] => { results := [.lit (.bool false)], args := [d1, d2, d3] }
  | _ => none }
def BackendNetsWrongFalsely : Prop := backendNetsRow.holds Tryd.pinned (OpenSpec.ofChange backendNetsWrong)

/- THE SECOND FORM. 'bulk': how many values and letters a reading holds, each counted each time it is reached (what is shared counts as often as it is met; a slice's spare places count too). A statement '..UptoSaid' is the law's where the arguments, and the package variables that the reading takes, are together of bulk at most 1048576: NARROWER than '..Said'. Prove '..Said' where nothing that the law and all that it calls make is longer than what came in: it says more and counts as full. Else prove '..UptoSaid'. A law counts once. -/
mutual
def uptoBulk {H : Type} : DataW H → Nat
  | .lit (.string bytes) => bytes.length + 1
  | .lit _ => 1
  | .nil => 1
  | .ptr d => uptoBulk d + 1
  | .slice elems spare => uptoBulkAll elems + uptoBulkAll spare + 1
  | .agg parts => uptoBulkAll parts + 1
  | .iface _ d => uptoBulk d + 1
  | .map entries => uptoBulkEntries entries + 1
  | .held _ => 1
def uptoBulkAll {H : Type} : List (DataW H) → Nat
  | [] => 0
  | d :: r => uptoBulk d + uptoBulkAll r
def uptoBulkEntries {H : Type} : List (Lit × DataW H) → Nat
  | [] => 0
  | x :: r => uptoBulkEntry x + uptoBulkEntries r
def uptoBulkEntry {H : Type} : Lit × DataW H → Nat
  | (.string bytes, d) => bytes.length + uptoBulk d + 1
  | (_, d) => uptoBulk d + 1
 end
def uptoSmall : (H : Type) → List (DataW H) → Bool := fun _ ds => decide (uptoBulkAll ds ≤ 1048576)
def OpenSpec.upto (s : _root_.Go.ChangeSpec) : _root_.Go.OpenSpec := { _root_.Go.OpenSpec.ofChange s with cond := some uptoSmall }

/-- 'palisadelaw24.BackendBlocks', WHERE WHAT IT READS IS OF BULK AT MOST 1048576: true; the input reads as it did. -/
def backendBlocksUptoRow : OpenClaim := { program := "ytmpjgafkdhineaadoor", sum := "ecdd0814eed67475433525043bef1c6e4a95959e16f70ab52c9c934563534107", func := "palisade/palisadelaw24.BackendBlocks", spec := "backendBlocks", unfollowed := true, recurses := true, named := ["palisade/word.widths"], apart := false, laid := [("palisade/word.widths", laid_palisade_word_widths)], narrowed := true }
def BackendBlocksUptoSaid : Prop := backendBlocksUptoRow.holds Tryd.pinned (OpenSpec.upto backendBlocksSpec)

/-- 'palisadelaw24.BackendNets', WHERE WHAT IT READS IS OF BULK AT MOST 1048576: true; the input reads as it did. -/
def backendNetsUptoRow : OpenClaim := { program := "ytmpjgafkdhineaadoor", sum := "ecdd0814eed67475433525043bef1c6e4a95959e16f70ab52c9c934563534107", func := "palisade/palisadelaw24.BackendNets", spec := "backendNets", unfollowed := true, recurses := true, named := ["palisade/word.widths"], apart := false, laid := [("palisade/word.widths", laid_palisade_word_widths)], narrowed := true }
def BackendNetsUptoSaid : Prop := backendNetsUptoRow.holds Tryd.pinned (OpenSpec.upto backendNetsSpec)

end Rows
end Go.Proofs.YtmpjgafkdhineaaDoor

/-
  DERIVED. GIVEN WITH THE SEED: THE CARDS: each row of YtgigbjieppllgaaDoorRows.lean that lists a variable, with what it lists TIED to the program's text (the seventh form; the later family's looks); each row that meets fmt, with fmt's text TOLD by the authors' own Lean function (tested against real Go, not proved from fmt's source: count such statements apart). THE CARD IS WHAT COUNTS. Prove the row's statement (the work); the ties are given (YtgigbjieppllgaaDoorTie.lean); close each card by the builder's one call (the guide's Derived/Test/ToyasCard.lean, 'card_holds'). Laid BY PROGRAM, IN A SANDBOX (cutbox-door.mjs). By AI agents, Wed Nov 11 2026. No macro, syntax, notation, axiom, sorry.
-/
import Derived.Test.YtgigbjieppllgaaDoorRows
import GoSem.ClaimSeven
namespace Go.Proofs.YtgigbjieppllgaaDoor
namespace Rows

/-- THE TIED CARD OF 'palisadelaw03.AsmShows'. -/
def asmShowsCard : Claim7 := { stood := { row := asmShowsRow, standIns := [], harness := (true, "2b95d8fde32583079f3ebfeaec1c23a07b25063c7a08144757a798bb10c6ca57"), looks := false }, kinds := [], alts := [], laidByText := true, laidKinds := [.data, .data, .data, .listed, .data], laidTests := true, laidLooks := .later }
def AsmShowsCardSaid : Prop := Claim7.holds Tryd.pinned (.plain (OpenSpec.ofChange asmShowsSpec)) asmShowsCard

/-- THE SECOND FORM's CARD OF 'palisadelaw03.AsmShows'. -/
def asmShowsUptoCard : Claim7 := { stood := { row := asmShowsUptoRow, standIns := [], harness := (true, "2b95d8fde32583079f3ebfeaec1c23a07b25063c7a08144757a798bb10c6ca57"), looks := false }, kinds := [], alts := [], laidByText := true, laidKinds := [.data, .data, .data, .listed, .data], laidTests := true, laidLooks := .later }
def AsmShowsUptoCardSaid : Prop := Claim7.holds Tryd.pinned (.plain (OpenSpec.upto asmShowsSpec)) asmShowsUptoCard
end Rows
end Go.Proofs.YtgigbjieppllgaaDoor

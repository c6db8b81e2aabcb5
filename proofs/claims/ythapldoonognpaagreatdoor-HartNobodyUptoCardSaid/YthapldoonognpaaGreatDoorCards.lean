/-
  DERIVED. GIVEN WITH THE SEED: THE CARDS: each row of YthapldoonognpaaGreatDoorRows.lean that lists a variable, with what it lists TIED to the program's text (the seventh form; the later family's looks); each row that meets fmt, with fmt's text TOLD by the authors' own Lean function (tested against real Go, not proved from fmt's source: count such statements apart). THE CARD IS WHAT COUNTS. Prove the row's statement (the work); the ties are given (YthapldoonognpaaGreatDoorTie.lean); close each card by the builder's one call (the guide's Derived/Test/ToyasCard.lean, 'card_holds'). Laid BY PROGRAM, IN A SANDBOX (cutbox-door.mjs). By AI agents, Wed Nov 11 2026. No macro, syntax, notation, axiom, sorry.
-/
import Derived.Test.YthapldoonognpaaGreatDoorRows
import GoSem.ClaimSeven
namespace Go.Proofs.YthapldoonognpaaGreatDoor
namespace Rows

/-- THE TIED CARD OF 'palisadelaw09.HartNobody'. -/
def hartNobodyCard : Claim7 := { stood := { row := hartNobodyRow, standIns := [], harness := (true, "a7c614b441c06649a920f170e1a817c6f3258133312cb79b8e344227a89c68ec"), looks := false }, kinds := [], alts := [], laidByText := true, laidKinds := [.data], laidTests := true, laidLooks := .later }
def HartNobodyCardSaid : Prop := Claim7.holds Tryz.pinned (.plain (OpenSpec.ofChange hartNobodySpec)) hartNobodyCard

/-- THE SECOND FORM's CARD OF 'palisadelaw09.HartNobody'. -/
def hartNobodyUptoCard : Claim7 := { stood := { row := hartNobodyUptoRow, standIns := [], harness := (true, "a7c614b441c06649a920f170e1a817c6f3258133312cb79b8e344227a89c68ec"), looks := false }, kinds := [], alts := [], laidByText := true, laidKinds := [.data], laidTests := true, laidLooks := .later }
def HartNobodyUptoCardSaid : Prop := Claim7.holds Tryz.pinned (.plain (OpenSpec.upto hartNobodySpec)) hartNobodyUptoCard
end Rows
end Go.Proofs.YthapldoonognpaaGreatDoor

/-
  DERIVED. GIVEN WITH THE SEED: THE CARDS: each row of YtlkkhigljcdbiaaGreatDoorRows.lean that lists a variable, with what it lists TIED to the program's text (the seventh form; the later family's looks); each row that meets fmt, with fmt's text TOLD by the authors' own Lean function (tested against real Go, not proved from fmt's source: count such statements apart). THE CARD IS WHAT COUNTS. Prove the row's statement (the work); the ties are given (YtlkkhigljcdbiaaGreatDoorTie.lean); close each card by the builder's one call (the guide's Derived/Test/ToyasCard.lean, 'card_holds'). Laid BY PROGRAM, IN A SANDBOX (cutbox-door.mjs). By AI agents, Wed Nov 11 2026. No macro, syntax, notation, axiom, sorry.
-/
import Derived.Test.YtlkkhigljcdbiaaGreatDoorRows
import GoSem.ClaimSeven
namespace Go.Proofs.YtlkkhigljcdbiaaGreatDoor
namespace Rows

/-- THE TIED CARD OF 'palisadelaw26.HyperNobody'. -/
def hyperNobodyCard : Claim7 := { stood := { row := hyperNobodyRow, standIns := [], harness := (true, "e64c46ac9794add2759918b5752135577879e7f1c0e447313e7febba180f1b19"), looks := true }, kinds := [], alts := [], laidByText := true, laidKinds := [.data, .data], laidTests := true, laidLooks := .later }
def HyperNobodyCardSaid : Prop := Claim7.holds Tryz.pinned (.plain (OpenSpec.ofChange hyperNobodySpec)) hyperNobodyCard

/-- THE SECOND FORM's CARD OF 'palisadelaw26.HyperNobody'. -/
def hyperNobodyUptoCard : Claim7 := { stood := { row := hyperNobodyUptoRow, standIns := [], harness := (true, "e64c46ac9794add2759918b5752135577879e7f1c0e447313e7febba180f1b19"), looks := true }, kinds := [], alts := [], laidByText := true, laidKinds := [.data, .data], laidTests := true, laidLooks := .later }
def HyperNobodyUptoCardSaid : Prop := Claim7.holds Tryz.pinned (.plain (OpenSpec.upto hyperNobodySpec)) hyperNobodyUptoCard
end Rows
end Go.Proofs.YtlkkhigljcdbiaaGreatDoor

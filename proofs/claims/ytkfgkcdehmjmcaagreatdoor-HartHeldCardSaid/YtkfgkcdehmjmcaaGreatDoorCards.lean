/-
  DERIVED. GIVEN WITH THE SEED: THE CARDS: each row of YtkfgkcdehmjmcaaGreatDoorRows.lean that lists a variable, with what it lists TIED to the program's text (the seventh form; the later family's looks); each row that meets fmt, with fmt's text TOLD by the authors' own Lean function (tested against real Go, not proved from fmt's source: count such statements apart). THE CARD IS WHAT COUNTS. Prove the row's statement (the work); the ties are given (YtkfgkcdehmjmcaaGreatDoorTie.lean); close each card by the builder's one call (the guide's Derived/Test/ToyasCard.lean, 'card_holds'). Laid BY PROGRAM, IN A SANDBOX (cutbox-door.mjs). By AI agents, Wed Nov 11 2026. No macro, syntax, notation, axiom, sorry.
-/
import Derived.Test.YtkfgkcdehmjmcaaGreatDoorRows
import GoSem.ClaimSeven
namespace Go.Proofs.YtkfgkcdehmjmcaaGreatDoor
namespace Rows

/-- THE TIED CARD OF 'palisadelaw09.HartNobody'. -/
def hartNobodyCard : Claim7 := { stood := { row := hartNobodyRow, standIns := [], harness := (true, "092dbe2db9402e6b433402f389d15c009a9cfb72eb1553d4a98fb647e04aae57"), looks := false }, kinds := [], alts := [], laidByText := true, laidKinds := [.data], laidTests := true, laidLooks := .later }
def HartNobodyCardSaid : Prop := Claim7.holds Tryz.pinned (.plain (OpenSpec.ofChange hartNobodySpec)) hartNobodyCard

/-- THE TIED CARD OF 'palisadelaw09.HartHeld'. -/
def hartHeldCard : Claim7 := { stood := { row := hartHeldRow, standIns := [], harness := (true, "092dbe2db9402e6b433402f389d15c009a9cfb72eb1553d4a98fb647e04aae57"), looks := false }, kinds := [], alts := [], laidByText := true, laidKinds := [.data], laidTests := true, laidLooks := .later }
def HartHeldCardSaid : Prop := Claim7.holds Tryz.pinned (.plain (OpenSpec.ofChange hartHeldSpec)) hartHeldCard

/-- THE TIED CARD OF 'palisadelaw09.HartMath'. -/
def hartMathCard : Claim7 := { stood := { row := hartMathRow, standIns := [], harness := (true, "092dbe2db9402e6b433402f389d15c009a9cfb72eb1553d4a98fb647e04aae57"), looks := false }, kinds := [], alts := [], laidByText := true, laidKinds := [.data], laidTests := true, laidLooks := .later }
def HartMathCardSaid : Prop := Claim7.holds Tryz.pinned (.plain (OpenSpec.ofChange hartMathSpec)) hartMathCard

/-- THE TIED CARD OF 'palisadelaw09.HartTraps'. -/
def hartTrapsCard : Claim7 := { stood := { row := hartTrapsRow, standIns := [], harness := (true, "092dbe2db9402e6b433402f389d15c009a9cfb72eb1553d4a98fb647e04aae57"), looks := false }, kinds := [], alts := [], laidByText := true, laidKinds := [.data], laidTests := true, laidLooks := .later }
def HartTrapsCardSaid : Prop := Claim7.holds Tryz.pinned (.plain (OpenSpec.ofChange hartTrapsSpec)) hartTrapsCard

/-- THE TIED CARD OF 'palisadelaw09.HartTwice'. -/
def hartTwiceCard : Claim7 := { stood := { row := hartTwiceRow, standIns := [], harness := (true, "092dbe2db9402e6b433402f389d15c009a9cfb72eb1553d4a98fb647e04aae57"), looks := false }, kinds := [], alts := [], laidByText := true, laidKinds := [.data], laidTests := true, laidLooks := .later }
def HartTwiceCardSaid : Prop := Claim7.holds Tryz.pinned (.plain (OpenSpec.ofChange hartTwiceSpec)) hartTwiceCard

/-- THE SECOND FORM's CARD OF 'palisadelaw09.HartNobody'. -/
def hartNobodyUptoCard : Claim7 := { stood := { row := hartNobodyUptoRow, standIns := [], harness := (true, "092dbe2db9402e6b433402f389d15c009a9cfb72eb1553d4a98fb647e04aae57"), looks := false }, kinds := [], alts := [], laidByText := true, laidKinds := [.data], laidTests := true, laidLooks := .later }
def HartNobodyUptoCardSaid : Prop := Claim7.holds Tryz.pinned (.plain (OpenSpec.upto hartNobodySpec)) hartNobodyUptoCard

/-- THE SECOND FORM's CARD OF 'palisadelaw09.HartHeld'. -/
def hartHeldUptoCard : Claim7 := { stood := { row := hartHeldUptoRow, standIns := [], harness := (true, "092dbe2db9402e6b433402f389d15c009a9cfb72eb1553d4a98fb647e04aae57"), looks := false }, kinds := [], alts := [], laidByText := true, laidKinds := [.data], laidTests := true, laidLooks := .later }
def HartHeldUptoCardSaid : Prop := Claim7.holds Tryz.pinned (.plain (OpenSpec.upto hartHeldSpec)) hartHeldUptoCard

/-- THE SECOND FORM's CARD OF 'palisadelaw09.HartMath'. -/
def hartMathUptoCard : Claim7 := { stood := { row := hartMathUptoRow, standIns := [], harness := (true, "092dbe2db9402e6b433402f389d15c009a9cfb72eb1553d4a98fb647e04aae57"), looks := false }, kinds := [], alts := [], laidByText := true, laidKinds := [.data], laidTests := true, laidLooks := .later }
def HartMathUptoCardSaid : Prop := Claim7.holds Tryz.pinned (.plain (OpenSpec.upto hartMathSpec)) hartMathUptoCard

/-- THE SECOND FORM's CARD OF 'palisadelaw09.HartTraps'. -/
def hartTrapsUptoCard : Claim7 := { stood := { row := hartTrapsUptoRow, standIns := [], harness := (true, "092dbe2db9402e6b433402f389d15c009a9cfb72eb1553d4a98fb647e04aae57"), looks := false }, kinds := [], alts := [], laidByText := true, laidKinds := [.data], laidTests := true, laidLooks := .later }
def HartTrapsUptoCardSaid : Prop := Claim7.holds Tryz.pinned (.plain (OpenSpec.upto hartTrapsSpec)) hartTrapsUptoCard

/-- THE SECOND FORM's CARD OF 'palisadelaw09.HartTwice'. -/
def hartTwiceUptoCard : Claim7 := { stood := { row := hartTwiceUptoRow, standIns := [], harness := (true, "092dbe2db9402e6b433402f389d15c009a9cfb72eb1553d4a98fb647e04aae57"), looks := false }, kinds := [], alts := [], laidByText := true, laidKinds := [.data], laidTests := true, laidLooks := .later }
def HartTwiceUptoCardSaid : Prop := Claim7.holds Tryz.pinned (.plain (OpenSpec.upto hartTwiceSpec)) hartTwiceUptoCard
end Rows
end Go.Proofs.YtkfgkcdehmjmcaaGreatDoor

/-
  DERIVED. GIVEN WITH THE SEED: THE CARDS: each row of YtcaeaolgijjjnaaGreatDoorRows.lean that lists a variable, with what it lists TIED to the program's text (the seventh form; the later family's looks); each row that meets fmt, with fmt's text TOLD by the authors' own Lean function (tested against real Go, not proved from fmt's source: count such statements apart). THE CARD IS WHAT COUNTS. Prove the row's statement (the work); the ties are given (YtcaeaolgijjjnaaGreatDoorTie.lean); close each card by the builder's one call (the guide's Derived/Test/ToyasCard.lean, 'card_holds'). Laid BY PROGRAM, IN A SANDBOX (cutbox-door.mjs). By AI agents, Wed Nov 11 2026. No macro, syntax, notation, axiom, sorry.
-/
import Derived.Test.YtcaeaolgijjjnaaGreatDoorRows
import GoSem.ClaimSeven
namespace Go.Proofs.YtcaeaolgijjjnaaGreatDoor
namespace Rows

/-- THE TIED CARD OF 'palisadelaw03.AsmAssembles'. -/
def asmAssemblesCard : Claim7 := { stood := { row := asmAssemblesRow, standIns := [], harness := (true, "a87dd2bc74e240da5a2324b3b5bed7633988d4658f72b5f2c36bb80e81b7d689"), looks := true }, kinds := [], alts := [], laidByText := true, laidKinds := [.data, .data, .data, .data, .handle, .sentinel, .sentinel, .listed, .data, .pinned], laidTests := true, laidLooks := .later }
def AsmAssemblesCardSaid : Prop := Claim7.holds Tryz.pinned (.plain (OpenSpec.ofChange asmAssemblesSpec)) asmAssemblesCard

/-- THE TIED CARD OF 'palisadelaw03.AsmMarks'. -/
def asmMarksCard : Claim7 := { stood := { row := asmMarksRow, standIns := [], harness := (true, "a87dd2bc74e240da5a2324b3b5bed7633988d4658f72b5f2c36bb80e81b7d689"), looks := true }, kinds := [], alts := [], laidByText := true, laidKinds := [.data, .data, .data, .data, .handle, .sentinel, .sentinel, .listed, .data, .pinned], laidTests := true, laidLooks := .later }
def AsmMarksCardSaid : Prop := Claim7.holds Tryz.pinned (.plain (OpenSpec.ofChange asmMarksSpec)) asmMarksCard

/-- THE TIED CARD OF 'palisadelaw03.AsmBack'. -/
def asmBackCard : Claim7 := { stood := { row := asmBackRow, standIns := [], harness := (true, "a87dd2bc74e240da5a2324b3b5bed7633988d4658f72b5f2c36bb80e81b7d689"), looks := true }, kinds := [], alts := [], laidByText := true, laidKinds := [.data, .data, .data, .data, .handle, .sentinel, .sentinel, .listed, .data, .pinned], laidTests := true, laidLooks := .later }
def AsmBackCardSaid : Prop := Claim7.holds Tryz.pinned (.plain (OpenSpec.ofChange asmBackSpec)) asmBackCard

/-- THE SECOND FORM's CARD OF 'palisadelaw03.AsmAssembles'. -/
def asmAssemblesUptoCard : Claim7 := { stood := { row := asmAssemblesUptoRow, standIns := [], harness := (true, "a87dd2bc74e240da5a2324b3b5bed7633988d4658f72b5f2c36bb80e81b7d689"), looks := true }, kinds := [], alts := [], laidByText := true, laidKinds := [.data, .data, .data, .data, .handle, .sentinel, .sentinel, .listed, .data, .pinned], laidTests := true, laidLooks := .later }
def AsmAssemblesUptoCardSaid : Prop := Claim7.holds Tryz.pinned (.plain (OpenSpec.upto asmAssemblesSpec)) asmAssemblesUptoCard

/-- THE SECOND FORM's CARD OF 'palisadelaw03.AsmMarks'. -/
def asmMarksUptoCard : Claim7 := { stood := { row := asmMarksUptoRow, standIns := [], harness := (true, "a87dd2bc74e240da5a2324b3b5bed7633988d4658f72b5f2c36bb80e81b7d689"), looks := true }, kinds := [], alts := [], laidByText := true, laidKinds := [.data, .data, .data, .data, .handle, .sentinel, .sentinel, .listed, .data, .pinned], laidTests := true, laidLooks := .later }
def AsmMarksUptoCardSaid : Prop := Claim7.holds Tryz.pinned (.plain (OpenSpec.upto asmMarksSpec)) asmMarksUptoCard

/-- THE SECOND FORM's CARD OF 'palisadelaw03.AsmBack'. -/
def asmBackUptoCard : Claim7 := { stood := { row := asmBackUptoRow, standIns := [], harness := (true, "a87dd2bc74e240da5a2324b3b5bed7633988d4658f72b5f2c36bb80e81b7d689"), looks := true }, kinds := [], alts := [], laidByText := true, laidKinds := [.data, .data, .data, .data, .handle, .sentinel, .sentinel, .listed, .data, .pinned], laidTests := true, laidLooks := .later }
def AsmBackUptoCardSaid : Prop := Claim7.holds Tryz.pinned (.plain (OpenSpec.upto asmBackSpec)) asmBackUptoCard
end Rows
end Go.Proofs.YtcaeaolgijjjnaaGreatDoor

/-
  DERIVED. GIVEN WITH THE SEED: THE CARDS: each row of YtgfnnjnmomifjaaDoorRows.lean that lists a variable, with what it lists TIED to the program's text (the seventh form; the later family's looks); each row that meets fmt, with fmt's text TOLD by the authors' own Lean function (tested against real Go, not proved from fmt's source: count such statements apart). THE CARD IS WHAT COUNTS. Prove the row's statement (the work); the ties are given (YtgfnnjnmomifjaaDoorTie.lean); close each card by the builder's one call (the guide's Derived/Test/ToyasCard.lean, 'card_holds'). Laid BY PROGRAM, IN A SANDBOX (cutbox-door.mjs). By AI agents, Wed Nov 11 2026. No macro, syntax, notation, axiom, sorry.
-/
import Derived.Test.YtgfnnjnmomifjaaDoorRows
import GoSem.ClaimSeven
namespace Go.Proofs.YtgfnnjnmomifjaaDoor
namespace Rows

/-- THE TIED CARD OF 'palisadelaw24.BackendTtys'. -/
def backendTtysCard : Claim7 := { stood := { row := backendTtysRow, standIns := [], harness := (true, "b34a6237e98b01ebd17cd359594e4ed547ad093fa6dfa678570281eaaaaead2b"), looks := false }, kinds := [], alts := [], laidByText := true, laidKinds := [.data], laidTests := true, laidLooks := .later }
def BackendTtysCardSaid : Prop := Claim7.holds Tryd.pinned (.plain (OpenSpec.ofChange backendTtysSpec)) backendTtysCard

/-- THE TIED CARD OF 'palisadelaw24.BackendRefuses'. -/
def backendRefusesCard : Claim7 := { stood := { row := backendRefusesRow, standIns := [], harness := (true, "b34a6237e98b01ebd17cd359594e4ed547ad093fa6dfa678570281eaaaaead2b"), looks := false }, kinds := [], alts := [], laidByText := true, laidKinds := [.data], laidTests := true, laidLooks := .later }
def BackendRefusesCardSaid : Prop := Claim7.holds Tryd.pinned (.plain (OpenSpec.ofChange backendRefusesSpec)) backendRefusesCard

/-- THE TIED CARD OF 'palisadelaw24.BackendNets'. -/
def backendNetsCard : Claim7 := { stood := { row := backendNetsRow, standIns := [], harness := (true, "b34a6237e98b01ebd17cd359594e4ed547ad093fa6dfa678570281eaaaaead2b"), looks := false }, kinds := [], alts := [], laidByText := true, laidKinds := [.data], laidTests := true, laidLooks := .later }
def BackendNetsCardSaid : Prop := Claim7.holds Tryd.pinned (.plain (OpenSpec.ofChange backendNetsSpec)) backendNetsCard

/-- THE TIED CARD OF 'palisadelaw24.BackendBlocks'. -/
def backendBlocksCard : Claim7 := { stood := { row := backendBlocksRow, standIns := [], harness := (true, "b34a6237e98b01ebd17cd359594e4ed547ad093fa6dfa678570281eaaaaead2b"), looks := false }, kinds := [], alts := [], laidByText := true, laidKinds := [.data], laidTests := true, laidLooks := .later }
def BackendBlocksCardSaid : Prop := Claim7.holds Tryd.pinned (.plain (OpenSpec.ofChange backendBlocksSpec)) backendBlocksCard

/-- THE TIED CARD OF 'palisadelaw24.BackendFull'. -/
def backendFullCard : Claim7 := { stood := { row := backendFullRow, standIns := [], harness := (true, "b34a6237e98b01ebd17cd359594e4ed547ad093fa6dfa678570281eaaaaead2b"), looks := false }, kinds := [], alts := [], laidByText := true, laidKinds := [.data], laidTests := true, laidLooks := .later }
def BackendFullCardSaid : Prop := Claim7.holds Tryd.pinned (.plain (OpenSpec.ofChange backendFullSpec)) backendFullCard

/-- THE TIED CARD OF 'palisadelaw24.BackendPins'. -/
def backendPinsCard : Claim7 := { stood := { row := backendPinsRow, standIns := [], harness := (true, "b34a6237e98b01ebd17cd359594e4ed547ad093fa6dfa678570281eaaaaead2b"), looks := false }, kinds := [], alts := [], laidByText := true, laidKinds := [.data], laidTests := true, laidLooks := .later }
def BackendPinsCardSaid : Prop := Claim7.holds Tryd.pinned (.plain (OpenSpec.ofChange backendPinsSpec)) backendPinsCard

/-- THE SECOND FORM's CARD OF 'palisadelaw24.BackendTtys'. -/
def backendTtysUptoCard : Claim7 := { stood := { row := backendTtysUptoRow, standIns := [], harness := (true, "b34a6237e98b01ebd17cd359594e4ed547ad093fa6dfa678570281eaaaaead2b"), looks := false }, kinds := [], alts := [], laidByText := true, laidKinds := [.data], laidTests := true, laidLooks := .later }
def BackendTtysUptoCardSaid : Prop := Claim7.holds Tryd.pinned (.plain (OpenSpec.upto backendTtysSpec)) backendTtysUptoCard

/-- THE SECOND FORM's CARD OF 'palisadelaw24.BackendRefuses'. -/
def backendRefusesUptoCard : Claim7 := { stood := { row := backendRefusesUptoRow, standIns := [], harness := (true, "b34a6237e98b01ebd17cd359594e4ed547ad093fa6dfa678570281eaaaaead2b"), looks := false }, kinds := [], alts := [], laidByText := true, laidKinds := [.data], laidTests := true, laidLooks := .later }
def BackendRefusesUptoCardSaid : Prop := Claim7.holds Tryd.pinned (.plain (OpenSpec.upto backendRefusesSpec)) backendRefusesUptoCard

/-- THE SECOND FORM's CARD OF 'palisadelaw24.BackendNets'. -/
def backendNetsUptoCard : Claim7 := { stood := { row := backendNetsUptoRow, standIns := [], harness := (true, "b34a6237e98b01ebd17cd359594e4ed547ad093fa6dfa678570281eaaaaead2b"), looks := false }, kinds := [], alts := [], laidByText := true, laidKinds := [.data], laidTests := true, laidLooks := .later }
def BackendNetsUptoCardSaid : Prop := Claim7.holds Tryd.pinned (.plain (OpenSpec.upto backendNetsSpec)) backendNetsUptoCard

/-- THE SECOND FORM's CARD OF 'palisadelaw24.BackendBlocks'. -/
def backendBlocksUptoCard : Claim7 := { stood := { row := backendBlocksUptoRow, standIns := [], harness := (true, "b34a6237e98b01ebd17cd359594e4ed547ad093fa6dfa678570281eaaaaead2b"), looks := false }, kinds := [], alts := [], laidByText := true, laidKinds := [.data], laidTests := true, laidLooks := .later }
def BackendBlocksUptoCardSaid : Prop := Claim7.holds Tryd.pinned (.plain (OpenSpec.upto backendBlocksSpec)) backendBlocksUptoCard

/-- THE SECOND FORM's CARD OF 'palisadelaw24.BackendFull'. -/
def backendFullUptoCard : Claim7 := { stood := { row := backendFullUptoRow, standIns := [], harness := (true, "b34a6237e98b01ebd17cd359594e4ed547ad093fa6dfa678570281eaaaaead2b"), looks := false }, kinds := [], alts := [], laidByText := true, laidKinds := [.data], laidTests := true, laidLooks := .later }
def BackendFullUptoCardSaid : Prop := Claim7.holds Tryd.pinned (.plain (OpenSpec.upto backendFullSpec)) backendFullUptoCard

/-- THE SECOND FORM's CARD OF 'palisadelaw24.BackendPins'. -/
def backendPinsUptoCard : Claim7 := { stood := { row := backendPinsUptoRow, standIns := [], harness := (true, "b34a6237e98b01ebd17cd359594e4ed547ad093fa6dfa678570281eaaaaead2b"), looks := false }, kinds := [], alts := [], laidByText := true, laidKinds := [.data], laidTests := true, laidLooks := .later }
def BackendPinsUptoCardSaid : Prop := Claim7.holds Tryd.pinned (.plain (OpenSpec.upto backendPinsSpec)) backendPinsUptoCard
end Rows
end Go.Proofs.YtgfnnjnmomifjaaDoor

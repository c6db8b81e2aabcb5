/-
  DERIVED. GIVEN WITH THE SEED: THE CARDS: each row of YtmpjgafkdhineaaDoorRows.lean that lists a variable, with what it lists TIED to the program's text (the seventh form; the later family's looks); each row that meets fmt, with fmt's text TOLD by the authors' own Lean function (tested against real Go, not proved from fmt's source: count such statements apart). THE CARD IS WHAT COUNTS. Prove the row's statement (the work); the ties are given (YtmpjgafkdhineaaDoorTie.lean); close each card by the builder's one call (the guide's Derived/Test/ToyasCard.lean, 'card_holds'). Laid BY PROGRAM, IN A SANDBOX (cutbox-door.mjs). By AI agents, Wed Nov 11 2026. No macro, syntax, notation, axiom, sorry.
-/
import Derived.Test.YtmpjgafkdhineaaDoorRows
import GoSem.ClaimSeven
namespace Go.Proofs.YtmpjgafkdhineaaDoor
namespace Rows

/-- THE TIED CARD OF 'palisadelaw24.BackendBlocks'. -/
def backendBlocksCard : Claim7 := { stood := { row := backendBlocksRow, standIns := [], harness := (true, "82b6fa756d1c0545a0cdce5527fbcd30f0a95987fad14cb603e8bb345fbf6b6c"), looks := false }, kinds := [], alts := [], laidByText := true, laidKinds := [.data], laidTests := true, laidLooks := .later }
def BackendBlocksCardSaid : Prop := Claim7.holds Tryd.pinned (.plain (OpenSpec.ofChange backendBlocksSpec)) backendBlocksCard

/-- THE TIED CARD OF 'palisadelaw24.BackendNets'. -/
def backendNetsCard : Claim7 := { stood := { row := backendNetsRow, standIns := [], harness := (true, "82b6fa756d1c0545a0cdce5527fbcd30f0a95987fad14cb603e8bb345fbf6b6c"), looks := false }, kinds := [], alts := [], laidByText := true, laidKinds := [.data], laidTests := true, laidLooks := .later }
def BackendNetsCardSaid : Prop := Claim7.holds Tryd.pinned (.plain (OpenSpec.ofChange backendNetsSpec)) backendNetsCard

/-- THE SECOND FORM's CARD OF 'palisadelaw24.BackendBlocks'. -/
def backendBlocksUptoCard : Claim7 := { stood := { row := backendBlocksUptoRow, standIns := [], harness := (true, "82b6fa756d1c0545a0cdce5527fbcd30f0a95987fad14cb603e8bb345fbf6b6c"), looks := false }, kinds := [], alts := [], laidByText := true, laidKinds := [.data], laidTests := true, laidLooks := .later }
def BackendBlocksUptoCardSaid : Prop := Claim7.holds Tryd.pinned (.plain (OpenSpec.upto backendBlocksSpec)) backendBlocksUptoCard

/-- THE SECOND FORM's CARD OF 'palisadelaw24.BackendNets'. -/
def backendNetsUptoCard : Claim7 := { stood := { row := backendNetsUptoRow, standIns := [], harness := (true, "82b6fa756d1c0545a0cdce5527fbcd30f0a95987fad14cb603e8bb345fbf6b6c"), looks := false }, kinds := [], alts := [], laidByText := true, laidKinds := [.data], laidTests := true, laidLooks := .later }
def BackendNetsUptoCardSaid : Prop := Claim7.holds Tryd.pinned (.plain (OpenSpec.upto backendNetsSpec)) backendNetsUptoCard
end Rows
end Go.Proofs.YtmpjgafkdhineaaDoor

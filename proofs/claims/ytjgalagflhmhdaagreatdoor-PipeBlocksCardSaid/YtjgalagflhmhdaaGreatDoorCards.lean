/-
  DERIVED. GIVEN WITH THE SEED: THE CARDS: each row of YtjgalagflhmhdaaGreatDoorRows.lean that lists a variable, with what it lists TIED to the program's text (the seventh form; the later family's looks); each row that meets fmt, with fmt's text TOLD by the authors' own Lean function (tested against real Go, not proved from fmt's source: count such statements apart). THE CARD IS WHAT COUNTS. Prove the row's statement (the work); the ties are given (YtjgalagflhmhdaaGreatDoorTie.lean); close each card by the builder's one call (the guide's Derived/Test/ToyasCard.lean, 'card_holds'). Laid BY PROGRAM, IN A SANDBOX (cutbox-door.mjs). By AI agents, Wed Nov 11 2026. No macro, syntax, notation, axiom, sorry.
-/
import Derived.Test.YtjgalagflhmhdaaGreatDoorRows
import GoSem.ClaimSeven
namespace Go.Proofs.YtjgalagflhmhdaaGreatDoor
namespace Rows

/-- THE TIED CARD OF 'frisketlaw29.PipeBlocks'. -/
def pipeBlocksCard : Claim7 := { stood := { row := pipeBlocksRow, standIns := [], harness := (true, "75da54fc23d5b30b7cc6d8cc016692549ce9b26e576e5eab97a2a1da4fd2e0b4"), looks := true }, kinds := [], alts := [], laidByText := true, laidKinds := [.pinned, .data, .pinned, .data, .data, .data, .sentinel, .sentinel, .data, .listed], laidTests := true, laidLooks := .later }
def PipeBlocksCardSaid : Prop := Claim7.holds Tryz.pinned (.plain (OpenSpec.ofChange pipeBlocksSpec)) pipeBlocksCard

/-- THE SECOND FORM's CARD OF 'frisketlaw29.PipeBlocks'. -/
def pipeBlocksUptoCard : Claim7 := { stood := { row := pipeBlocksUptoRow, standIns := [], harness := (true, "75da54fc23d5b30b7cc6d8cc016692549ce9b26e576e5eab97a2a1da4fd2e0b4"), looks := true }, kinds := [], alts := [], laidByText := true, laidKinds := [.pinned, .data, .pinned, .data, .data, .data, .sentinel, .sentinel, .data, .listed], laidTests := true, laidLooks := .later }
def PipeBlocksUptoCardSaid : Prop := Claim7.holds Tryz.pinned (.plain (OpenSpec.upto pipeBlocksSpec)) pipeBlocksUptoCard
end Rows
end Go.Proofs.YtjgalagflhmhdaaGreatDoor

/-
  DERIVED. GIVEN WITH THE SEED: THE CARDS: each row of YtghlfhgmnhhmnaaDoorRows.lean that lists a variable, with what it lists TIED to the program's text (the seventh form; the later family's looks); each row that meets fmt, with fmt's text TOLD by the authors' own Lean function (tested against real Go, not proved from fmt's source: count such statements apart). THE CARD IS WHAT COUNTS. Prove the row's statement (the work); the ties are given (YtghlfhgmnhhmnaaDoorTie.lean); close each card by the builder's one call (the guide's Derived/Test/ToyasCard.lean, 'card_holds'). Laid BY PROGRAM, IN A SANDBOX (cutbox-door.mjs). By AI agents, Wed Nov 11 2026. No macro, syntax, notation, axiom, sorry.
-/
import Derived.Test.YtghlfhgmnhhmnaaDoorRows
import GoSem.ClaimSeven
namespace Go.Proofs.YtghlfhgmnhhmnaaDoor
namespace Rows

/-- THE TIED CARD OF 'frisketlaw37.TidyStays'. -/
def tidyStaysCard : Claim7 := { stood := { row := tidyStaysRow, standIns := [], harness := (true, "13cc1f5d9ba39158f5cd0cbc3bea252d46254d879f48e4c45cda913c43a7dfa4"), looks := false }, kinds := [], alts := [], laidByText := true, laidKinds := [.data, .listed, .data, .pinned], laidTests := true, laidLooks := .later }
def TidyStaysCardSaid : Prop := Claim7.holds Tryd.pinned (.plain (OpenSpec.ofChange tidyStaysSpec)) tidyStaysCard

/-- THE SECOND FORM's CARD OF 'frisketlaw37.TidyStays'. -/
def tidyStaysUptoCard : Claim7 := { stood := { row := tidyStaysUptoRow, standIns := [], harness := (true, "13cc1f5d9ba39158f5cd0cbc3bea252d46254d879f48e4c45cda913c43a7dfa4"), looks := false }, kinds := [], alts := [], laidByText := true, laidKinds := [.data, .listed, .data, .pinned], laidTests := true, laidLooks := .later }
def TidyStaysUptoCardSaid : Prop := Claim7.holds Tryd.pinned (.plain (OpenSpec.upto tidyStaysSpec)) tidyStaysUptoCard
end Rows
end Go.Proofs.YtghlfhgmnhhmnaaDoor

/-
  DERIVED. GIVEN WITH THE SEED: THE CARDS: each row of YtghlfhgmnhhmnaaGreatDoorRows.lean that lists a variable, with what it lists TIED to the program's text (the seventh form; the later family's looks); each row that meets fmt, with fmt's text TOLD by the authors' own Lean function (tested against real Go, not proved from fmt's source: count such statements apart). THE CARD IS WHAT COUNTS. Prove the row's statement (the work); the ties are given (YtghlfhgmnhhmnaaGreatDoorTie.lean); close each card by the builder's one call (the guide's Derived/Test/ToyasCard.lean, 'card_holds'). Laid BY PROGRAM, IN A SANDBOX (cutbox-door.mjs). By AI agents, Wed Nov 11 2026. No macro, syntax, notation, axiom, sorry.
-/
import Derived.Test.YtghlfhgmnhhmnaaGreatDoorRows
import GoSem.ClaimSeven
namespace Go.Proofs.YtghlfhgmnhhmnaaGreatDoor
namespace Rows

/-- THE TIED CARD OF 'frisketlaw37.TidyLines'. -/
def tidyLinesCard : Claim7 := { stood := { row := tidyLinesRow, standIns := [], harness := (true, "9076d570815e5d63193cb62589f5b97f2613d309681f32abee8d7ae0e179b735"), looks := false }, kinds := [], alts := [], laidByText := true, laidKinds := [.data, .listed, .data, .pinned], laidTests := true, laidLooks := .later }
def TidyLinesCardSaid : Prop := Claim7.holds Tryz.pinned (.plain (OpenSpec.ofChange tidyLinesSpec)) tidyLinesCard

/-- THE TIED CARD OF 'frisketlaw37.TidyTwice'. -/
def tidyTwiceCard : Claim7 := { stood := { row := tidyTwiceRow, standIns := [], harness := (true, "9076d570815e5d63193cb62589f5b97f2613d309681f32abee8d7ae0e179b735"), looks := false }, kinds := [], alts := [], laidByText := true, laidKinds := [.data, .listed, .data, .pinned], laidTests := true, laidLooks := .later }
def TidyTwiceCardSaid : Prop := Claim7.holds Tryz.pinned (.plain (OpenSpec.ofChange tidyTwiceSpec)) tidyTwiceCard

/-- THE TIED CARD OF 'frisketlaw37.TidyRaw'. -/
def tidyRawCard : Claim7 := { stood := { row := tidyRawRow, standIns := [], harness := (true, "9076d570815e5d63193cb62589f5b97f2613d309681f32abee8d7ae0e179b735"), looks := false }, kinds := [], alts := [], laidByText := true, laidKinds := [.data, .listed, .data, .pinned], laidTests := true, laidLooks := .later }
def TidyRawCardSaid : Prop := Claim7.holds Tryz.pinned (.plain (OpenSpec.ofChange tidyRawSpec)) tidyRawCard

/-- THE TIED CARD OF 'frisketlaw37.TidyEver'. -/
def tidyEverCard : Claim7 := { stood := { row := tidyEverRow, standIns := [], harness := (true, "9076d570815e5d63193cb62589f5b97f2613d309681f32abee8d7ae0e179b735"), looks := false }, kinds := [], alts := [], laidByText := true, laidKinds := [.data, .listed, .data, .pinned], laidTests := true, laidLooks := .later }
def TidyEverCardSaid : Prop := Claim7.holds Tryz.pinned (.plain (OpenSpec.ofChange tidyEverSpec)) tidyEverCard

/-- THE TIED CARD OF 'frisketlaw37.TidyMade'. -/
def tidyMadeCard : Claim7 := { stood := { row := tidyMadeRow, standIns := [], harness := (true, "9076d570815e5d63193cb62589f5b97f2613d309681f32abee8d7ae0e179b735"), looks := false }, kinds := [], alts := [], laidByText := true, laidKinds := [.data, .listed, .data, .pinned], laidTests := true, laidLooks := .later }
def TidyMadeCardSaid : Prop := Claim7.holds Tryz.pinned (.plain (OpenSpec.ofChange tidyMadeSpec)) tidyMadeCard

/-- THE SECOND FORM's CARD OF 'frisketlaw37.TidyLines'. -/
def tidyLinesUptoCard : Claim7 := { stood := { row := tidyLinesUptoRow, standIns := [], harness := (true, "9076d570815e5d63193cb62589f5b97f2613d309681f32abee8d7ae0e179b735"), looks := false }, kinds := [], alts := [], laidByText := true, laidKinds := [.data, .listed, .data, .pinned], laidTests := true, laidLooks := .later }
def TidyLinesUptoCardSaid : Prop := Claim7.holds Tryz.pinned (.plain (OpenSpec.upto tidyLinesSpec)) tidyLinesUptoCard

/-- THE SECOND FORM's CARD OF 'frisketlaw37.TidyTwice'. -/
def tidyTwiceUptoCard : Claim7 := { stood := { row := tidyTwiceUptoRow, standIns := [], harness := (true, "9076d570815e5d63193cb62589f5b97f2613d309681f32abee8d7ae0e179b735"), looks := false }, kinds := [], alts := [], laidByText := true, laidKinds := [.data, .listed, .data, .pinned], laidTests := true, laidLooks := .later }
def TidyTwiceUptoCardSaid : Prop := Claim7.holds Tryz.pinned (.plain (OpenSpec.upto tidyTwiceSpec)) tidyTwiceUptoCard

/-- THE SECOND FORM's CARD OF 'frisketlaw37.TidyRaw'. -/
def tidyRawUptoCard : Claim7 := { stood := { row := tidyRawUptoRow, standIns := [], harness := (true, "9076d570815e5d63193cb62589f5b97f2613d309681f32abee8d7ae0e179b735"), looks := false }, kinds := [], alts := [], laidByText := true, laidKinds := [.data, .listed, .data, .pinned], laidTests := true, laidLooks := .later }
def TidyRawUptoCardSaid : Prop := Claim7.holds Tryz.pinned (.plain (OpenSpec.upto tidyRawSpec)) tidyRawUptoCard

/-- THE SECOND FORM's CARD OF 'frisketlaw37.TidyEver'. -/
def tidyEverUptoCard : Claim7 := { stood := { row := tidyEverUptoRow, standIns := [], harness := (true, "9076d570815e5d63193cb62589f5b97f2613d309681f32abee8d7ae0e179b735"), looks := false }, kinds := [], alts := [], laidByText := true, laidKinds := [.data, .listed, .data, .pinned], laidTests := true, laidLooks := .later }
def TidyEverUptoCardSaid : Prop := Claim7.holds Tryz.pinned (.plain (OpenSpec.upto tidyEverSpec)) tidyEverUptoCard

/-- THE SECOND FORM's CARD OF 'frisketlaw37.TidyMade'. -/
def tidyMadeUptoCard : Claim7 := { stood := { row := tidyMadeUptoRow, standIns := [], harness := (true, "9076d570815e5d63193cb62589f5b97f2613d309681f32abee8d7ae0e179b735"), looks := false }, kinds := [], alts := [], laidByText := true, laidKinds := [.data, .listed, .data, .pinned], laidTests := true, laidLooks := .later }
def TidyMadeUptoCardSaid : Prop := Claim7.holds Tryz.pinned (.plain (OpenSpec.upto tidyMadeSpec)) tidyMadeUptoCard
end Rows
end Go.Proofs.YtghlfhgmnhhmnaaGreatDoor

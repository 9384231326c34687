/-
  DERIVED. GIVEN WITH THE SEED: THE CARDS: each row of YtppeonlpocdhkaaDoorRows.lean that lists a variable, with what it lists TIED to the program's text (the seventh form; the later family's looks); each row that meets fmt, with fmt's text TOLD by the authors' own Lean function (tested against real Go, not proved from fmt's source: count such statements apart). THE CARD IS WHAT COUNTS. Prove the row's statement (the work); the ties are given (YtppeonlpocdhkaaDoorTie.lean); close each card by the builder's one call (the guide's Derived/Test/ToyasCard.lean, 'card_holds'). Laid BY PROGRAM, IN A SANDBOX (cutbox-door.mjs). By AI agents, Wed Nov 11 2026. No macro, syntax, notation, axiom, sorry.
-/
import Derived.Test.YtppeonlpocdhkaaDoorRows
import GoSem.ClaimSeven
namespace Go.Proofs.YtppeonlpocdhkaaDoor
namespace Rows

/-- THE TIED CARD OF 'sluicelaw2.EventNames'. -/
def eventNamesCard : Claim7 := { stood := { row := eventNamesRow, standIns := [], harness := (true, "74fa068455620ae94f9d3d9b3501c130f39e2c19193c06b7a8b6fdcd89086cc9"), looks := true }, kinds := [], alts := [], laidByText := true, laidKinds := [.data], laidTests := true, laidLooks := .later }
def EventNamesCardSaid : Prop := Claim7.holds Tryd.pinned (.plain (OpenSpec.ofChange eventNamesSpec)) eventNamesCard

/-- THE TIED CARD OF 'sluicelaw2.EventChecks'. -/
def eventChecksCard : Claim7 := { stood := { row := eventChecksRow, standIns := [], harness := (true, "74fa068455620ae94f9d3d9b3501c130f39e2c19193c06b7a8b6fdcd89086cc9"), looks := true }, kinds := [], alts := [], laidByText := true, laidKinds := [.data], laidTests := true, laidLooks := .later }
def EventChecksCardSaid : Prop := Claim7.holds Tryd.pinned (.plain (OpenSpec.ofChange eventChecksSpec)) eventChecksCard

/-- THE TIED CARD OF 'sluicelaw2.EventPrintsSchema'. -/
def eventPrintsSchemaCard : Claim7 := { stood := { row := eventPrintsSchemaRow, standIns := [], harness := (true, "74fa068455620ae94f9d3d9b3501c130f39e2c19193c06b7a8b6fdcd89086cc9"), looks := true }, kinds := [], alts := [], laidByText := true, laidKinds := [.data], laidTests := true, laidLooks := .later }
def EventPrintsSchemaCardSaid : Prop := Claim7.holds Tryd.pinned (.plain (OpenSpec.ofChange eventPrintsSchemaSpec)) eventPrintsSchemaCard

/-- THE TIED CARD OF 'sluicelaw2.EventReadsSchema'. -/
def eventReadsSchemaCard : Claim7 := { stood := { row := eventReadsSchemaRow, standIns := [], harness := (true, "74fa068455620ae94f9d3d9b3501c130f39e2c19193c06b7a8b6fdcd89086cc9"), looks := true }, kinds := [], alts := [], laidByText := true, laidKinds := [.data], laidTests := true, laidLooks := .later }
def EventReadsSchemaCardSaid : Prop := Claim7.holds Tryd.pinned (.plain (OpenSpec.ofChange eventReadsSchemaSpec)) eventReadsSchemaCard

/-- THE TIED CARD OF 'sluicelaw2.EventPrints'. -/
def eventPrintsCard : Claim7 := { stood := { row := eventPrintsRow, standIns := [], harness := (true, "74fa068455620ae94f9d3d9b3501c130f39e2c19193c06b7a8b6fdcd89086cc9"), looks := true }, kinds := [], alts := [], laidByText := true, laidKinds := [.data, .data, .data, .data], laidTests := true, laidLooks := .later }
def EventPrintsCardSaid : Prop := Claim7.holds Tryd.pinned (.plain (OpenSpec.ofChange eventPrintsSpec)) eventPrintsCard

/-- THE TIED CARD OF 'sluicelaw2.EventReads'. -/
def eventReadsCard : Claim7 := { stood := { row := eventReadsRow, standIns := [], harness := (true, "74fa068455620ae94f9d3d9b3501c130f39e2c19193c06b7a8b6fdcd89086cc9"), looks := true }, kinds := [], alts := [], laidByText := true, laidKinds := [.data, .data, .data, .sentinel, .sentinel, .data], laidTests := true, laidLooks := .later }
def EventReadsCardSaid : Prop := Claim7.holds Tryd.pinned (.plain (OpenSpec.ofChange eventReadsSpec)) eventReadsCard

/-- THE TIED CARD OF 'sluicelaw2.EventSpaces'. -/
def eventSpacesCard : Claim7 := { stood := { row := eventSpacesRow, standIns := [], harness := (true, "74fa068455620ae94f9d3d9b3501c130f39e2c19193c06b7a8b6fdcd89086cc9"), looks := true }, kinds := [], alts := [], laidByText := true, laidKinds := [.data, .data, .data, .sentinel, .sentinel, .data], laidTests := true, laidLooks := .later }
def EventSpacesCardSaid : Prop := Claim7.holds Tryd.pinned (.plain (OpenSpec.ofChange eventSpacesSpec)) eventSpacesCard

/-- THE TIED CARD OF 'sluicelaw2.EventOwn'. -/
def eventOwnCard : Claim7 := { stood := { row := eventOwnRow, standIns := [], harness := (true, "74fa068455620ae94f9d3d9b3501c130f39e2c19193c06b7a8b6fdcd89086cc9"), looks := true }, kinds := [], alts := [], laidByText := true, laidKinds := [.data, .data, .data, .sentinel, .sentinel, .data], laidTests := true, laidLooks := .later }
def EventOwnCardSaid : Prop := Claim7.holds Tryd.pinned (.plain (OpenSpec.ofChange eventOwnSpec)) eventOwnCard

/-- THE TIED CARD OF 'sluicelaw2.EventCanon'. -/
def eventCanonCard : Claim7 := { stood := { row := eventCanonRow, standIns := [], harness := (true, "74fa068455620ae94f9d3d9b3501c130f39e2c19193c06b7a8b6fdcd89086cc9"), looks := true }, kinds := [], alts := [], laidByText := true, laidKinds := [.data, .data, .data, .sentinel, .sentinel, .data], laidTests := true, laidLooks := .later }
def EventCanonCardSaid : Prop := Claim7.holds Tryd.pinned (.plain (OpenSpec.ofChange eventCanonSpec)) eventCanonCard

/-- THE TIED CARD OF 'sluicelaw2.EventFile'. -/
def eventFileCard : Claim7 := { stood := { row := eventFileRow, standIns := [], harness := (true, "74fa068455620ae94f9d3d9b3501c130f39e2c19193c06b7a8b6fdcd89086cc9"), looks := true }, kinds := [], alts := [], laidByText := true, laidKinds := [.data, .data, .data, .sentinel, .sentinel, .data], laidTests := true, laidLooks := .later }
def EventFileCardSaid : Prop := Claim7.holds Tryd.pinned (.plain (OpenSpec.ofChange eventFileSpec)) eventFileCard

/-- THE SECOND FORM's CARD OF 'sluicelaw2.EventNames'. -/
def eventNamesUptoCard : Claim7 := { stood := { row := eventNamesUptoRow, standIns := [], harness := (true, "74fa068455620ae94f9d3d9b3501c130f39e2c19193c06b7a8b6fdcd89086cc9"), looks := true }, kinds := [], alts := [], laidByText := true, laidKinds := [.data], laidTests := true, laidLooks := .later }
def EventNamesUptoCardSaid : Prop := Claim7.holds Tryd.pinned (.plain (OpenSpec.upto eventNamesSpec)) eventNamesUptoCard

/-- THE SECOND FORM's CARD OF 'sluicelaw2.EventChecks'. -/
def eventChecksUptoCard : Claim7 := { stood := { row := eventChecksUptoRow, standIns := [], harness := (true, "74fa068455620ae94f9d3d9b3501c130f39e2c19193c06b7a8b6fdcd89086cc9"), looks := true }, kinds := [], alts := [], laidByText := true, laidKinds := [.data], laidTests := true, laidLooks := .later }
def EventChecksUptoCardSaid : Prop := Claim7.holds Tryd.pinned (.plain (OpenSpec.upto eventChecksSpec)) eventChecksUptoCard

/-- THE SECOND FORM's CARD OF 'sluicelaw2.EventPrintsSchema'. -/
def eventPrintsSchemaUptoCard : Claim7 := { stood := { row := eventPrintsSchemaUptoRow, standIns := [], harness := (true, "74fa068455620ae94f9d3d9b3501c130f39e2c19193c06b7a8b6fdcd89086cc9"), looks := true }, kinds := [], alts := [], laidByText := true, laidKinds := [.data], laidTests := true, laidLooks := .later }
def EventPrintsSchemaUptoCardSaid : Prop := Claim7.holds Tryd.pinned (.plain (OpenSpec.upto eventPrintsSchemaSpec)) eventPrintsSchemaUptoCard

/-- THE SECOND FORM's CARD OF 'sluicelaw2.EventReadsSchema'. -/
def eventReadsSchemaUptoCard : Claim7 := { stood := { row := eventReadsSchemaUptoRow, standIns := [], harness := (true, "74fa068455620ae94f9d3d9b3501c130f39e2c19193c06b7a8b6fdcd89086cc9"), looks := true }, kinds := [], alts := [], laidByText := true, laidKinds := [.data], laidTests := true, laidLooks := .later }
def EventReadsSchemaUptoCardSaid : Prop := Claim7.holds Tryd.pinned (.plain (OpenSpec.upto eventReadsSchemaSpec)) eventReadsSchemaUptoCard

/-- THE SECOND FORM's CARD OF 'sluicelaw2.EventPrints'. -/
def eventPrintsUptoCard : Claim7 := { stood := { row := eventPrintsUptoRow, standIns := [], harness := (true, "74fa068455620ae94f9d3d9b3501c130f39e2c19193c06b7a8b6fdcd89086cc9"), looks := true }, kinds := [], alts := [], laidByText := true, laidKinds := [.data, .data, .data, .data], laidTests := true, laidLooks := .later }
def EventPrintsUptoCardSaid : Prop := Claim7.holds Tryd.pinned (.plain (OpenSpec.upto eventPrintsSpec)) eventPrintsUptoCard

/-- THE SECOND FORM's CARD OF 'sluicelaw2.EventReads'. -/
def eventReadsUptoCard : Claim7 := { stood := { row := eventReadsUptoRow, standIns := [], harness := (true, "74fa068455620ae94f9d3d9b3501c130f39e2c19193c06b7a8b6fdcd89086cc9"), looks := true }, kinds := [], alts := [], laidByText := true, laidKinds := [.data, .data, .data, .sentinel, .sentinel, .data], laidTests := true, laidLooks := .later }
def EventReadsUptoCardSaid : Prop := Claim7.holds Tryd.pinned (.plain (OpenSpec.upto eventReadsSpec)) eventReadsUptoCard

/-- THE SECOND FORM's CARD OF 'sluicelaw2.EventSpaces'. -/
def eventSpacesUptoCard : Claim7 := { stood := { row := eventSpacesUptoRow, standIns := [], harness := (true, "74fa068455620ae94f9d3d9b3501c130f39e2c19193c06b7a8b6fdcd89086cc9"), looks := true }, kinds := [], alts := [], laidByText := true, laidKinds := [.data, .data, .data, .sentinel, .sentinel, .data], laidTests := true, laidLooks := .later }
def EventSpacesUptoCardSaid : Prop := Claim7.holds Tryd.pinned (.plain (OpenSpec.upto eventSpacesSpec)) eventSpacesUptoCard

/-- THE SECOND FORM's CARD OF 'sluicelaw2.EventOwn'. -/
def eventOwnUptoCard : Claim7 := { stood := { row := eventOwnUptoRow, standIns := [], harness := (true, "74fa068455620ae94f9d3d9b3501c130f39e2c19193c06b7a8b6fdcd89086cc9"), looks := true }, kinds := [], alts := [], laidByText := true, laidKinds := [.data, .data, .data, .sentinel, .sentinel, .data], laidTests := true, laidLooks := .later }
def EventOwnUptoCardSaid : Prop := Claim7.holds Tryd.pinned (.plain (OpenSpec.upto eventOwnSpec)) eventOwnUptoCard

/-- THE SECOND FORM's CARD OF 'sluicelaw2.EventCanon'. -/
def eventCanonUptoCard : Claim7 := { stood := { row := eventCanonUptoRow, standIns := [], harness := (true, "74fa068455620ae94f9d3d9b3501c130f39e2c19193c06b7a8b6fdcd89086cc9"), looks := true }, kinds := [], alts := [], laidByText := true, laidKinds := [.data, .data, .data, .sentinel, .sentinel, .data], laidTests := true, laidLooks := .later }
def EventCanonUptoCardSaid : Prop := Claim7.holds Tryd.pinned (.plain (OpenSpec.upto eventCanonSpec)) eventCanonUptoCard

/-- THE SECOND FORM's CARD OF 'sluicelaw2.EventFile'. -/
def eventFileUptoCard : Claim7 := { stood := { row := eventFileUptoRow, standIns := [], harness := (true, "74fa068455620ae94f9d3d9b3501c130f39e2c19193c06b7a8b6fdcd89086cc9"), looks := true }, kinds := [], alts := [], laidByText := true, laidKinds := [.data, .data, .data, .sentinel, .sentinel, .data], laidTests := true, laidLooks := .later }
def EventFileUptoCardSaid : Prop := Claim7.holds Tryd.pinned (.plain (OpenSpec.upto eventFileSpec)) eventFileUptoCard
end Rows
end Go.Proofs.YtppeonlpocdhkaaDoor

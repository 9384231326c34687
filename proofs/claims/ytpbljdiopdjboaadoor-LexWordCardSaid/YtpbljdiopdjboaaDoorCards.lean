/-
  DERIVED. GIVEN WITH THE SEED: THE CARDS: each row of YtpbljdiopdjboaaDoorRows.lean that lists a variable, with what it lists TIED to the program's text (the seventh form; the later family's looks); each row that meets fmt, with fmt's text TOLD by the authors' own Lean function (tested against real Go, not proved from fmt's source: count such statements apart). THE CARD IS WHAT COUNTS. Prove the row's statement (the work); the ties are given (YtpbljdiopdjboaaDoorTie.lean); close each card by the builder's one call (the guide's Derived/Test/ToyasCard.lean, 'card_holds'). Laid BY PROGRAM, IN A SANDBOX (cutbox-door.mjs). By AI agents, Wed Nov 11 2026. No macro, syntax, notation, axiom, sorry.
-/
import Derived.Test.YtpbljdiopdjboaaDoorRows
import GoSem.ClaimSeven
namespace Go.Proofs.YtpbljdiopdjboaaDoor
namespace Rows

/-- THE TIED CARD OF 'sluicelaw3.LexNames'. -/
def lexNamesCard : Claim7 := { stood := { row := lexNamesRow, standIns := [], harness := (true, "e2710a3e09852f6865eac44aa31509e8cc42c73c028742bb184f36461c6160ac"), looks := false }, kinds := [], alts := [], laidByText := true, laidKinds := [.data], laidTests := true, laidLooks := .later }
def LexNamesCardSaid : Prop := Claim7.holds Tryd.pinned (.plain (OpenSpec.ofChange lexNamesSpec)) lexNamesCard

/-- THE TIED CARD OF 'sluicelaw3.LexWord'. -/
def lexWordCard : Claim7 := { stood := { row := lexWordRow, standIns := [], harness := (true, "e2710a3e09852f6865eac44aa31509e8cc42c73c028742bb184f36461c6160ac"), looks := false }, kinds := [], alts := [], laidByText := true, laidKinds := [.data, .data], laidTests := true, laidLooks := .later }
def LexWordCardSaid : Prop := Claim7.holds Tryd.pinned (.plain (OpenSpec.ofChange lexWordSpec)) lexWordCard

/-- THE SECOND FORM's CARD OF 'sluicelaw3.LexNames'. -/
def lexNamesUptoCard : Claim7 := { stood := { row := lexNamesUptoRow, standIns := [], harness := (true, "e2710a3e09852f6865eac44aa31509e8cc42c73c028742bb184f36461c6160ac"), looks := false }, kinds := [], alts := [], laidByText := true, laidKinds := [.data], laidTests := true, laidLooks := .later }
def LexNamesUptoCardSaid : Prop := Claim7.holds Tryd.pinned (.plain (OpenSpec.upto lexNamesSpec)) lexNamesUptoCard

/-- THE SECOND FORM's CARD OF 'sluicelaw3.LexWord'. -/
def lexWordUptoCard : Claim7 := { stood := { row := lexWordUptoRow, standIns := [], harness := (true, "e2710a3e09852f6865eac44aa31509e8cc42c73c028742bb184f36461c6160ac"), looks := false }, kinds := [], alts := [], laidByText := true, laidKinds := [.data, .data], laidTests := true, laidLooks := .later }
def LexWordUptoCardSaid : Prop := Claim7.holds Tryd.pinned (.plain (OpenSpec.upto lexWordSpec)) lexWordUptoCard
end Rows
end Go.Proofs.YtpbljdiopdjboaaDoor

/-
  DERIVED. GIVEN WITH THE SEED: THE CARDS: each row of YtagcbljfaflhoaaDoorRows.lean that lists a variable, with what it lists TIED to the program's text (the seventh form; the later family's looks); each row that meets fmt, with fmt's text TOLD by the authors' own Lean function (tested against real Go, not proved from fmt's source: count such statements apart). THE CARD IS WHAT COUNTS. Prove the row's statement (the work); the ties are given (YtagcbljfaflhoaaDoorTie.lean); close each card by the builder's one call (the guide's Derived/Test/ToyasCard.lean, 'card_holds'). Laid BY PROGRAM, IN A SANDBOX (cutbox-door.mjs). By AI agents, Wed Nov 11 2026. No macro, syntax, notation, axiom, sorry.
-/
import Derived.Test.YtagcbljfaflhoaaDoorRows
import GoSem.ClaimSeven
namespace Go.Proofs.YtagcbljfaflhoaaDoor
namespace Rows

/-- THE TIED CARD OF 'sluicelaw6.CheckTrees'. -/
def checkTreesCard : Claim7 := { stood := { row := checkTreesRow, standIns := [], harness := (true, "231a5b6f1c308dfc892c106cee394088fb7fed68d6a604b8b9722d00754a2f24"), looks := false }, kinds := [], alts := [], laidByText := true, laidKinds := [.data], laidTests := true, laidLooks := .later }
def CheckTreesCardSaid : Prop := Claim7.holds Tryd.pinned (.plain (OpenSpec.ofChange checkTreesSpec)) checkTreesCard

/-- THE TIED CARD OF 'sluicelaw6.CheckFlaws'. -/
def checkFlawsCard : Claim7 := { stood := { row := checkFlawsRow, standIns := [], harness := (true, "231a5b6f1c308dfc892c106cee394088fb7fed68d6a604b8b9722d00754a2f24"), looks := false }, kinds := [], alts := [], laidByText := true, laidKinds := [.data], laidTests := true, laidLooks := .later }
def CheckFlawsCardSaid : Prop := Claim7.holds Tryd.pinned (.plain (OpenSpec.ofChange checkFlawsSpec)) checkFlawsCard

/-- THE TIED CARD OF 'sluicelaw6.CheckParted'. -/
def checkPartedCard : Claim7 := { stood := { row := checkPartedRow, standIns := [], harness := (true, "231a5b6f1c308dfc892c106cee394088fb7fed68d6a604b8b9722d00754a2f24"), looks := false }, kinds := [], alts := [], laidByText := true, laidKinds := [.data], laidTests := true, laidLooks := .later }
def CheckPartedCardSaid : Prop := Claim7.holds Tryd.pinned (.plain (OpenSpec.ofChange checkPartedSpec)) checkPartedCard

/-- THE TIED CARD OF 'sluicelaw6.CheckRenamed'. -/
def checkRenamedCard : Claim7 := { stood := { row := checkRenamedRow, standIns := [], harness := (true, "231a5b6f1c308dfc892c106cee394088fb7fed68d6a604b8b9722d00754a2f24"), looks := false }, kinds := [], alts := [], laidByText := true, laidKinds := [.data], laidTests := true, laidLooks := .later }
def CheckRenamedCardSaid : Prop := Claim7.holds Tryd.pinned (.plain (OpenSpec.ofChange checkRenamedSpec)) checkRenamedCard

/-- THE TIED CARD OF 'sluicelaw6.CheckTogether'. -/
def checkTogetherCard : Claim7 := { stood := { row := checkTogetherRow, standIns := [], harness := (true, "231a5b6f1c308dfc892c106cee394088fb7fed68d6a604b8b9722d00754a2f24"), looks := false }, kinds := [], alts := [], laidByText := true, laidKinds := [.data], laidTests := true, laidLooks := .later }
def CheckTogetherCardSaid : Prop := Claim7.holds Tryd.pinned (.plain (OpenSpec.ofChange checkTogetherSpec)) checkTogetherCard

/-- THE TIED CARD OF 'sluicelaw6.CheckApart'. -/
def checkApartCard : Claim7 := { stood := { row := checkApartRow, standIns := [], harness := (true, "231a5b6f1c308dfc892c106cee394088fb7fed68d6a604b8b9722d00754a2f24"), looks := false }, kinds := [], alts := [], laidByText := true, laidKinds := [.data], laidTests := true, laidLooks := .later }
def CheckApartCardSaid : Prop := Claim7.holds Tryd.pinned (.plain (OpenSpec.ofChange checkApartSpec)) checkApartCard

/-- THE TIED CARD OF 'sluicelaw6.CheckLess'. -/
def checkLessCard : Claim7 := { stood := { row := checkLessRow, standIns := [], harness := (true, "231a5b6f1c308dfc892c106cee394088fb7fed68d6a604b8b9722d00754a2f24"), looks := false }, kinds := [], alts := [], laidByText := true, laidKinds := [.data], laidTests := true, laidLooks := .later }
def CheckLessCardSaid : Prop := Claim7.holds Tryd.pinned (.plain (OpenSpec.ofChange checkLessSpec)) checkLessCard

/-- THE TIED CARD OF 'sluicelaw6.CheckFresh'. -/
def checkFreshCard : Claim7 := { stood := { row := checkFreshRow, standIns := [], harness := (true, "231a5b6f1c308dfc892c106cee394088fb7fed68d6a604b8b9722d00754a2f24"), looks := false }, kinds := [], alts := [], laidByText := true, laidKinds := [.data], laidTests := true, laidLooks := .later }
def CheckFreshCardSaid : Prop := Claim7.holds Tryd.pinned (.plain (OpenSpec.ofChange checkFreshSpec)) checkFreshCard

/-- THE SECOND FORM's CARD OF 'sluicelaw6.CheckTrees'. -/
def checkTreesUptoCard : Claim7 := { stood := { row := checkTreesUptoRow, standIns := [], harness := (true, "231a5b6f1c308dfc892c106cee394088fb7fed68d6a604b8b9722d00754a2f24"), looks := false }, kinds := [], alts := [], laidByText := true, laidKinds := [.data], laidTests := true, laidLooks := .later }
def CheckTreesUptoCardSaid : Prop := Claim7.holds Tryd.pinned (.plain (OpenSpec.upto checkTreesSpec)) checkTreesUptoCard

/-- THE SECOND FORM's CARD OF 'sluicelaw6.CheckFlaws'. -/
def checkFlawsUptoCard : Claim7 := { stood := { row := checkFlawsUptoRow, standIns := [], harness := (true, "231a5b6f1c308dfc892c106cee394088fb7fed68d6a604b8b9722d00754a2f24"), looks := false }, kinds := [], alts := [], laidByText := true, laidKinds := [.data], laidTests := true, laidLooks := .later }
def CheckFlawsUptoCardSaid : Prop := Claim7.holds Tryd.pinned (.plain (OpenSpec.upto checkFlawsSpec)) checkFlawsUptoCard

/-- THE SECOND FORM's CARD OF 'sluicelaw6.CheckParted'. -/
def checkPartedUptoCard : Claim7 := { stood := { row := checkPartedUptoRow, standIns := [], harness := (true, "231a5b6f1c308dfc892c106cee394088fb7fed68d6a604b8b9722d00754a2f24"), looks := false }, kinds := [], alts := [], laidByText := true, laidKinds := [.data], laidTests := true, laidLooks := .later }
def CheckPartedUptoCardSaid : Prop := Claim7.holds Tryd.pinned (.plain (OpenSpec.upto checkPartedSpec)) checkPartedUptoCard

/-- THE SECOND FORM's CARD OF 'sluicelaw6.CheckRenamed'. -/
def checkRenamedUptoCard : Claim7 := { stood := { row := checkRenamedUptoRow, standIns := [], harness := (true, "231a5b6f1c308dfc892c106cee394088fb7fed68d6a604b8b9722d00754a2f24"), looks := false }, kinds := [], alts := [], laidByText := true, laidKinds := [.data], laidTests := true, laidLooks := .later }
def CheckRenamedUptoCardSaid : Prop := Claim7.holds Tryd.pinned (.plain (OpenSpec.upto checkRenamedSpec)) checkRenamedUptoCard

/-- THE SECOND FORM's CARD OF 'sluicelaw6.CheckTogether'. -/
def checkTogetherUptoCard : Claim7 := { stood := { row := checkTogetherUptoRow, standIns := [], harness := (true, "231a5b6f1c308dfc892c106cee394088fb7fed68d6a604b8b9722d00754a2f24"), looks := false }, kinds := [], alts := [], laidByText := true, laidKinds := [.data], laidTests := true, laidLooks := .later }
def CheckTogetherUptoCardSaid : Prop := Claim7.holds Tryd.pinned (.plain (OpenSpec.upto checkTogetherSpec)) checkTogetherUptoCard

/-- THE SECOND FORM's CARD OF 'sluicelaw6.CheckApart'. -/
def checkApartUptoCard : Claim7 := { stood := { row := checkApartUptoRow, standIns := [], harness := (true, "231a5b6f1c308dfc892c106cee394088fb7fed68d6a604b8b9722d00754a2f24"), looks := false }, kinds := [], alts := [], laidByText := true, laidKinds := [.data], laidTests := true, laidLooks := .later }
def CheckApartUptoCardSaid : Prop := Claim7.holds Tryd.pinned (.plain (OpenSpec.upto checkApartSpec)) checkApartUptoCard

/-- THE SECOND FORM's CARD OF 'sluicelaw6.CheckLess'. -/
def checkLessUptoCard : Claim7 := { stood := { row := checkLessUptoRow, standIns := [], harness := (true, "231a5b6f1c308dfc892c106cee394088fb7fed68d6a604b8b9722d00754a2f24"), looks := false }, kinds := [], alts := [], laidByText := true, laidKinds := [.data], laidTests := true, laidLooks := .later }
def CheckLessUptoCardSaid : Prop := Claim7.holds Tryd.pinned (.plain (OpenSpec.upto checkLessSpec)) checkLessUptoCard

/-- THE SECOND FORM's CARD OF 'sluicelaw6.CheckFresh'. -/
def checkFreshUptoCard : Claim7 := { stood := { row := checkFreshUptoRow, standIns := [], harness := (true, "231a5b6f1c308dfc892c106cee394088fb7fed68d6a604b8b9722d00754a2f24"), looks := false }, kinds := [], alts := [], laidByText := true, laidKinds := [.data], laidTests := true, laidLooks := .later }
def CheckFreshUptoCardSaid : Prop := Claim7.holds Tryd.pinned (.plain (OpenSpec.upto checkFreshSpec)) checkFreshUptoCard
end Rows
end Go.Proofs.YtagcbljfaflhoaaDoor

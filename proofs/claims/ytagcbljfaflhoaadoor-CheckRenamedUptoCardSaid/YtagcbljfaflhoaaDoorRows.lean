/-
  NARROWER THAN 'FOR EVERY INPUT', by the rows' own cells (each row's printed sentence says how): CheckTrees: laid · CheckFlaws: laid · CheckParted: laid · CheckRenamed: laid · CheckTogether: laid · CheckApart: laid · CheckLess: laid · CheckFresh: laid.
  DERIVED. THE GIVEN ROWS OF THIS SEAT. 8 by the template 'for every input the law returns true; each argument reads behind the call as it read before'; 0 by the template 'total and deterministic' (their statements: YtagcbljfaflhoaaDoorTotals.lean).
  GIVEN WITH THE SEED: the statements are not yours to turn. If you find one false, say at which input.
  Laid BY PROGRAM, IN A SANDBOX (cutbox-rows.mjs): the forced cells as the released guide's own fill.sh prints them over the translation 392a6804c558ec3e… (all of the seat's roots in one cut). By AI agents, Wed Nov 11 2026. No macro, syntax, notation, axiom, sorry.
-/
import Derived.Test.YtagcbljfaflhoaaDoorChecked
import GoSem.Claim
import GoSem.ClaimJoined
import GoSem.ClaimMapViews
import Derived.JoinedTies
import Derived.KernelRfl
namespace Go.Proofs.YtagcbljfaflhoaaDoor
/- THE CELL 'sum', in the pinned program and in every row, IS THE sha256 OF THE DUMP (.gsa) THAT YtagcbljfaflhoaaDoorProg.lean LOADS. Nothing in Lean hashes anything: it is a label: what it is worth is what the hold of that sum in a sandbox is worth. -/
noncomputable def Tryd.pinned : Pinned := { name := "ytagcbljfaflhoaadoor", sum := "392a6804c558ec3e592de240d31068e513b99bf6a03334071c0176c1adaa60e7", checked := Tryd.checked }
namespace Rows
def none {H : Type} : Left H := { results := [], args := [] }

/- WHAT THE LISTED PACKAGE-LEVEL VARIABLES READ AS WHEN THE CALL BEGINS. Each datum BY PROGRAM (the guide's laid-datum.mjs) off the statement by which the dump's own 'gosem.cut.vars' lays the variable. In a bare row this is a premise. The card (YtagcbljfaflhoaaDoorCards.lean) ties it to the program's text. -/
def laid_sluice_api_Keywords {H : Type} : DataW H := .agg [.lit (.string [80, 65, 84, 84, 69, 82, 78]), .lit (.string [83, 69, 81]), .lit (.string [85, 83, 73, 78, 71]), .lit (.string [65, 78, 89]), .lit (.string [78, 69, 88, 84]), .lit (.string [83, 84, 82, 73, 67, 84]), .lit (.string [87, 72, 69, 82, 69]), .lit (.string [87, 73, 84, 72, 73, 78]), .lit (.string [80, 65, 82, 84, 73, 84, 73, 79, 78]), .lit (.string [66, 89]), .lit (.string [82, 69, 84, 85, 82, 78]), .lit (.string [65, 78, 68]), .lit (.string [79, 82]), .lit (.string [78, 79, 84]), .lit (.string [84, 82, 85, 69]), .lit (.string [70, 65, 76, 83, 69]), .lit (.string [67, 79, 85, 78, 84]), .lit (.string [83, 85, 77]), .lit (.string [77, 73, 78]), .lit (.string [77, 65, 88]), .lit (.string [70, 73, 82, 83, 84]), .lit (.string [76, 65, 83, 84]), .lit (.string [80, 82, 69, 86]), .lit (.string [65, 70, 84, 69, 82]), .lit (.string [65, 76, 76]), .lit (.string [80, 65, 83, 84]), .lit (.string [79, 78, 67, 69])]

/-- 'sluicelaw6.CheckTrees': WHATEVER THE INPUT: true; the input reads as it did. -/
def checkTreesSpec : ChangeSpec := { name := "checkTrees", fn := fun _ => fun
  | [d1, d2] => { results := [.lit (.bool true)], args := [d1, d2] }
  | _ => none }
def checkTreesRow : OpenClaim := { program := "ytagcbljfaflhoaadoor", sum := "392a6804c558ec3e592de240d31068e513b99bf6a03334071c0176c1adaa60e7", func := "sluice/sluicelaw6.CheckTrees", spec := "checkTrees", unfollowed := true, recurses := true, named := ["sluice/api.Keywords"], apart := false, laid := [("sluice/api.Keywords", laid_sluice_api_Keywords)] }
def CheckTreesSaid : Prop := checkTreesRow.holds Tryd.pinned (OpenSpec.ofChange checkTreesSpec)

/-- ITS FALSE NEIGHBOUR: 'it returns false'. Refute it at one input. -/
def checkTreesWrong : ChangeSpec := { name := "checkTrees", fn := fun _ => fun
  | [d1, d2] => { results := [.lit (.bool false)], args := [d1, d2] }
  | _ => none }
def CheckTreesWrongFalsely : Prop := checkTreesRow.holds Tryd.pinned (OpenSpec.ofChange checkTreesWrong)

/-- 'sluicelaw6.CheckFlaws': WHATEVER THE INPUT: true; the input reads as it did. -/
def checkFlawsSpec : ChangeSpec := { name := "checkFlaws", fn := fun _ => fun
  | [d1, d2] => { results := [.lit (.bool true)], args := [d1, d2] }
  | _ => none }
def checkFlawsRow : OpenClaim := { program := "ytagcbljfaflhoaadoor", sum := "392a6804c558ec3e592de240d31068e513b99bf6a03334071c0176c1adaa60e7", func := "sluice/sluicelaw6.CheckFlaws", spec := "checkFlaws", unfollowed := true, recurses := true, named := ["sluice/api.Keywords"], apart := false, laid := [("sluice/api.Keywords", laid_sluice_api_Keywords)] }
def CheckFlawsSaid : Prop := checkFlawsRow.holds Tryd.pinned (OpenSpec.ofChange checkFlawsSpec)

/-- ITS FALSE NEIGHBOUR: 'it returns false'. Refute it at one input. -/
def checkFlawsWrong : ChangeSpec := { name := "checkFlaws", fn := fun _ => fun
  | [d1, d2] => { results := [.lit (.bool false)], args := [d1, d2] }
  | _ => none }
def CheckFlawsWrongFalsely : Prop := checkFlawsRow.holds Tryd.pinned (OpenSpec.ofChange checkFlawsWrong)

/-- 'sluicelaw6.CheckParted': WHATEVER THE INPUT: true; the input reads as it did. -/
def checkPartedSpec : ChangeSpec := { name := "checkParted", fn := fun _ => fun
  | [d1, d2, d3, d4] => { results := [.lit (.bool true)], args := [d1, d2, d3, d4] }
  | _ => none }
def checkPartedRow : OpenClaim := { program := "ytagcbljfaflhoaadoor", sum := "392a6804c558ec3e592de240d31068e513b99bf6a03334071c0176c1adaa60e7", func := "sluice/sluicelaw6.CheckParted", spec := "checkParted", unfollowed := true, recurses := true, named := ["sluice/api.Keywords"], apart := false, laid := [("sluice/api.Keywords", laid_sluice_api_Keywords)] }
def CheckPartedSaid : Prop := checkPartedRow.holds Tryd.pinned (OpenSpec.ofChange checkPartedSpec)

/-- ITS FALSE NEIGHBOUR: 'it returns false'. Refute it at one input. -/
def checkPartedWrong : ChangeSpec := { name := "checkParted", fn := fun _ => fun
  | [d1, d2, d3, d4] => { results := [.lit (.bool false)], args := [d1, d2, d3, d4] }
  | _ => none }
def CheckPartedWrongFalsely : Prop := checkPartedRow.holds Tryd.pinned (OpenSpec.ofChange checkPartedWrong)

/-- 'sluicelaw6.CheckRenamed': WHATEVER THE INPUT: true; the input reads as it did. -/
def checkRenamedSpec : ChangeSpec := { name := "checkRenamed", fn := fun _ => fun
  | [d1, d2] => { results := [.lit (.bool true)], args := [d1, d2] }
  | _ => none }
def checkRenamedRow : OpenClaim := { program := "ytagcbljfaflhoaadoor", sum := "392a6804c558ec3e592de240d31068e513b99bf6a03334071c0176c1adaa60e7", func := "sluice/sluicelaw6.CheckRenamed", spec := "checkRenamed", unfollowed := true, recurses := true, named := ["sluice/api.Keywords"], apart := false, laid := [("sluice/api.Keywords", laid_sluice_api_Keywords)] }
def CheckRenamedSaid : Prop := checkRenamedRow.holds Tryd.pinned (OpenSpec.ofChange checkRenamedSpec)

/-- ITS FALSE NEIGHBOUR: 'it returns false'. Refute it at one input. -/
def checkRenamedWrong : ChangeSpec := { name := "checkRenamed", fn := fun _ => fun
  | [d1, d2] => { results := [.lit (.bool false)], args := [d1, d2] }
  | _ => none }
def CheckRenamedWrongFalsely : Prop := checkRenamedRow.holds Tryd.pinned (OpenSpec.ofChange checkRenamedWrong)

/-- 'sluicelaw6.CheckTogether': WHATEVER THE INPUT: true; the input reads as it did. -/
def checkTogetherSpec : ChangeSpec := { name := "checkTogether", fn := fun _ => fun
  | [d1, d2] => { results := [.lit (.bool true)], args := [d1, d2] }
  | _ => none }
def checkTogetherRow : OpenClaim := { program := "ytagcbljfaflhoaadoor", sum := "392a6804c558ec3e592de240d31068e513b99bf6a03334071c0176c1adaa60e7", func := "sluice/sluicelaw6.CheckTogether", spec := "checkTogether", unfollowed := true, recurses := true, named := ["sluice/api.Keywords"], apart := false, laid := [("sluice/api.Keywords", laid_sluice_api_Keywords)] }
def CheckTogetherSaid : Prop := checkTogetherRow.holds Tryd.pinned (OpenSpec.ofChange checkTogetherSpec)

/-- ITS FALSE NEIGHBOUR: 'it returns false'. Refute it at one input. -/
def checkTogetherWrong : ChangeSpec := { name := "checkTogether", fn := fun _ => fun
  | [d1, d2] => { results := [.lit (.bool false)], args := [d1, d2] }
  | _ => none }
def CheckTogetherWrongFalsely : Prop := checkTogetherRow.holds Tryd.pinned (OpenSpec.ofChange checkTogetherWrong)

/-- 'sluicelaw6.CheckApart': WHATEVER THE INPUT: true; the input reads as it did. -/
def checkApartSpec : ChangeSpec := { name := "checkApart", fn := fun _ => fun
  | [d1, d2, d3] => { results := [.lit (.bool true)], args := [d1, d2, d3] }
  | _ => none }
def checkApartRow : OpenClaim := { program := "ytagcbljfaflhoaadoor", sum := "392a6804c558ec3e592de240d31068e513b99bf6a03334071c0176c1adaa60e7", func := "sluice/sluicelaw6.CheckApart", spec := "checkApart", unfollowed := true, recurses := true, named := ["sluice/api.Keywords"], apart := false, laid := [("sluice/api.Keywords", laid_sluice_api_Keywords)] }
def CheckApartSaid : Prop := checkApartRow.holds Tryd.pinned (OpenSpec.ofChange checkApartSpec)

/-- ITS FALSE NEIGHBOUR: 'it returns false'. Refute it at one input. -/
def checkApartWrong : ChangeSpec := { name := "checkApart", fn := fun _ => fun
  | [d1, d2, d3] => { results := [.lit (.bool false)], args := [d1, d2, d3] }
  | _ => none }
def CheckApartWrongFalsely : Prop := checkApartRow.holds Tryd.pinned (OpenSpec.ofChange checkApartWrong)

/-- 'sluicelaw6.CheckLess': WHATEVER THE INPUT: true; the input reads as it did. -/
def checkLessSpec : ChangeSpec := { name := "checkLess", fn := fun _ => fun
  | [d1, d2, d3] => { results := [.lit (.bool true)], args := [d1, d2, d3] }
  | _ => none }
def checkLessRow : OpenClaim := { program := "ytagcbljfaflhoaadoor", sum := "392a6804c558ec3e592de240d31068e513b99bf6a03334071c0176c1adaa60e7", func := "sluice/sluicelaw6.CheckLess", spec := "checkLess", unfollowed := true, recurses := true, named := ["sluice/api.Keywords"], apart := false, laid := [("sluice/api.Keywords", laid_sluice_api_Keywords)] }
def CheckLessSaid : Prop := checkLessRow.holds Tryd.pinned (OpenSpec.ofChange checkLessSpec)

/-- ITS FALSE NEIGHBOUR: 'it returns false'. Refute it at one input. -/
def checkLessWrong : ChangeSpec := { name := "checkLess", fn := fun _ => fun
  | [d1, d2, d3] => { results := [.lit (.bool false)], args := [d1, d2, d3] }
  | _ => none }
def CheckLessWrongFalsely : Prop := checkLessRow.holds Tryd.pinned (OpenSpec.ofChange checkLessWrong)

/-- 'sluicelaw6.CheckFresh': WHATEVER THE INPUT: true; the input reads as it did. -/
def checkFreshSpec : ChangeSpec := { name := "checkFresh", fn := fun _ => fun
  | [d1, d2, d3] => { results := [.lit (.bool true)], args := [d1, d2, d3] }
  | _ => none }
def checkFreshRow : OpenClaim := { program := "ytagcbljfaflhoaadoor", sum := "392a6804c558ec3e592de240d31068e513b99bf6a03334071c0176c1adaa60e7", func := "sluice/sluicelaw6.CheckFresh", spec := "checkFresh", unfollowed := true, recurses := true, named := ["sluice/api.Keywords"], apart := false, laid := [("sluice/api.Keywords", laid_sluice_api_Keywords)] }
def CheckFreshSaid : Prop := checkFreshRow.holds Tryd.pinned (OpenSpec.ofChange checkFreshSpec)

/-- ITS FALSE NEIGHBOUR: 'it returns false'. Refute it at one input. -/
def checkFreshWrong : ChangeSpec := { name := "checkFresh", fn := fun _ => fun
  | [d1, d2, d3] => { results := [.lit (.bool false)], args := [d1, d2, d3] }
  | _ => none }
def CheckFreshWrongFalsely : Prop := checkFreshRow.holds Tryd.pinned (OpenSpec.ofChange checkFreshWrong)

/- THE SECOND FORM. 'bulk': how many values and letters a reading holds, each counted each time it is reached (what is shared counts as often as it is met; a slice's spare places count too). A statement '..UptoSaid' is the law's where the arguments, and the package variables that the reading takes, are together of bulk at most 1048576: NARROWER than '..Said'. Prove '..Said' where nothing that the law and all that it calls make is longer than what came in: it says more and counts as full. Else prove '..UptoSaid'. A law counts once. -/
mutual
def uptoBulk {H : Type} : DataW H → Nat
  | .lit (.string bytes) => bytes.length + 1
  | .lit _ => 1
  | .nil => 1
  | .ptr d => uptoBulk d + 1
  | .slice elems spare => uptoBulkAll elems + uptoBulkAll spare + 1
  | .agg parts => uptoBulkAll parts + 1
  | .iface _ d => uptoBulk d + 1
  | .map entries => uptoBulkEntries entries + 1
  | .held _ => 1
def uptoBulkAll {H : Type} : List (DataW H) → Nat
  | [] => 0
  | d :: r => uptoBulk d + uptoBulkAll r
def uptoBulkEntries {H : Type} : List (Lit × DataW H) → Nat
  | [] => 0
  | x :: r => uptoBulkEntry x + uptoBulkEntries r
def uptoBulkEntry {H : Type} : Lit × DataW H → Nat
  | (.string bytes, d) => bytes.length + uptoBulk d + 1
  | (_, d) => uptoBulk d + 1
 end
def uptoSmall : (H : Type) → List (DataW H) → Bool := fun _ ds => decide (uptoBulkAll ds ≤ 1048576)
def OpenSpec.upto (s : _root_.Go.ChangeSpec) : _root_.Go.OpenSpec := { _root_.Go.OpenSpec.ofChange s with cond := some uptoSmall }

/-- 'sluicelaw6.CheckTrees', WHERE WHAT IT READS IS OF BULK AT MOST 1048576: true; the input reads as it did. -/
def checkTreesUptoRow : OpenClaim := { program := "ytagcbljfaflhoaadoor", sum := "392a6804c558ec3e592de240d31068e513b99bf6a03334071c0176c1adaa60e7", func := "sluice/sluicelaw6.CheckTrees", spec := "checkTrees", unfollowed := true, recurses := true, named := ["sluice/api.Keywords"], apart := false, laid := [("sluice/api.Keywords", laid_sluice_api_Keywords)], narrowed := true }
def CheckTreesUptoSaid : Prop := checkTreesUptoRow.holds Tryd.pinned (OpenSpec.upto checkTreesSpec)

/-- 'sluicelaw6.CheckFlaws', WHERE WHAT IT READS IS OF BULK AT MOST 1048576: true; the input reads as it did. -/
def checkFlawsUptoRow : OpenClaim := { program := "ytagcbljfaflhoaadoor", sum := "392a6804c558ec3e592de240d31068e513b99bf6a03334071c0176c1adaa60e7", func := "sluice/sluicelaw6.CheckFlaws", spec := "checkFlaws", unfollowed := true, recurses := true, named := ["sluice/api.Keywords"], apart := false, laid := [("sluice/api.Keywords", laid_sluice_api_Keywords)], narrowed := true }
def CheckFlawsUptoSaid : Prop := checkFlawsUptoRow.holds Tryd.pinned (OpenSpec.upto checkFlawsSpec)

/-- 'sluicelaw6.CheckParted', WHERE WHAT IT READS IS OF BULK AT MOST 1048576: true; the input reads as it did. -/
def checkPartedUptoRow : OpenClaim := { program := "ytagcbljfaflhoaadoor", sum := "392a6804c558ec3e592de240d31068e513b99bf6a03334071c0176c1adaa60e7", func := "sluice/sluicelaw6.CheckParted", spec := "checkParted", unfollowed := true, recurses := true, named := ["sluice/api.Keywords"], apart := false, laid := [("sluice/api.Keywords", laid_sluice_api_Keywords)], narrowed := true }
def CheckPartedUptoSaid : Prop := checkPartedUptoRow.holds Tryd.pinned (OpenSpec.upto checkPartedSpec)

/-- 'sluicelaw6.CheckRenamed', WHERE WHAT IT READS IS OF BULK AT MOST 1048576: true; the input reads as it did. -/
def checkRenamedUptoRow : OpenClaim := { program := "ytagcbljfaflhoaadoor", sum := "392a6804c558ec3e592de240d31068e513b99bf6a03334071c0176c1adaa60e7", func := "sluice/sluicelaw6.CheckRenamed", spec := "checkRenamed", unfollowed := true, recurses := true, named := ["sluice/api.Keywords"], apart := false, laid := [("sluice/api.Keywords", laid_sluice_api_Keywords)], narrowed := true }
def CheckRenamedUptoSaid : Prop := checkRenamedUptoRow.holds Tryd.pinned (OpenSpec.upto checkRenamedSpec)

/-- 'sluicelaw6.CheckTogether', WHERE WHAT IT READS IS OF BULK AT MOST 1048576: true; the input reads as it did. -/
def checkTogetherUptoRow : OpenClaim := { program := "ytagcbljfaflhoaadoor", sum := "392a6804c558ec3e592de240d31068e513b99bf6a03334071c0176c1adaa60e7", func := "sluice/sluicelaw6.CheckTogether", spec := "checkTogether", unfollowed := true, recurses := true, named := ["sluice/api.Keywords"], apart := false, laid := [("sluice/api.Keywords", laid_sluice_api_Keywords)], narrowed := true }
def CheckTogetherUptoSaid : Prop := checkTogetherUptoRow.holds Tryd.pinned (OpenSpec.upto checkTogetherSpec)

/-- 'sluicelaw6.CheckApart', WHERE WHAT IT READS IS OF BULK AT MOST 1048576: true; the input reads as it did. -/
def checkApartUptoRow : OpenClaim := { program := "ytagcbljfaflhoaadoor", sum := "392a6804c558ec3e592de240d31068e513b99bf6a03334071c0176c1adaa60e7", func := "sluice/sluicelaw6.CheckApart", spec := "checkApart", unfollowed := true, recurses := true, named := ["sluice/api.Keywords"], apart := false, laid := [("sluice/api.Keywords", laid_sluice_api_Keywords)], narrowed := true }
def CheckApartUptoSaid : Prop := checkApartUptoRow.holds Tryd.pinned (OpenSpec.upto checkApartSpec)

/-- 'sluicelaw6.CheckLess', WHERE WHAT IT READS IS OF BULK AT MOST 1048576: true; the input reads as it did. -/
def checkLessUptoRow : OpenClaim := { program := "ytagcbljfaflhoaadoor", sum := "392a6804c558ec3e592de240d31068e513b99bf6a03334071c0176c1adaa60e7", func := "sluice/sluicelaw6.CheckLess", spec := "checkLess", unfollowed := true, recurses := true, named := ["sluice/api.Keywords"], apart := false, laid := [("sluice/api.Keywords", laid_sluice_api_Keywords)], narrowed := true }
def CheckLessUptoSaid : Prop := checkLessUptoRow.holds Tryd.pinned (OpenSpec.upto checkLessSpec)

/-- 'sluicelaw6.CheckFresh', WHERE WHAT IT READS IS OF BULK AT MOST 1048576: true; the input reads as it did. -/
def checkFreshUptoRow : OpenClaim := { program := "ytagcbljfaflhoaadoor", sum := "392a6804c558ec3e592de240d31068e513b99bf6a03334071c0176c1adaa60e7", func := "sluice/sluicelaw6.CheckFresh", spec := "checkFresh", unfollowed := true, recurses := true, named := ["sluice/api.Keywords"], apart := false, laid := [("sluice/api.Keywords", laid_sluice_api_Keywords)], narrowed := true }
def CheckFreshUptoSaid : Prop := checkFreshUptoRow.holds Tryd.pinned (OpenSpec.upto checkFreshSpec)

end Rows
end Go.Proofs.YtagcbljfaflhoaaDoor

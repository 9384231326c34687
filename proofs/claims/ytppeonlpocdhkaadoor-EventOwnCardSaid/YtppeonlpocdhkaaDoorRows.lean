/-
  NARROWER THAN 'FOR EVERY INPUT', by the rows' own cells (each row's printed sentence says how): EventNames: laid · EventChecks: laid · EventPrintsSchema: laid · EventReadsSchema: laid · EventPrints: laid · EventReads: laid · EventSpaces: laid · EventOwn: laid · EventCanon: laid · EventFile: laid.
  DERIVED. THE GIVEN ROWS OF THIS SEAT. 10 by the template 'for every input the law returns true; each argument reads behind the call as it read before'; 0 by the template 'total and deterministic' (their statements: YtppeonlpocdhkaaDoorTotals.lean).
  GIVEN WITH THE SEED: the statements are not yours to turn. If you find one false, say at which input.
  Laid BY PROGRAM, IN A SANDBOX (cutbox-rows.mjs): the forced cells as the released guide's own fill.sh prints them over the translation f7695908c955ef1c… (all of the seat's roots in one cut). By AI agents, Wed Nov 11 2026. No macro, syntax, notation, axiom, sorry.
-/
import Derived.Test.YtppeonlpocdhkaaDoorChecked
import GoSem.Claim
import GoSem.ClaimJoined
import GoSem.ClaimMapViews
import Derived.JoinedTies
import Derived.KernelRfl
namespace Go.Proofs.YtppeonlpocdhkaaDoor
/- THE CELL 'sum', in the pinned program and in every row, IS THE sha256 OF THE DUMP (.gsa) THAT YtppeonlpocdhkaaDoorProg.lean LOADS. Nothing in Lean hashes anything: it is a label: what it is worth is what the hold of that sum in a sandbox is worth. -/
noncomputable def Tryd.pinned : Pinned := { name := "ytppeonlpocdhkaadoor", sum := "f7695908c955ef1cddddfef5a861a319c51818499b22f06ac9924ae99d1833d5", checked := Tryd.checked }
namespace Rows
def none {H : Type} : Left H := { results := [], args := [] }

/- WHAT THE LISTED PACKAGE-LEVEL VARIABLES READ AS WHEN THE CALL BEGINS. Each datum BY PROGRAM (the guide's laid-datum.mjs) off the statement by which the dump's own 'gosem.cut.vars' lays the variable. In a bare row this is a premise. The card (YtppeonlpocdhkaaDoorCards.lean) ties it to the program's text. -/
def laid_sluice_api_Keywords {H : Type} : DataW H := .agg [.lit (.string [80, 65, 84, 84, 69, 82, 78]), .lit (.string [83, 69, 81]), .lit (.string [85, 83, 73, 78, 71]), .lit (.string [65, 78, 89]), .lit (.string [78, 69, 88, 84]), .lit (.string [83, 84, 82, 73, 67, 84]), .lit (.string [87, 72, 69, 82, 69]), .lit (.string [87, 73, 84, 72, 73, 78]), .lit (.string [80, 65, 82, 84, 73, 84, 73, 79, 78]), .lit (.string [66, 89]), .lit (.string [82, 69, 84, 85, 82, 78]), .lit (.string [65, 78, 68]), .lit (.string [79, 82]), .lit (.string [78, 79, 84]), .lit (.string [84, 82, 85, 69]), .lit (.string [70, 65, 76, 83, 69]), .lit (.string [67, 79, 85, 78, 84]), .lit (.string [83, 85, 77]), .lit (.string [77, 73, 78]), .lit (.string [77, 65, 88]), .lit (.string [70, 73, 82, 83, 84]), .lit (.string [76, 65, 83, 84]), .lit (.string [80, 82, 69, 86]), .lit (.string [65, 70, 84, 69, 82]), .lit (.string [65, 76, 76]), .lit (.string [80, 65, 83, 84]), .lit (.string [79, 78, 67, 69])]
def laid_math_bits_deBruijn32tab {H : Type} : DataW H := .agg [.lit (.int .u8 0), .lit (.int .u8 1), .lit (.int .u8 28), .lit (.int .u8 2), .lit (.int .u8 29), .lit (.int .u8 14), .lit (.int .u8 24), .lit (.int .u8 3), .lit (.int .u8 30), .lit (.int .u8 22), .lit (.int .u8 20), .lit (.int .u8 15), .lit (.int .u8 25), .lit (.int .u8 17), .lit (.int .u8 4), .lit (.int .u8 8), .lit (.int .u8 31), .lit (.int .u8 27), .lit (.int .u8 13), .lit (.int .u8 23), .lit (.int .u8 21), .lit (.int .u8 19), .lit (.int .u8 16), .lit (.int .u8 7), .lit (.int .u8 26), .lit (.int .u8 12), .lit (.int .u8 18), .lit (.int .u8 6), .lit (.int .u8 11), .lit (.int .u8 5), .lit (.int .u8 10), .lit (.int .u8 9)]
def laid_math_bits_deBruijn64tab {H : Type} : DataW H := .agg [.lit (.int .u8 0), .lit (.int .u8 1), .lit (.int .u8 56), .lit (.int .u8 2), .lit (.int .u8 57), .lit (.int .u8 49), .lit (.int .u8 28), .lit (.int .u8 3), .lit (.int .u8 61), .lit (.int .u8 58), .lit (.int .u8 42), .lit (.int .u8 50), .lit (.int .u8 38), .lit (.int .u8 29), .lit (.int .u8 17), .lit (.int .u8 4), .lit (.int .u8 62), .lit (.int .u8 47), .lit (.int .u8 59), .lit (.int .u8 36), .lit (.int .u8 45), .lit (.int .u8 43), .lit (.int .u8 51), .lit (.int .u8 22), .lit (.int .u8 53), .lit (.int .u8 39), .lit (.int .u8 33), .lit (.int .u8 30), .lit (.int .u8 24), .lit (.int .u8 18), .lit (.int .u8 12), .lit (.int .u8 5), .lit (.int .u8 63), .lit (.int .u8 55), .lit (.int .u8 48), .lit (.int .u8 27), .lit (.int .u8 60), .lit (.int .u8 41), .lit (.int .u8 37), .lit (.int .u8 16), .lit (.int .u8 46), .lit (.int .u8 35), .lit (.int .u8 44), .lit (.int .u8 21), .lit (.int .u8 52), .lit (.int .u8 32), .lit (.int .u8 23), .lit (.int .u8 11), .lit (.int .u8 54), .lit (.int .u8 26), .lit (.int .u8 40), .lit (.int .u8 15), .lit (.int .u8 34), .lit (.int .u8 20), .lit (.int .u8 31), .lit (.int .u8 10), .lit (.int .u8 25), .lit (.int .u8 14), .lit (.int .u8 19), .lit (.int .u8 9), .lit (.int .u8 13), .lit (.int .u8 8), .lit (.int .u8 7), .lit (.int .u8 6)]
def laid_internal_strconv_uint64pow10 {H : Type} : DataW H := .agg [.lit (.int .u64 1), .lit (.int .u64 10), .lit (.int .u64 100), .lit (.int .u64 1000), .lit (.int .u64 10000), .lit (.int .u64 100000), .lit (.int .u64 1000000), .lit (.int .u64 10000000), .lit (.int .u64 100000000), .lit (.int .u64 1000000000), .lit (.int .u64 10000000000), .lit (.int .u64 100000000000), .lit (.int .u64 1000000000000), .lit (.int .u64 10000000000000), .lit (.int .u64 100000000000000), .lit (.int .u64 1000000000000000), .lit (.int .u64 10000000000000000), .lit (.int .u64 100000000000000000), .lit (.int .u64 1000000000000000000), .lit (.int .u64 10000000000000000000)]
def laid_strconv_ErrRange {H : Type} : DataW H := .iface "*errors.errorString" (.ptr (.agg [.lit (.string [118, 97, 108, 117, 101, 32, 111, 117, 116, 32, 111, 102, 32, 114, 97, 110, 103, 101])]))
def laid_strconv_ErrSyntax {H : Type} : DataW H := .iface "*errors.errorString" (.ptr (.agg [.lit (.string [105, 110, 118, 97, 108, 105, 100, 32, 115, 121, 110, 116, 97, 120])]))

/-- 'sluicelaw2.EventNames': WHATEVER THE INPUT: true; the input reads as it did. -/
def eventNamesSpec : ChangeSpec := { name := "eventNames", fn := fun _ => fun
  | [d] => { results := [.lit (.bool true)], args := [d] }
  | _ => none }
def eventNamesRow : OpenClaim := { program := "ytppeonlpocdhkaadoor", sum := "f7695908c955ef1cddddfef5a861a319c51818499b22f06ac9924ae99d1833d5", func := "sluice/sluicelaw2.EventNames", spec := "eventNames", named := ["sluice/api.Keywords"], apart := false, laid := [("sluice/api.Keywords", laid_sluice_api_Keywords)] }
def EventNamesSaid : Prop := eventNamesRow.holds Tryd.pinned (OpenSpec.ofChange eventNamesSpec)

/-- ITS FALSE NEIGHBOUR: 'it returns false'. Refute it at one input. -/
def eventNamesWrong : ChangeSpec := { name := "eventNames", fn := fun _ => fun
  | [d] => { results := [.lit (.bool false)], args := [d] }
  | _ => none }
def EventNamesWrongFalsely : Prop := eventNamesRow.holds Tryd.pinned (OpenSpec.ofChange eventNamesWrong)

/-- 'sluicelaw2.EventChecks': WHATEVER THE INPUT: true; the input reads as it did. -/
def eventChecksSpec : ChangeSpec := { name := "eventChecks", fn := fun _ => fun
  | [d1, d2] => { results := [.lit (.bool true)], args := [d1, d2] }
  | _ => none }
def eventChecksRow : OpenClaim := { program := "ytppeonlpocdhkaadoor", sum := "f7695908c955ef1cddddfef5a861a319c51818499b22f06ac9924ae99d1833d5", func := "sluice/sluicelaw2.EventChecks", spec := "eventChecks", named := ["sluice/api.Keywords"], apart := false, laid := [("sluice/api.Keywords", laid_sluice_api_Keywords)] }
def EventChecksSaid : Prop := eventChecksRow.holds Tryd.pinned (OpenSpec.ofChange eventChecksSpec)

/-- ITS FALSE NEIGHBOUR: 'it returns false'. Refute it at one input. -/
def eventChecksWrong : ChangeSpec := { name := "eventChecks", fn := fun _ => fun
  | [d1, d2] => { results := [.lit (.bool false)], args := [d1, d2] }
  | _ => none }
def EventChecksWrongFalsely : Prop := eventChecksRow.holds Tryd.pinned (OpenSpec.ofChange eventChecksWrong)

/-- 'sluicelaw2.EventPrintsSchema': WHATEVER THE INPUT: true; the input reads as it did. -/
def eventPrintsSchemaSpec : ChangeSpec := { name := "eventPrintsSchema", fn := fun _ => fun
  | [d] => { results := [.lit (.bool true)], args := [d] }
  | _ => none }
def eventPrintsSchemaRow : OpenClaim := { program := "ytppeonlpocdhkaadoor", sum := "f7695908c955ef1cddddfef5a861a319c51818499b22f06ac9924ae99d1833d5", func := "sluice/sluicelaw2.EventPrintsSchema", spec := "eventPrintsSchema", inPlace := ["internal/abi.NoEscape", "internal/bytealg.MakeNoZero"], named := ["sluice/api.Keywords"], apart := false, laid := [("sluice/api.Keywords", laid_sluice_api_Keywords)] }
def EventPrintsSchemaSaid : Prop := eventPrintsSchemaRow.holds Tryd.pinned (OpenSpec.ofChange eventPrintsSchemaSpec)

/-- ITS FALSE NEIGHBOUR: 'it returns false'. Refute it at one input. -/
def eventPrintsSchemaWrong : ChangeSpec := { name := "eventPrintsSchema", fn := fun _ => fun
  | [d] => { results := [.lit (.bool false)], args := [d] }
  | _ => none }
def EventPrintsSchemaWrongFalsely : Prop := eventPrintsSchemaRow.holds Tryd.pinned (OpenSpec.ofChange eventPrintsSchemaWrong)

/-- 'sluicelaw2.EventReadsSchema': WHATEVER THE INPUT: true; the input reads as it did. -/
def eventReadsSchemaSpec : ChangeSpec := { name := "eventReadsSchema", fn := fun _ => fun
  | [d] => { results := [.lit (.bool true)], args := [d] }
  | _ => none }
def eventReadsSchemaRow : OpenClaim := { program := "ytppeonlpocdhkaadoor", sum := "f7695908c955ef1cddddfef5a861a319c51818499b22f06ac9924ae99d1833d5", func := "sluice/sluicelaw2.EventReadsSchema", spec := "eventReadsSchema", named := ["sluice/api.Keywords"], apart := false, laid := [("sluice/api.Keywords", laid_sluice_api_Keywords)] }
def EventReadsSchemaSaid : Prop := eventReadsSchemaRow.holds Tryd.pinned (OpenSpec.ofChange eventReadsSchemaSpec)

/-- ITS FALSE NEIGHBOUR: 'it returns false'. Refute it at one input. -/
def eventReadsSchemaWrong : ChangeSpec := { name := "eventReadsSchema", fn := fun _ => fun
  | [d] => { results := [.lit (.bool false)], args := [d] }
  | _ => none }
def EventReadsSchemaWrongFalsely : Prop := eventReadsSchemaRow.holds Tryd.pinned (OpenSpec.ofChange eventReadsSchemaWrong)

/-- 'sluicelaw2.EventPrints': WHATEVER THE INPUT: true; the input reads as it did. -/
def eventPrintsSpec : ChangeSpec := { name := "eventPrints", fn := fun _ => fun
  | [d1, d2] => { results := [.lit (.bool true)], args := [d1, d2] }
  | _ => none }
def eventPrintsRow : OpenClaim := { program := "ytppeonlpocdhkaadoor", sum := "f7695908c955ef1cddddfef5a861a319c51818499b22f06ac9924ae99d1833d5", func := "sluice/sluicelaw2.EventPrints", spec := "eventPrints", named := ["sluice/api.Keywords", "internal/strconv.uint64pow10", "math/bits.deBruijn32tab", "math/bits.deBruijn64tab"], apart := false, laid := [("math/bits.deBruijn32tab", laid_math_bits_deBruijn32tab), ("math/bits.deBruijn64tab", laid_math_bits_deBruijn64tab), ("internal/strconv.uint64pow10", laid_internal_strconv_uint64pow10), ("sluice/api.Keywords", laid_sluice_api_Keywords)] }
def EventPrintsSaid : Prop := eventPrintsRow.holds Tryd.pinned (OpenSpec.ofChange eventPrintsSpec)

/-- ITS FALSE NEIGHBOUR: 'it returns false'. Refute it at one input. -/
def eventPrintsWrong : ChangeSpec := { name := "eventPrints", fn := fun _ => fun
  | [d1, d2] => { results := [.lit (.bool false)], args := [d1, d2] }
  | _ => none }
def EventPrintsWrongFalsely : Prop := eventPrintsRow.holds Tryd.pinned (OpenSpec.ofChange eventPrintsWrong)

/-- 'sluicelaw2.EventReads': WHATEVER THE INPUT: true; the input reads as it did. -/
def eventReadsSpec : ChangeSpec := { name := "eventReads", fn := fun _ => fun
  | [d1, d2] => { results := [.lit (.bool true)], args := [d1, d2] }
  | _ => none }
def eventReadsRow : OpenClaim := { program := "ytppeonlpocdhkaadoor", sum := "f7695908c955ef1cddddfef5a861a319c51818499b22f06ac9924ae99d1833d5", func := "sluice/sluicelaw2.EventReads", spec := "eventReads", unfollowed := true, recurses := true, named := ["sluice/api.Keywords", "strconv.ErrSyntax", "strconv.ErrRange", "internal/strconv.uint64pow10", "math/bits.deBruijn32tab", "math/bits.deBruijn64tab"], apart := false, laid := [("math/bits.deBruijn32tab", laid_math_bits_deBruijn32tab), ("math/bits.deBruijn64tab", laid_math_bits_deBruijn64tab), ("internal/strconv.uint64pow10", laid_internal_strconv_uint64pow10), ("strconv.ErrRange", laid_strconv_ErrRange), ("strconv.ErrSyntax", laid_strconv_ErrSyntax), ("sluice/api.Keywords", laid_sluice_api_Keywords)] }
def EventReadsSaid : Prop := eventReadsRow.holds Tryd.pinned (OpenSpec.ofChange eventReadsSpec)

/-- ITS FALSE NEIGHBOUR: 'it returns false'. Refute it at one input. -/
def eventReadsWrong : ChangeSpec := { name := "eventReads", fn := fun _ => fun
  | [d1, d2] => { results := [.lit (.bool false)], args := [d1, d2] }
  | _ => none }
def EventReadsWrongFalsely : Prop := eventReadsRow.holds Tryd.pinned (OpenSpec.ofChange eventReadsWrong)

/-- 'sluicelaw2.EventSpaces': WHATEVER THE INPUT: true; the input reads as it did. -/
def eventSpacesSpec : ChangeSpec := { name := "eventSpaces", fn := fun _ => fun
  | [d1, d2, d3] => { results := [.lit (.bool true)], args := [d1, d2, d3] }
  | _ => none }
def eventSpacesRow : OpenClaim := { program := "ytppeonlpocdhkaadoor", sum := "f7695908c955ef1cddddfef5a861a319c51818499b22f06ac9924ae99d1833d5", func := "sluice/sluicelaw2.EventSpaces", spec := "eventSpaces", unfollowed := true, recurses := true, named := ["sluice/api.Keywords", "strconv.ErrSyntax", "strconv.ErrRange", "internal/strconv.uint64pow10", "math/bits.deBruijn32tab", "math/bits.deBruijn64tab"], apart := false, laid := [("math/bits.deBruijn32tab", laid_math_bits_deBruijn32tab), ("math/bits.deBruijn64tab", laid_math_bits_deBruijn64tab), ("internal/strconv.uint64pow10", laid_internal_strconv_uint64pow10), ("strconv.ErrRange", laid_strconv_ErrRange), ("strconv.ErrSyntax", laid_strconv_ErrSyntax), ("sluice/api.Keywords", laid_sluice_api_Keywords)] }
def EventSpacesSaid : Prop := eventSpacesRow.holds Tryd.pinned (OpenSpec.ofChange eventSpacesSpec)

/-- ITS FALSE NEIGHBOUR: 'it returns false'. Refute it at one input. -/
def eventSpacesWrong : ChangeSpec := { name := "eventSpaces", fn := fun _ => fun
  | [d1, d2, d3] => { results := [.lit (.bool false)], args := [d1, d2, d3] }
  | _ => none }
def EventSpacesWrongFalsely : Prop := eventSpacesRow.holds Tryd.pinned (OpenSpec.ofChange eventSpacesWrong)

/-- 'sluicelaw2.EventOwn': WHATEVER THE INPUT: true; the input reads as it did. -/
def eventOwnSpec : ChangeSpec := { name := "eventOwn", fn := fun _ => fun
  | [d] => { results := [.lit (.bool true)], args := [d] }
  | _ => none }
def eventOwnRow : OpenClaim := { program := "ytppeonlpocdhkaadoor", sum := "f7695908c955ef1cddddfef5a861a319c51818499b22f06ac9924ae99d1833d5", func := "sluice/sluicelaw2.EventOwn", spec := "eventOwn", unfollowed := true, recurses := true, named := ["sluice/api.Keywords", "strconv.ErrSyntax", "strconv.ErrRange", "internal/strconv.uint64pow10", "math/bits.deBruijn32tab", "math/bits.deBruijn64tab"], apart := false, laid := [("math/bits.deBruijn32tab", laid_math_bits_deBruijn32tab), ("math/bits.deBruijn64tab", laid_math_bits_deBruijn64tab), ("internal/strconv.uint64pow10", laid_internal_strconv_uint64pow10), ("strconv.ErrRange", laid_strconv_ErrRange), ("strconv.ErrSyntax", laid_strconv_ErrSyntax), ("sluice/api.Keywords", laid_sluice_api_Keywords)] }
def EventOwnSaid : Prop := eventOwnRow.holds Tryd.pinned (OpenSpec.ofChange eventOwnSpec)

/-- ITS FALSE NEIGHBOUR: 'it returns false'. Refute it at one input. -/
def eventOwnWrong : ChangeSpec := { name := "eventOwn", fn := fun _ => fun
  | [d] => { results := [.lit (.bool false)], args := [d] }
  | _ => none }
def EventOwnWrongFalsely : Prop := eventOwnRow.holds Tryd.pinned (OpenSpec.ofChange eventOwnWrong)

/-- 'sluicelaw2.EventCanon': WHATEVER THE INPUT: true; the input reads as it did. -/
def eventCanonSpec : ChangeSpec := { name := "eventCanon", fn := fun _ => fun
  | [d1, d2] => { results := [.lit (.bool true)], args := [d1, d2] }
  | _ => none }
def eventCanonRow : OpenClaim := { program := "ytppeonlpocdhkaadoor", sum := "f7695908c955ef1cddddfef5a861a319c51818499b22f06ac9924ae99d1833d5", func := "sluice/sluicelaw2.EventCanon", spec := "eventCanon", inPlace := ["internal/abi.NoEscape", "internal/bytealg.MakeNoZero"], unfollowed := true, recurses := true, named := ["sluice/api.Keywords", "strconv.ErrSyntax", "strconv.ErrRange", "internal/strconv.uint64pow10", "math/bits.deBruijn32tab", "math/bits.deBruijn64tab"], apart := false, laid := [("math/bits.deBruijn32tab", laid_math_bits_deBruijn32tab), ("math/bits.deBruijn64tab", laid_math_bits_deBruijn64tab), ("internal/strconv.uint64pow10", laid_internal_strconv_uint64pow10), ("strconv.ErrRange", laid_strconv_ErrRange), ("strconv.ErrSyntax", laid_strconv_ErrSyntax), ("sluice/api.Keywords", laid_sluice_api_Keywords)] }
def EventCanonSaid : Prop := eventCanonRow.holds Tryd.pinned (OpenSpec.ofChange eventCanonSpec)

/-- ITS FALSE NEIGHBOUR: 'it returns false'. Refute it at one input. -/
def eventCanonWrong : ChangeSpec := { name := "eventCanon", fn := fun _ => fun
  | [d1, d2] => { results := [.lit (.bool false)], args := [d1, d2] }
  | _ => none }
def EventCanonWrongFalsely : Prop := eventCanonRow.holds Tryd.pinned (OpenSpec.ofChange eventCanonWrong)

/-- 'sluicelaw2.EventFile': WHATEVER THE INPUT: true; the input reads as it did. -/
def eventFileSpec : ChangeSpec := { name := "eventFile", fn := fun _ => fun
  | [d1, d2] => { results := [.lit (.bool true)], args := [d1, d2] }
  | _ => none }
def eventFileRow : OpenClaim := { program := "ytppeonlpocdhkaadoor", sum := "f7695908c955ef1cddddfef5a861a319c51818499b22f06ac9924ae99d1833d5", func := "sluice/sluicelaw2.EventFile", spec := "eventFile", inPlace := ["internal/abi.NoEscape", "internal/bytealg.MakeNoZero"], unfollowed := true, recurses := true, named := ["sluice/api.Keywords", "strconv.ErrSyntax", "strconv.ErrRange", "internal/strconv.uint64pow10", "math/bits.deBruijn32tab", "math/bits.deBruijn64tab"], apart := false, laid := [("math/bits.deBruijn32tab", laid_math_bits_deBruijn32tab), ("math/bits.deBruijn64tab", laid_math_bits_deBruijn64tab), ("internal/strconv.uint64pow10", laid_internal_strconv_uint64pow10), ("strconv.ErrRange", laid_strconv_ErrRange), ("strconv.ErrSyntax", laid_strconv_ErrSyntax), ("sluice/api.Keywords", laid_sluice_api_Keywords)] }
def EventFileSaid : Prop := eventFileRow.holds Tryd.pinned (OpenSpec.ofChange eventFileSpec)

/-- ITS FALSE NEIGHBOUR: 'it returns false'. Refute it at one input. -/
def eventFileWrong : ChangeSpec := { name := "eventFile", fn := fun _ => fun
  | [d1, d2] => { results := [.lit (.bool false)], args := [d1, d2] }
  | _ => none }
def EventFileWrongFalsely : Prop := eventFileRow.holds Tryd.pinned (OpenSpec.ofChange eventFileWrong)

/- THE SECOND FORM. 'bulk': how many values and letters a reading holds, each counted each time it is reached (what is shared counts as often as it is met; a slice's spare places count too). A statement '..UptoSaid' is the law's where the arguments, and the package variables that the reading takes, are together of bulk at most 1048576: NARROWER than '..Said'. Prove '..Said' where nothing that the law and all that it calls make is longer than what came in: it says more and counts as full. Else prove '..UptoSaid'. A law counts once. -/
mutual
def uptoBulk {H : Type} : DataW H → Nat
  | .lit (.string bytes) => bytes.length + 1
  | .lit _ => 1
  | .nil => 1
  | .ptr d => uptoBulk d + 1
  | .slice elems spare => uptoBulkAll elems + uptoBulkAll spare + 1
  | .agg parts => uptoBulkAll parts + 1
  | .iface _ d => uptoBulk d + 1
  | .map entries => uptoBulkEntries entries + 1
  | .held _ => 1
def uptoBulkAll {H : Type} : List (DataW H) → Nat
  | [] => 0
  | d :: r => uptoBulk d + uptoBulkAll r
def uptoBulkEntries {H : Type} : List (Lit × DataW H) → Nat
  | [] => 0
  | x :: r => uptoBulkEntry x + uptoBulkEntries r
def uptoBulkEntry {H : Type} : Lit × DataW H → Nat
  | (.string bytes, d) => bytes.length + uptoBulk d + 1
  | (_, d) => uptoBulk d + 1
 end
def uptoSmall : (H : Type) → List (DataW H) → Bool := fun _ ds => decide (uptoBulkAll ds ≤ 1048576)
def OpenSpec.upto (s : _root_.Go.ChangeSpec) : _root_.Go.OpenSpec := { _root_.Go.OpenSpec.ofChange s with cond := some uptoSmall }

/-- 'sluicelaw2.EventNames', WHERE WHAT IT READS IS OF BULK AT MOST 1048576: true; the input reads as it did. -/
def eventNamesUptoRow : OpenClaim := { program := "ytppeonlpocdhkaadoor", sum := "f7695908c955ef1cddddfef5a861a319c51818499b22f06ac9924ae99d1833d5", func := "sluice/sluicelaw2.EventNames", spec := "eventNames", named := ["sluice/api.Keywords"], apart := false, laid := [("sluice/api.Keywords", laid_sluice_api_Keywords)], narrowed := true }
def EventNamesUptoSaid : Prop := eventNamesUptoRow.holds Tryd.pinned (OpenSpec.upto eventNamesSpec)

/-- 'sluicelaw2.EventChecks', WHERE WHAT IT READS IS OF BULK AT MOST 1048576: true; the input reads as it did. -/
def eventChecksUptoRow : OpenClaim := { program := "ytppeonlpocdhkaadoor", sum := "f7695908c955ef1cddddfef5a861a319c51818499b22f06ac9924ae99d1833d5", func := "sluice/sluicelaw2.EventChecks", spec := "eventChecks", named := ["sluice/api.Keywords"], apart := false, laid := [("sluice/api.Keywords", laid_sluice_api_Keywords)], narrowed := true }
def EventChecksUptoSaid : Prop := eventChecksUptoRow.holds Tryd.pinned (OpenSpec.upto eventChecksSpec)

/-- 'sluicelaw2.EventPrintsSchema', WHERE WHAT IT READS IS OF BULK AT MOST 1048576: true; the input reads as it did. -/
def eventPrintsSchemaUptoRow : OpenClaim := { program := "ytppeonlpocdhkaadoor", sum := "f7695908c955ef1cddddfef5a861a319c51818499b22f06ac9924ae99d1833d5", func := "sluice/sluicelaw2.EventPrintsSchema", spec := "eventPrintsSchema", inPlace := ["internal/abi.NoEscape", "internal/bytealg.MakeNoZero"], named := ["sluice/api.Keywords"], apart := false, laid := [("sluice/api.Keywords", laid_sluice_api_Keywords)], narrowed := true }
def EventPrintsSchemaUptoSaid : Prop := eventPrintsSchemaUptoRow.holds Tryd.pinned (OpenSpec.upto eventPrintsSchemaSpec)

/-- 'sluicelaw2.EventReadsSchema', WHERE WHAT IT READS IS OF BULK AT MOST 1048576: true; the input reads as it did. -/
def eventReadsSchemaUptoRow : OpenClaim := { program := "ytppeonlpocdhkaadoor", sum := "f7695908c955ef1cddddfef5a861a319c51818499b22f06ac9924ae99d1833d5", func := "sluice/sluicelaw2.EventReadsSchema", spec := "eventReadsSchema", named := ["sluice/api.Keywords"], apart := false, laid := [("sluice/api.Keywords", laid_sluice_api_Keywords)], narrowed := true }
def EventReadsSchemaUptoSaid : Prop := eventReadsSchemaUptoRow.holds Tryd.pinned (OpenSpec.upto eventReadsSchemaSpec)

/-- 'sluicelaw2.EventPrints', WHERE WHAT IT READS IS OF BULK AT MOST 1048576: true; the input reads as it did. -/
def eventPrintsUptoRow : OpenClaim := { program := "ytppeonlpocdhkaadoor", sum := "f7695908c955ef1cddddfef5a861a319c51818499b22f06ac9924ae99d1833d5", func := "sluice/sluicelaw2.EventPrints", spec := "eventPrints", named := ["sluice/api.Keywords", "internal/strconv.uint64pow10", "math/bits.deBruijn32tab", "math/bits.deBruijn64tab"], apart := false, laid := [("math/bits.deBruijn32tab", laid_math_bits_deBruijn32tab), ("math/bits.deBruijn64tab", laid_math_bits_deBruijn64tab), ("internal/strconv.uint64pow10", laid_internal_strconv_uint64pow10), ("sluice/api.Keywords", laid_sluice_api_Keywords)], narrowed := true }
def EventPrintsUptoSaid : Prop := eventPrintsUptoRow.holds Tryd.pinned (OpenSpec.upto eventPrintsSpec)

/-- 'sluicelaw2.EventReads', WHERE WHAT IT READS IS OF BULK AT MOST 1048576: true; the input reads as it did. -/
def eventReadsUptoRow : OpenClaim := { program := "ytppeonlpocdhkaadoor", sum := "f7695908c955ef1cddddfef5a861a319c51818499b22f06ac9924ae99d1833d5", func := "sluice/sluicelaw2.EventReads", spec := "eventReads", unfollowed := true, recurses := true, named := ["sluice/api.Keywords", "strconv.ErrSyntax", "strconv.ErrRange", "internal/strconv.uint64pow10", "math/bits.deBruijn32tab", "math/bits.deBruijn64tab"], apart := false, laid := [("math/bits.deBruijn32tab", laid_math_bits_deBruijn32tab), ("math/bits.deBruijn64tab", laid_math_bits_deBruijn64tab), ("internal/strconv.uint64pow10", laid_internal_strconv_uint64pow10), ("strconv.ErrRange", laid_strconv_ErrRange), ("strconv.ErrSyntax", laid_strconv_ErrSyntax), ("sluice/api.Keywords", laid_sluice_api_Keywords)], narrowed := true }
def EventReadsUptoSaid : Prop := eventReadsUptoRow.holds Tryd.pinned (OpenSpec.upto eventReadsSpec)

/-- 'sluicelaw2.EventSpaces', WHERE WHAT IT READS IS OF BULK AT MOST 1048576: true; the input reads as it did. -/
def eventSpacesUptoRow : OpenClaim := { program := "ytppeonlpocdhkaadoor", sum := "f7695908c955ef1cddddfef5a861a319c51818499b22f06ac9924ae99d1833d5", func := "sluice/sluicelaw2.EventSpaces", spec := "eventSpaces", unfollowed := true, recurses := true, named := ["sluice/api.Keywords", "strconv.ErrSyntax", "strconv.ErrRange", "internal/strconv.uint64pow10", "math/bits.deBruijn32tab", "math/bits.deBruijn64tab"], apart := false, laid := [("math/bits.deBruijn32tab", laid_math_bits_deBruijn32tab), ("math/bits.deBruijn64tab", laid_math_bits_deBruijn64tab), ("internal/strconv.uint64pow10", laid_internal_strconv_uint64pow10), ("strconv.ErrRange", laid_strconv_ErrRange), ("strconv.ErrSyntax", laid_strconv_ErrSyntax), ("sluice/api.Keywords", laid_sluice_api_Keywords)], narrowed := true }
def EventSpacesUptoSaid : Prop := eventSpacesUptoRow.holds Tryd.pinned (OpenSpec.upto eventSpacesSpec)

/-- 'sluicelaw2.EventOwn', WHERE WHAT IT READS IS OF BULK AT MOST 1048576: true; the input reads as it did. -/
def eventOwnUptoRow : OpenClaim := { program := "ytppeonlpocdhkaadoor", sum := "f7695908c955ef1cddddfef5a861a319c51818499b22f06ac9924ae99d1833d5", func := "sluice/sluicelaw2.EventOwn", spec := "eventOwn", unfollowed := true, recurses := true, named := ["sluice/api.Keywords", "strconv.ErrSyntax", "strconv.ErrRange", "internal/strconv.uint64pow10", "math/bits.deBruijn32tab", "math/bits.deBruijn64tab"], apart := false, laid := [("math/bits.deBruijn32tab", laid_math_bits_deBruijn32tab), ("math/bits.deBruijn64tab", laid_math_bits_deBruijn64tab), ("internal/strconv.uint64pow10", laid_internal_strconv_uint64pow10), ("strconv.ErrRange", laid_strconv_ErrRange), ("strconv.ErrSyntax", laid_strconv_ErrSyntax), ("sluice/api.Keywords", laid_sluice_api_Keywords)], narrowed := true }
def EventOwnUptoSaid : Prop := eventOwnUptoRow.holds Tryd.pinned (OpenSpec.upto eventOwnSpec)

/-- 'sluicelaw2.EventCanon', WHERE WHAT IT READS IS OF BULK AT MOST 1048576: true; the input reads as it did. -/
def eventCanonUptoRow : OpenClaim := { program := "ytppeonlpocdhkaadoor", sum := "f7695908c955ef1cddddfef5a861a319c51818499b22f06ac9924ae99d1833d5", func := "sluice/sluicelaw2.EventCanon", spec := "eventCanon", inPlace := ["internal/abi.NoEscape", "internal/bytealg.MakeNoZero"], unfollowed := true, recurses := true, named := ["sluice/api.Keywords", "strconv.ErrSyntax", "strconv.ErrRange", "internal/strconv.uint64pow10", "math/bits.deBruijn32tab", "math/bits.deBruijn64tab"], apart := false, laid := [("math/bits.deBruijn32tab", laid_math_bits_deBruijn32tab), ("math/bits.deBruijn64tab", laid_math_bits_deBruijn64tab), ("internal/strconv.uint64pow10", laid_internal_strconv_uint64pow10), ("strconv.ErrRange", laid_strconv_ErrRange), ("strconv.ErrSyntax", laid_strconv_ErrSyntax), ("sluice/api.Keywords", laid_sluice_api_Keywords)], narrowed := true }
def EventCanonUptoSaid : Prop := eventCanonUptoRow.holds Tryd.pinned (OpenSpec.upto eventCanonSpec)

/-- 'sluicelaw2.EventFile', WHERE WHAT IT READS IS OF BULK AT MOST 1048576: true; the input reads as it did. -/
def eventFileUptoRow : OpenClaim := { program := "ytppeonlpocdhkaadoor", sum := "f7695908c955ef1cddddfef5a861a319c51818499b22f06ac9924ae99d1833d5", func := "sluice/sluicelaw2.EventFile", spec := "eventFile", inPlace := ["internal/abi.NoEscape", "internal/bytealg.MakeNoZero"], unfollowed := true, recurses := true, named := ["sluice/api.Keywords", "strconv.ErrSyntax", "strconv.ErrRange", "internal/strconv.uint64pow10", "math/bits.deBruijn32tab", "math/bits.deBruijn64tab"], apart := false, laid := [("math/bits.deBruijn32tab", laid_math_bits_deBruijn32tab), ("math/bits.deBruijn64tab", laid_math_bits_deBruijn64tab), ("internal/strconv.uint64pow10", laid_internal_strconv_uint64pow10), ("strconv.ErrRange", laid_strconv_ErrRange), ("strconv.ErrSyntax", laid_strconv_ErrSyntax), ("sluice/api.Keywords", laid_sluice_api_Keywords)], narrowed := true }
def EventFileUptoSaid : Prop := eventFileUptoRow.holds Tryd.pinned (OpenSpec.upto eventFileSpec)

end Rows
end Go.Proofs.YtppeonlpocdhkaaDoor

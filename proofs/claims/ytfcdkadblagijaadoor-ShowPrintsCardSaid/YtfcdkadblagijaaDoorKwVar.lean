/-
  The table of keywords: what the rows list of it.
-/
import Derived.Test.YtfcdkadblagijaaDoorLetters2
namespace Go.Proofs.YtfcdkadblagijaaDoor
open Go.RowKit
theorem gKeywords : Tryd.prog.globalNamed "sluice/api.Keywords" = some 2 := by kernel_rfl
theorem tKeywords : (Tryd.prog.globals[2]?).map (·.type) = some 88 := by kernel_rfl
theorem cellsKw : Tryd.prog.cellsOf 88 = 27 := by kernel_rfl
theorem cellsStr : Tryd.prog.cellsOf 9 = 1 := by kernel_rfl
theorem kwVar {W : World} {laid : List (String × DataW Unit)} (h : laidMet Tryd.prog laid W) (i : Nat) (hi : laid[i]? = some ("sluice/api.Keywords", Rows.laid_sluice_api_Keywords)) :
    W.var? Tryd.prog "sluice/api.Keywords" = some (kwList.map fun s => Value.string ⟨s.toArray⟩).toArray :=
  strTab h i kwList hi gKeywords tKeywords Tryd.underlying88 Tryd.underlying9 cellsStr cellsKw
end Go.Proofs.YtfcdkadblagijaaDoor

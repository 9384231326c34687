/-
  The walk of the law LexNames: constants, and four cells of the table of keywords.
-/
import Derived.Test.YtpbljdiopdjboaaDoorKit
namespace Go.Proofs.YtpbljdiopdjboaaDoor
open Go.RowKit Go.ChangeShapes Go.WideShapes Go.ChangeAt
/-- The keywords, as the rows list them. -/
def kwList : List (List UInt8) := [[80, 65, 84, 84, 69, 82, 78], [83, 69, 81], [85, 83, 73, 78, 71], [65, 78, 89], [78, 69, 88, 84], [83, 84, 82, 73, 67, 84], [87, 72, 69, 82, 69], [87, 73, 84, 72, 73, 78], [80, 65, 82, 84, 73, 84, 73, 79, 78], [66, 89], [82, 69, 84, 85, 82, 78], [65, 78, 68], [79, 82], [78, 79, 84], [84, 82, 85, 69], [70, 65, 76, 83, 69], [67, 79, 85, 78, 84], [83, 85, 77], [77, 73, 78], [77, 65, 88], [70, 73, 82, 83, 84], [76, 65, 83, 84], [80, 82, 69, 86], [65, 70, 84, 69, 82], [65, 76, 76], [80, 65, 83, 84], [79, 78, 67, 69]]
theorem gKeywords : Tryd.prog.globalNamed "sluice/api.Keywords" = some 0 := by kernel_rfl
theorem tKeywords : (Tryd.prog.globals[0]?).map (·.type) = some 22 := by kernel_rfl
theorem cellsKw : Tryd.prog.cellsOf 22 = 27 := by kernel_rfl
theorem cellsStr : Tryd.prog.cellsOf 9 = 1 := by kernel_rfl
theorem kwVar {W : World} {laid : List (String × DataW Unit)} (h : laidMet Tryd.prog laid W) (i : Nat) (hi : laid[i]? = some ("sluice/api.Keywords", Rows.laid_sluice_api_Keywords)) :
    W.var? Tryd.prog "sluice/api.Keywords" = some (kwList.map fun s => Value.string ⟨s.toArray⟩).toArray :=
  strTab h i kwList hi gKeywords tKeywords Tryd.underlying22 Tryd.underlying9 cellsStr cellsKw
theorem lexNames_walk (W : World) (h0 : W.cell? ⟨0, 0, none⟩ = some (.string ⟨#[80, 65, 84, 84, 69, 82, 78]⟩)) (h10 : W.cell? ⟨0, 10, none⟩ = some (.string ⟨#[82, 69, 84, 85, 82, 78]⟩))
    (h22 : W.cell? ⟨0, 22, none⟩ = some (.string ⟨#[80, 82, 69, 86]⟩)) (h26 : W.cell? ⟨0, 26, none⟩ = some (.string ⟨#[79, 78, 67, 69]⟩)) :
    Calls Tryd.prog 3 #[] W fun e W' => e = .returned (.bool true) ∧ Below W.heap.size W W' := by
  go_enter Tryd.func3, Tryd.ntmps3
  go_wp2
  go_ret
  exact ⟨rfl, Below.refl _ _⟩
theorem lexNames_main (W : World) (_base : Nat) {X Z C S : Prop} (_ : X) (_ : Z) (_ : C) (h : laidMetH Tryd.prog Rows.lexNamesRow.laid W) (_ : S) :
    Calls Tryd.prog 3 #[] W fun e W' => e = .returned (.bool true) ∧ Below W.heap.size W W' := by
  have hv := kwVar (laid := Rows.lexNamesRow.laid) h 0 rfl
  exact lexNames_walk W (World.var?_cell gKeywords hv 0) (World.var?_cell gKeywords hv 10) (World.var?_cell gKeywords hv 22) (World.var?_cell gKeywords hv 26)
end Go.Proofs.YtpbljdiopdjboaaDoor

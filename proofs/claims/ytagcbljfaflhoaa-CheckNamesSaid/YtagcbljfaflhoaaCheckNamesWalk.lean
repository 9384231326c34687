/-
  The walk of the law CheckNames: it looks at constants alone.
-/
import Derived.Test.YtagcbljfaflhoaaKit
namespace Go.Proofs.Ytagcbljfaflhoaa
open Go.RowKit Go.ChangeShapes Go.WideShapes Go.ChangeAt
theorem checkNames_main (W : World) (_base : Nat) {X Z C L S : Prop} (_ : X) (_ : Z) (_ : C) (_ : L) (_ : S) :
    Calls Try.prog 3 #[] W fun e W' => e = .returned (.bool true) ∧ Below W.heap.size W W' := by
  go_enter Try.func3, Try.ntmps3
  go_wp2
  go_ret
  exact ⟨rfl, Below.refl _ _⟩
end Go.Proofs.Ytagcbljfaflhoaa

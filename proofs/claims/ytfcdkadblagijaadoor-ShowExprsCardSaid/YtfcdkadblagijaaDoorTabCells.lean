/-
  What a listed table's cells are: for the witness' world.
-/
import Derived.Test.YtfcdkadblagijaaDoorKit
namespace Go.Proofs.YtfcdkadblagijaaDoor
def tabCells (d : DataW Unit) : Array Value :=
  match d with
  | .agg l => (l.map fun x => match x with | .lit (.int k z) => Value.int k z | .lit (.string s) => Value.string ⟨s.toArray⟩ | _ => undef).toArray
  | _ => #[]
end Go.Proofs.YtfcdkadblagijaaDoor

/-
  The law EventFinds: its arguments opened.
-/
import Derived.Test.YtppeonlpocdhkaaEventFindsWalk
namespace Go.Proofs.Ytppeonlpocdhkaa
open Go.RowKit Go.ChangeShapes Go.WideShapes Go.ChangeAt
theorem eventFinds_main {H : Type} {enc : TypeId × Value → H} (W : World) (base : Nat) {v0 v1 v2 : Value} {d0 d1 d2 : DataW H} {p0 p1 p2 : List MemPlace} {X C L S : Prop}
    (o0 : Value.okWide Try.prog W .any base 29 v0) (h0 : DataW.Trod enc Try.prog W 0 (fun _ => true) true 29 v0 d0 p0)
    (o1 : Value.okWide Try.prog W .any base 3 v1) (h1 : DataW.Trod enc Try.prog W 0 (fun _ => true) true 3 v1 d1 p1)
    (o2 : Value.okWide Try.prog W .any base 9 v2) (h2 : DataW.Trod enc Try.prog W 0 (fun _ => true) true 9 v2 d2 p2)
    (_ : X) (hz : ReachedAll Try.prog ([29, 3, 9] ++ (OpenSpec.ofChange Rows.eventFindsSpec).bare.plain.varTypes Try.prog) ([d0, d1, d2] ++ [])) (_ : C) (_ : L) (_ : S) :
    Calls Try.prog 4 #[v0, v1, v2] W fun e W' => e = .returned (.bool true) ∧ Below W.heap.size W W' := by
  obtain ⟨A, T, cap, rfl, hT⟩ := open_schema o0 h0 (reach_cons hz).1
  obtain ⟨n, rfl, _⟩ := open_int Try.underlying3 o1 h1
  obtain ⟨s, rfl, _⟩ := Go.ChangeMaps.open_string Try.underlying9 o2 h2
  exact eventFinds_walk A cap T n s W hT
end Go.Proofs.Ytppeonlpocdhkaa

/-
  The law EventNames.
-/
import Derived.Test.YtppeonlpocdhkaaDoorNameWalk
import Derived.Test.YtppeonlpocdhkaaDoorNameRef
import Derived.Test.YtppeonlpocdhkaaDoorKwVar
namespace Go.Proofs.YtppeonlpocdhkaaDoor
open Go.RowKit Go.ChangeShapes Go.WideShapes Go.ChangeAt
theorem eventNames_walk (s : ByteArray) (w : World) {tt : TypeId} {fr : Nat × Nat} (hb : w.heap[0]? = some (.cells kwArr tt fr)) :
    Calls Tryd.prog 3 #[.string s] w fun e w' => e = .returned (.bool true) ∧ Below w.heap.size w w' := by
  have HB := Lib.hid hb
  clear hb
  go_enter Tryd.func3, Tryd.ntmps3
  go_wp2_with fail
  refine (isName_any s _ HB.out).mono ?_
  rintro e w1 ⟨rfl, hb1⟩
  have HB1 := Lib.hid (block_below HB.out hb1)
  go_wp2_with fail
  refine (refIsName_any s _ HB1.out).mono ?_
  rintro e w2 ⟨rfl, rfl⟩
  go_wp2_with fail
  go_ret
  exact ⟨ret_bool (by simp), hb1⟩
set_option maxRecDepth 8000 in
theorem eventNames_main {H : Type} {enc : TypeId × Value → H} (W : World) (base : Nat) {v0 : Value} {d0 : DataW H} {p0 : List MemPlace} {X Z C S : Prop}
    (o0 : Value.okWide Tryd.prog W .any base 9 v0) (h0 : DataW.Trod enc Tryd.prog W 0 (fun _ => true) true 9 v0 d0 p0)
    (_ : X) (_ : Z) (_ : C) (h : laidMetH Tryd.prog Rows.eventNamesRow.laid W) (_ : S) :
    Calls Tryd.prog 3 #[v0] W fun e W' => e = .returned (.bool true) ∧ Below W.heap.size W W' := by
  have hv0 := kwVar (laid := Rows.eventNamesRow.laid) h 0 rfl
  obtain ⟨t0, f0, g0⟩ := var_block gKeywords hv0
  obtain ⟨s, rfl, rfl, rfl, hmax⟩ := Go.ChangeMaps.open_string Tryd.underlying9 o0 h0
  exact eventNames_walk s W g0
end Go.Proofs.YtppeonlpocdhkaaDoor

/-
  The walk of the law EventReadsSchema.
-/
import Derived.Test.YtppeonlpocdhkaaDoorSchemaSame
import Derived.Test.YtppeonlpocdhkaaDoorParseRef
import Derived.Test.YtppeonlpocdhkaaDoorKwVar
set_option linter.unusedSimpArgs false
set_option linter.unusedVariables false
namespace Go.Proofs.YtppeonlpocdhkaaDoor
open Go.RowKit Go.ChangeShapes Go.WideShapes Go.ChangeAt
set_option maxRecDepth 100000 in
set_option maxHeartbeats 2000000 in
theorem eventReadsSchema_walk (s : ByteArray) (w : World) {tt : TypeId} {fr : Nat × Nat} (hkw : w.heap[0]? = some (.cells kwArr tt fr)) :
    Calls Tryd.prog 6 #[.string s] w fun e w' => e = .returned (.bool true) ∧ Below w.heap.size w w' := by
  have HK := Lib.hid hkw
  clear hkw
  go_enter Tryd.func6, Tryd.ntmps6
  go_wp2_with fail
  refine (parseSchema_any s _ HK.out).mono ?_
  rintro e w2 ⟨A2, c2, rfl, hb2, hown2⟩
  obtain ⟨R, hR⟩ : ∃ R, parseRes s = R := ⟨_, rfl⟩
  rw [hR] at hown2 ⊢
  have hb3 := bnew hb2 (.cells #[.slice A2 R.ts.length c2] 25)
  have HT3 := Lib.hid ((TypOwn.rd hown2).later (bnew (Below.refl _ _) (.cells #[.slice A2 R.ts.length c2] 25)))
  have x3 : (w2.alloc (.cells #[.slice A2 R.ts.length c2] 25)).cell? ⟨w2.heap.size, 0, none⟩ = some (.slice A2 R.ts.length c2) := by simp [go_sem]
  have hz3 : w2.heap.size < (w2.alloc (.cells #[.slice A2 R.ts.length c2] 25)).heap.size := by simp
  clear hown2 hb2
  go_wp2_with fail
  generalize w2.alloc _ = w3 at *
  refine (refParseSchema_any s _ (block_below HK.out hb3)).mono ?_
  rintro e w4 ⟨A4, c4, rfl, hb4, hown4⟩
  rw [hR] at hown4 ⊢
  have x4 := cell_alloc ((hb4.cell (p := ⟨w2.heap.size, 0, none⟩) hz3).trans x3) (.cells #[.slice A4 R.ts.length c4] 25)
  have y4 : (w4.alloc (.cells #[.slice A4 R.ts.length c4] 25)).cell? ⟨w4.heap.size, 0, none⟩ = some (.slice A4 R.ts.length c4) := by simp [go_sem]
  have hb5 := bnew (bcall hb3 hb4) (.cells #[.slice A4 R.ts.length c4] 25)
  have HT5 := Lib.hid (HT3.out.later (bnew hb4 (.cells #[.slice A4 R.ts.length c4] 25)))
  have HU5 := Lib.hid ((TypOwn.rd hown4).later (bnew (Below.refl _ _) (.cells #[.slice A4 R.ts.length c4] 25)))
  clear hown4 hb4 x3 hb3
  go_wp2_with fail
  generalize w4.alloc _ = w5 at *
  refine (sameSchema_same A2 A4 c2 c4 (schOf R.ts) _ HT5.out HU5.out).mono ?_
  rintro e w6 ⟨rfl, hb6⟩
  generalize R.code = rc at *
  generalize R.pos = rp at *
  go_wp2_with fail
  go_ret
  exact ⟨ret_bool (by simp), bcall hb5 hb6⟩
set_option maxRecDepth 8000 in
theorem eventReadsSchema_main {H : Type} {enc : TypeId × Value → H} (W : World) (base : Nat) {v0 : Value} {d0 : DataW H} {p0 : List MemPlace} {X Z C S : Prop}
    (o0 : Value.okWide Tryd.prog W .any base 9 v0) (h0 : DataW.Trod enc Tryd.prog W 0 (fun _ => true) true 9 v0 d0 p0)
    (_ : X) (_ : Z) (_ : C) (h : laidMetH Tryd.prog Rows.eventReadsSchemaRow.laid W) (_ : S) :
    Calls Tryd.prog 6 #[v0] W fun e W' => e = .returned (.bool true) ∧ Below W.heap.size W W' := by
  have hv0 := kwVar (laid := Rows.eventReadsSchemaRow.laid) h 0 rfl
  obtain ⟨t0, f0, g0⟩ := var_block gKeywords hv0
  obtain ⟨s, rfl, rfl, rfl, hmax⟩ := Go.ChangeMaps.open_string Tryd.underlying9 o0 h0
  exact eventReadsSchema_walk s W g0
end Go.Proofs.YtppeonlpocdhkaaDoor

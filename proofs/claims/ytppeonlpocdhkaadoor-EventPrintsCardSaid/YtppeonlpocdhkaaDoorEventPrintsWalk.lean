/-
  The walk of the law EventPrints.
-/
import Derived.Test.YtppeonlpocdhkaaDoorSchemaSame
import Derived.Test.YtppeonlpocdhkaaDoorSchemaTwin
import Derived.Test.YtppeonlpocdhkaaDoorEventOpen
import Derived.Test.YtppeonlpocdhkaaDoorPrintEvent
import Derived.Test.YtppeonlpocdhkaaDoorKwVar
set_option linter.unusedSimpArgs false
namespace Go.Proofs.YtppeonlpocdhkaaDoor
open Go.RowKit Go.ChangeShapes Go.WideShapes Go.ChangeAt
set_option maxRecDepth 100000 in
set_option maxHeartbeats 1000000 in
theorem eventPrints_walk (A : Option Addr) (cap : Nat) (S : Sch) (ts id ty : Int) (a : Nat → Int) (w : World) (h : TypRd w w.heap.size A S) {tt : TypeId} {fr : Nat × Nat} (hkw : w.heap[0]? = some (.cells kwArr tt fr)) (hp : Pow w)
    (w0 : -9223372036854775808 ≤ ts ∧ ts ≤ 9223372036854775807) (w1 : 0 ≤ id ∧ id ≤ 18446744073709551615) (wa : ∀ j, j < 8 → -9223372036854775808 ≤ a j ∧ a j ≤ 9223372036854775807) :
    Calls Tryd.prog 7 #[.agg #[.slice A S.n cap], .agg (evCells ts id ty a)] w fun e w' => e = .returned (.bool true) ∧ Below w.heap.size w w' := by
  have hn := h.1
  have HT := Lib.hid h
  have HK := Lib.hid hkw
  have HP := Lib.hid hp
  have HWF := Lib.hid (And.intro w0 (And.intro w1 wa))
  have hb1 := bnew (bnew (Below.refl w.heap.size w) (.cells #[.slice A S.n cap] 25)) (.cells (evCells ts id ty a) 29)
  have e0 : ((w.alloc (.cells #[.slice A S.n cap] 25)).alloc (.cells (evCells ts id ty a) 29)).heap[w.heap.size + 1]? = some (.cells (evCells ts id ty a) 29 (0, 0)) := heap_alloc2_new w _ _
  have x0 : ((w.alloc (.cells #[.slice A S.n cap] 25)).alloc (.cells (evCells ts id ty a) 29)).cell? ⟨w.heap.size, 0, none⟩ = some (.slice A S.n cap) := by simp [go_sem]
  have hz0 : ((w.alloc (.cells #[.slice A S.n cap] 25)).alloc (.cells (evCells ts id ty a) 29)).heap.size = w.heap.size + 2 := by simp
  clear h hkw hp w0 w1 wa
  go_enter Tryd.func7, Tryd.ntmps7
  go_wp2_with fail
  have E0 := Lib.hid e0
  clear e0
  generalize ((w.alloc (.cells #[.slice A S.n cap] 25)).alloc (.cells (evCells ts id ty a) 29)) = W1 at *
  refine (twin_any A cap S _ (HT.out.later hb1)).mono ?_
  rintro e w2 ⟨A2, c2, rfl, hb2, hown2⟩
  have HR2 := Lib.hid (hown2.rd.later (bnew (Below.refl _ _) (.cells #[.slice A2 S.n c2] 25)))
  have hb3 := bnew (bcall hb1 hb2) (.cells #[.slice A2 S.n c2] 25)
  have hb3' := bnew hb2 (.cells #[.slice A2 S.n c2] 25)
  have hz2 := hb2.size
  have x3 : (w2.alloc (.cells #[.slice A2 S.n c2] 25)).cell? ⟨w.heap.size, 0, none⟩ = some (.slice A S.n cap) := cell_alloc ((hb2.cell (p := ⟨w.heap.size, 0, none⟩) (by simp; omega)).trans x0) _
  have x7 : (w2.alloc (.cells #[.slice A2 S.n c2] 25)).cell? ⟨w2.heap.size, 0, none⟩ = some (.slice A2 S.n c2) := by simp [go_sem]
  have hz3 : (w2.alloc (.cells #[.slice A2 S.n c2] 25)).heap.size = w2.heap.size + 1 := by simp
  have E3 := Lib.hid (block_below E0.out hb3')
  have K3 := Lib.hid (block_below HK.out hb3)
  clear hown2 x0 E0
  go_wp2_with (refine wpList_load_row rfl 29 _ rfl (w.heap.size + 1) rfl 29 _ (0, 0) _ E3.out Tryd.underlying29 rfl (by kernel_rfl) ?_)
  generalize w2.alloc (.cells #[.slice A2 S.n c2] 25) = w3 at *
  refine (printEvent_any A cap S ts id ty a _ (HT.out.later hb3) K3.out (HP.out.later hb3) HWF.out.1 HWF.out.2.1 HWF.out.2.2).mono ?_
  rintro e w4 ⟨rfl, hb4⟩
  have hb4' := bcall hb3 hb4
  have x34 := (hb4.cell (p := ⟨w.heap.size, 0, none⟩) (by simp; omega)).trans x3
  have x74 := (hb4.cell (p := ⟨w2.heap.size, 0, none⟩) (by simp; omega)).trans x7
  have E4 := Lib.hid (block_below E3.out hb4)
  have K4 := Lib.hid (block_below HK.out hb4')
  have hz4 := hb4.size
  clear x3 x7
  go_wp2_with (refine wpList_load_row rfl 29 _ rfl (w.heap.size + 1) rfl 29 _ (0, 0) _ E4.out Tryd.underlying29 rfl (by kernel_rfl) ?_)
  refine (refPrintEvent_any A2 c2 S ts id ty a _ (HR2.out.later hb4) K4.out (HP.out.later hb4') HWF.out.1 HWF.out.2.1 HWF.out.2.2).mono ?_
  rintro e w5 ⟨rfl, hb5⟩
  have x35 := (hb5.cell (p := ⟨w.heap.size, 0, none⟩) (by simp; omega)).trans x34
  have x75 := (hb5.cell (p := ⟨w2.heap.size, 0, none⟩) (by simp; omega)).trans x74
  clear x34 x74
  go_wp2_with fail
  refine (sameSchema_same A A2 cap c2 S _ (HT.out.later (bcall hb4' hb5)) (HR2.out.later (bcall hb4 hb5))).mono ?_
  rintro e w6 ⟨rfl, hb6⟩
  go_wp2_with fail
  go_ret
  exact ⟨rfl, bcall (bcall hb4' hb5) hb6⟩
set_option maxRecDepth 8000 in
theorem eventPrints_main {H : Type} {enc : TypeId × Value → H} (W : World) (base : Nat) {v0 v1 : Value} {d0 d1 : DataW H} {p0 p1 : List MemPlace} {X C S : Prop}
    (o0 : Value.okWide Tryd.prog W .any base 25 v0) (h0 : DataW.Trod enc Tryd.prog W 0 (fun _ => true) true 25 v0 d0 p0)
    (o1 : Value.okWide Tryd.prog W .any base 29 v1) (h1 : DataW.Trod enc Tryd.prog W 0 (fun _ => true) true 29 v1 d1 p1)
    (_ : X) (hz : ReachedAll Tryd.prog ([25, 29] ++ (OpenSpec.ofChange Rows.eventPrintsSpec).bare.plain.varTypes Tryd.prog) ([d0, d1] ++ [])) (_ : C)
    (h : laidMetH Tryd.prog Rows.eventPrintsRow.laid W) (_ : S) :
    Calls Tryd.prog 7 #[v0, v1] W fun e W' => e = .returned (.bool true) ∧ Below W.heap.size W W' := by
  have hv0 := kwVar (laid := Rows.eventPrintsRow.laid) h 3 rfl
  have hv1 := powVar (laid := Rows.eventPrintsRow.laid) h 2 rfl
  obtain ⟨t0, f0, g0⟩ := var_block gKeywords hv0
  obtain ⟨A, T, cap, rfl, hT⟩ := open_schema o0 h0 (reach_cons hz).1
  obtain ⟨ts, id, ty, a, rfl, b0, b1, _, ba⟩ := open_event o1 h1
  exact eventPrints_walk A cap T ts id ty a W hT g0 hv1 (bounds_i64 b0) (bounds_u64 b1) (fun j hj => bounds_i64 (ba j hj))
end Go.Proofs.YtppeonlpocdhkaaDoor

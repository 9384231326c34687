/-
  The walk of the law EventReads.
-/
import Derived.Test.YtppeonlpocdhkaaDoorParseEvent
import Derived.Test.YtppeonlpocdhkaaDoorSchemaTwin
import Derived.Test.YtppeonlpocdhkaaDoorSchemaSame
import Derived.Test.YtppeonlpocdhkaaDoorKwVar
import Derived.Laws.Rows
import Derived.Laws.StructEq
import Derived.ChangeKeysEq
import Derived.Deep.CutRange
set_option linter.unusedSimpArgs false
set_option linter.unusedVariables false
namespace Go.Proofs.YtppeonlpocdhkaaDoor
open Go.RowKit Go.ChangeShapes Go.WideShapes Go.ChangeAt Go.Deep
theorem info64 : (Tryd.prog.info? 2).map (fun i => (i.zero, i.size, i.bytes)) = some (some (.int .i64 0), 1, 8) := by kernel_rfl
theorem cells64 : Tryd.prog.cellsOf 2 = 1 := by kernel_rfl
/-- The values of an event are the same as themselves. -/
theorem arr8_same (a : Nat → Int) (w : World) : (Op.equalIn 9999 27 (.agg #[.int .i64 (a 0), .int .i64 (a 1), .int .i64 (a 2), .int .i64 (a 3), .int .i64 (a 4), .int .i64 (a 5), .int .i64 (a 6), .int .i64 (a 7)]) (.agg #[.int .i64 (a 0), .int .i64 (a 1), .int .i64 (a 2), .int .i64 (a 3), .int .i64 (a 4), .int .i64 (a 5), .int .i64 (a 6), .int .i64 (a 7)])).run Tryd.prog w = .ok true w := by
  obtain ⟨i0, hi0, _⟩ := info_parts info64
  refine (run_equalIn_array w 9998 _ _ Tryd.underlying27 hi0).trans ?_
  rw [cells64]
  simp [Op.eqItems, List.range_succ, go_sem]
set_option maxRecDepth 100000 in
set_option maxHeartbeats 2000000 in
theorem eventReads_walk (s : ByteArray) (hs : s.size ≤ 1048576) (A : Option Addr) (cap : Nat) (S : Sch) (w : World) (h : TypRd w w.heap.size A S) (hv : ErrV w) {tt : TypeId} {fr : Nat × Nat} (hkw : w.heap[0]? = some (.cells kwArr tt fr)) :
    Calls Tryd.prog 8 #[.agg #[.slice A S.n cap], .string s] w fun e w' => e = .returned (.bool true) ∧ Below w.heap.size w w' := by
  have hn := h.1
  have HT := Lib.hid h
  have HK := Lib.hid hkw
  have HV := Lib.hid hv
  have hb1 := bnew (Below.refl w.heap.size w) (.cells #[.slice A S.n cap] 25)
  have x0 : (w.alloc (.cells #[.slice A S.n cap] 25)).cell? ⟨w.heap.size, 0, none⟩ = some (.slice A S.n cap) := by simp [go_sem]
  have hz1 : w.heap.size < (w.alloc (.cells #[.slice A S.n cap] 25)).heap.size := by simp
  clear h hkw hv
  go_enter Tryd.func8, Tryd.ntmps8
  go_wp2_with fail
  generalize w.alloc _ = w1 at *
  refine (twin_any A cap S _ (HT.out.later hb1)).mono ?_
  rintro e w2 ⟨A2, c2, rfl, hb2, hown2⟩
  have HR2 := Lib.hid (hown2.rd.later (bnew (Below.refl _ _) (.cells #[.slice A2 S.n c2] 25)))
  have hb3 := bnew (bcall hb1 hb2) (.cells #[.slice A2 S.n c2] 25)
  have hz2 := hb2.size
  have x3 : (w2.alloc (.cells #[.slice A2 S.n c2] 25)).cell? ⟨w.heap.size, 0, none⟩ = some (.slice A S.n cap) := cell_alloc ((hb2.cell (p := ⟨w.heap.size, 0, none⟩) hz1).trans x0) _
  have x7 : (w2.alloc (.cells #[.slice A2 S.n c2] 25)).cell? ⟨w2.heap.size, 0, none⟩ = some (.slice A2 S.n c2) := by simp [go_sem]
  have hz3 : (w2.alloc (.cells #[.slice A2 S.n c2] 25)).heap.size = w2.heap.size + 1 := by simp
  clear hown2 x0
  go_wp2_with fail
  generalize w2.alloc _ = w3 at *
  refine (parseEvent_any s hs A cap S _ (HT.out.later hb3) (HV.out.later hb3) (block_below HK.out hb3)).mono ?_
  rintro e w4 ⟨he4, hb4⟩
  obtain ⟨R, hR⟩ : ∃ R, evRes S s = R := ⟨_, rfl⟩
  unfold EvEnd evCells at he4
  rw [hR] at he4
  subst he4
  have hb4' := bcall hb3 hb4
  have hz4 := hb4.size
  have x34 := cell_alloc ((hb4.cell (p := ⟨w.heap.size, 0, none⟩) (show w.heap.size < w3.heap.size by omega)).trans x3) (.cells #[.int .i64 R.ts, .int .u64 (R.id : Nat), .int .i64 (R.ty : Nat), .int .i64 (R.at_ 0), .int .i64 (R.at_ 1), .int .i64 (R.at_ 2), .int .i64 (R.at_ 3), .int .i64 (R.at_ 4), .int .i64 (R.at_ 5), .int .i64 (R.at_ 6), .int .i64 (R.at_ 7)] 29)
  have x74 := cell_alloc ((hb4.cell (p := ⟨w2.heap.size, 0, none⟩) (show w2.heap.size < w3.heap.size by omega)).trans x7) (.cells #[.int .i64 R.ts, .int .u64 (R.id : Nat), .int .i64 (R.ty : Nat), .int .i64 (R.at_ 0), .int .i64 (R.at_ 1), .int .i64 (R.at_ 2), .int .i64 (R.at_ 3), .int .i64 (R.at_ 4), .int .i64 (R.at_ 5), .int .i64 (R.at_ 6), .int .i64 (R.at_ 7)] 29)
  have hb5 := bnew hb4' (.cells #[.int .i64 R.ts, .int .u64 (R.id : Nat), .int .i64 (R.ty : Nat), .int .i64 (R.at_ 0), .int .i64 (R.at_ 1), .int .i64 (R.at_ 2), .int .i64 (R.at_ 3), .int .i64 (R.at_ 4), .int .i64 (R.at_ 5), .int .i64 (R.at_ 6), .int .i64 (R.at_ 7)] 29)
  have hb35 := bnew hb4 (.cells #[.int .i64 R.ts, .int .u64 (R.id : Nat), .int .i64 (R.ty : Nat), .int .i64 (R.at_ 0), .int .i64 (R.at_ 1), .int .i64 (R.at_ 2), .int .i64 (R.at_ 3), .int .i64 (R.at_ 4), .int .i64 (R.at_ 5), .int .i64 (R.at_ 6), .int .i64 (R.at_ 7)] 29)
  have E5 := Lib.hid (blk_new w4 #[.int .i64 R.ts, .int .u64 (R.id : Nat), .int .i64 (R.ty : Nat), .int .i64 (R.at_ 0), .int .i64 (R.at_ 1), .int .i64 (R.at_ 2), .int .i64 (R.at_ 3), .int .i64 (R.at_ 4), .int .i64 (R.at_ 5), .int .i64 (R.at_ 6), .int .i64 (R.at_ 7)] 29)
  have hz5 : (w4.alloc (.cells #[.int .i64 R.ts, .int .u64 (R.id : Nat), .int .i64 (R.ty : Nat), .int .i64 (R.at_ 0), .int .i64 (R.at_ 1), .int .i64 (R.at_ 2), .int .i64 (R.at_ 3), .int .i64 (R.at_ 4), .int .i64 (R.at_ 5), .int .i64 (R.at_ 6), .int .i64 (R.at_ 7)] 29)).heap.size = w4.heap.size + 1 := by simp
  clear x3 x7
  obtain ⟨b4, hb4e⟩ : ∃ b4, w4.heap.size = b4 := ⟨_, rfl⟩
  go_upto_region 3 with fail
  generalize w4.alloc _ = w5 at *
  rw [hb4e] at E5 hz5
  go_wp2_with fail
  refine (refParseEvent_any s hs A2 c2 S _ (HR2.out.later hb35) (block_below HK.out hb5)).mono ?_
  rintro e w6 ⟨he6, hb6⟩
  unfold EvEnd evCells at he6
  rw [hR] at he6
  subst he6
  have hb6' := bcall hb5 hb6
  have x36 := cell_alloc ((hb6.cell (p := ⟨w.heap.size, 0, none⟩) (show w.heap.size < w5.heap.size by omega)).trans x34) (.cells #[.int .i64 R.ts, .int .u64 (R.id : Nat), .int .i64 (R.ty : Nat), .int .i64 (R.at_ 0), .int .i64 (R.at_ 1), .int .i64 (R.at_ 2), .int .i64 (R.at_ 3), .int .i64 (R.at_ 4), .int .i64 (R.at_ 5), .int .i64 (R.at_ 6), .int .i64 (R.at_ 7)] 29)
  have x76 := cell_alloc ((hb6.cell (p := ⟨w2.heap.size, 0, none⟩) (show w2.heap.size < w5.heap.size by omega)).trans x74) (.cells #[.int .i64 R.ts, .int .u64 (R.id : Nat), .int .i64 (R.ty : Nat), .int .i64 (R.at_ 0), .int .i64 (R.at_ 1), .int .i64 (R.at_ 2), .int .i64 (R.at_ 3), .int .i64 (R.at_ 4), .int .i64 (R.at_ 5), .int .i64 (R.at_ 6), .int .i64 (R.at_ 7)] 29)
  have hb7 := bnew hb6' (.cells #[.int .i64 R.ts, .int .u64 (R.id : Nat), .int .i64 (R.ty : Nat), .int .i64 (R.at_ 0), .int .i64 (R.at_ 1), .int .i64 (R.at_ 2), .int .i64 (R.at_ 3), .int .i64 (R.at_ 4), .int .i64 (R.at_ 5), .int .i64 (R.at_ 6), .int .i64 (R.at_ 7)] 29)
  have hb37 := bnew (bcall hb35 hb6) (.cells #[.int .i64 R.ts, .int .u64 (R.id : Nat), .int .i64 (R.ty : Nat), .int .i64 (R.at_ 0), .int .i64 (R.at_ 1), .int .i64 (R.at_ 2), .int .i64 (R.at_ 3), .int .i64 (R.at_ 4), .int .i64 (R.at_ 5), .int .i64 (R.at_ 6), .int .i64 (R.at_ 7)] 29)
  have E7 := Lib.hid (blk_alloc (blk_below E5.out hb6) (.cells #[.int .i64 R.ts, .int .u64 (R.id : Nat), .int .i64 (R.ty : Nat), .int .i64 (R.at_ 0), .int .i64 (R.at_ 1), .int .i64 (R.at_ 2), .int .i64 (R.at_ 3), .int .i64 (R.at_ 4), .int .i64 (R.at_ 5), .int .i64 (R.at_ 6), .int .i64 (R.at_ 7)] 29))
  have F7 := Lib.hid (blk_new w6 #[.int .i64 R.ts, .int .u64 (R.id : Nat), .int .i64 (R.ty : Nat), .int .i64 (R.at_ 0), .int .i64 (R.at_ 1), .int .i64 (R.at_ 2), .int .i64 (R.at_ 3), .int .i64 (R.at_ 4), .int .i64 (R.at_ 5), .int .i64 (R.at_ 6), .int .i64 (R.at_ 7)] 29)
  clear x34 x74
  obtain ⟨b6, hb6e⟩ : ∃ b6, w6.heap.size = b6 := ⟨_, rfl⟩
  generalize R.code = rc at *
  generalize R.pos = rp at *
  generalize R.ts = r0 at *
  generalize R.id = r1 at *
  generalize R.ty = r2 at *
  generalize R.at_ = ra at *
  go_upto_region 4 with fail
  generalize w6.alloc _ = w7 at *
  rw [hb6e] at F7
  have hq := fun w => arr8_same ra w
  go_wp2_with (first | (refine wpList_load_row rfl 29 _ rfl b4 rfl 29 _ (0, 0) _ E7.out Tryd.underlying29 rfl (by kernel_rfl) ?_) | (refine wpList_load_row rfl 29 _ rfl b6 rfl 29 _ (0, 0) _ F7.out Tryd.underlying29 rfl (by kernel_rfl) ?_))
  refine (sameSchema_same A A2 cap c2 S _ (HT.out.later hb7) (HR2.out.later hb37)).mono ?_
  rintro e w8 ⟨rfl, hb8⟩
  go_wp2_with fail
  go_ret
  exact ⟨rfl, bcall hb7 hb8⟩
end Go.Proofs.YtppeonlpocdhkaaDoor

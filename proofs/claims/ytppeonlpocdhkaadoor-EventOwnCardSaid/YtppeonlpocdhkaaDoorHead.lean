/-
  The walk of the program's head: a line's first three words.
-/
import Derived.Test.YtppeonlpocdhkaaDoorHeadRef
import Derived.Deep.CutRange
set_option linter.unusedSimpArgs false
set_option linter.unusedVariables false
namespace Go.Proofs.YtppeonlpocdhkaaDoor
open Go.RowKit Go.ChangeShapes Go.WideShapes Go.ChangeAt Go.Deep Go.Joins
theorem wd_size {s : ByteArray} {L : List Pce} (hs : s.size ≤ 1048576) (i : Nat) : (wdAt s L i).size ≤ 281474976710656 := by
  unfold wdAt
  rw [ByteArray.size_extract]
  omega
set_option maxRecDepth 100000 in
set_option maxHeartbeats 4000000 in
theorem head_any (s : ByteArray) (hs : s.size ≤ 1048576) (A tA : Option Addr) (cap tc : Nat) (L : List Pce) (S : Sch) (w : World) (h : ERd w s A L) (hl : L.length ≤ 1048576) (ht : TypRd w w.heap.size tA S) (hv : ErrV w) :
    Calls Tryd.prog 51 #[.agg #[.slice tA S.n tc], .slice A L.length cap] w fun e w' => HdEnd S s L e ∧ Below w.heap.size w w' := by
  have hb1 : Below w.heap.size w (((w.alloc (.cells #[.slice tA S.n tc] 25)).alloc (.cells #[.int .i64 0, .int .u64 0, .int .i64 0, .int .i64 0, .int .i64 0, .int .i64 0, .int .i64 0, .int .i64 0, .int .i64 0, .int .i64 0, .int .i64 0] 29)).alloc (.cells #[.int .i64 0, .int .u64 0, .int .i64 0, .int .i64 0, .int .i64 0, .int .i64 0, .int .i64 0, .int .i64 0, .int .i64 0, .int .i64 0, .int .i64 0] 29)) := bnew (bnew (bnew (Below.refl _ _) _) _) _
  have S1 : Hid ((((w.alloc (.cells #[.slice tA S.n tc] 25)).alloc (.cells #[.int .i64 0, .int .u64 0, .int .i64 0, .int .i64 0, .int .i64 0, .int .i64 0, .int .i64 0, .int .i64 0, .int .i64 0, .int .i64 0, .int .i64 0] 29)).alloc (.cells #[.int .i64 0, .int .u64 0, .int .i64 0, .int .i64 0, .int .i64 0, .int .i64 0, .int .i64 0, .int .i64 0, .int .i64 0, .int .i64 0, .int .i64 0] 29)).heap[w.heap.size]? = some (.cells #[.slice tA S.n tc] 25 (0, 0))) := Lib.hid (blk_alloc (blk_alloc (blk_new w _ _) _) _)
  have R1 : Hid ((((w.alloc (.cells #[.slice tA S.n tc] 25)).alloc (.cells #[.int .i64 0, .int .u64 0, .int .i64 0, .int .i64 0, .int .i64 0, .int .i64 0, .int .i64 0, .int .i64 0, .int .i64 0, .int .i64 0, .int .i64 0] 29)).alloc (.cells #[.int .i64 0, .int .u64 0, .int .i64 0, .int .i64 0, .int .i64 0, .int .i64 0, .int .i64 0, .int .i64 0, .int .i64 0, .int .i64 0, .int .i64 0] 29)).heap[w.heap.size + 1]? = some (.cells #[.int .i64 0, .int .u64 0, .int .i64 0, .int .i64 0, .int .i64 0, .int .i64 0, .int .i64 0, .int .i64 0, .int .i64 0, .int .i64 0, .int .i64 0] 29 (0, 0))) := by
    have h := blk_new (w.alloc (.cells #[.slice tA S.n tc] 25)) #[.int .i64 0, .int .u64 0, .int .i64 0, .int .i64 0, .int .i64 0, .int .i64 0, .int .i64 0, .int .i64 0, .int .i64 0, .int .i64 0, .int .i64 0] 29
    rw [World.size_alloc] at h
    exact Lib.hid (blk_alloc h _)
  have E1 : Hid ((((w.alloc (.cells #[.slice tA S.n tc] 25)).alloc (.cells #[.int .i64 0, .int .u64 0, .int .i64 0, .int .i64 0, .int .i64 0, .int .i64 0, .int .i64 0, .int .i64 0, .int .i64 0, .int .i64 0, .int .i64 0] 29)).alloc (.cells #[.int .i64 0, .int .u64 0, .int .i64 0, .int .i64 0, .int .i64 0, .int .i64 0, .int .i64 0, .int .i64 0, .int .i64 0, .int .i64 0, .int .i64 0] 29)).heap[w.heap.size + 1 + 1]? = some (.cells #[.int .i64 0, .int .u64 0, .int .i64 0, .int .i64 0, .int .i64 0, .int .i64 0, .int .i64 0, .int .i64 0, .int .i64 0, .int .i64 0, .int .i64 0] 29 (0, 0))) := by
    have h := blk_new ((w.alloc (.cells #[.slice tA S.n tc] 25)).alloc (.cells #[.int .i64 0, .int .u64 0, .int .i64 0, .int .i64 0, .int .i64 0, .int .i64 0, .int .i64 0, .int .i64 0, .int .i64 0, .int .i64 0, .int .i64 0] 29)) #[.int .i64 0, .int .u64 0, .int .i64 0, .int .i64 0, .int .i64 0, .int .i64 0, .int .i64 0, .int .i64 0, .int .i64 0, .int .i64 0, .int .i64 0] 29
    rw [World.size_alloc, World.size_alloc] at h
    exact Lib.hid h
  have hz1 : w.heap.size + 3 ≤ (((w.alloc (.cells #[.slice tA S.n tc] 25)).alloc (.cells #[.int .i64 0, .int .u64 0, .int .i64 0, .int .i64 0, .int .i64 0, .int .i64 0, .int .i64 0, .int .i64 0, .int .i64 0, .int .i64 0, .int .i64 0] 29)).alloc (.cells #[.int .i64 0, .int .u64 0, .int .i64 0, .int .i64 0, .int .i64 0, .int .i64 0, .int .i64 0, .int .i64 0, .int .i64 0, .int .i64 0, .int .i64 0] 29)).heap.size := by
    rw [World.size_alloc, World.size_alloc, World.size_alloc]
    omega
  have HP1 := Lib.hid (h.later hb1)
  have HV1 := Lib.hid (hv.later hb1)
  have HP := Lib.hid h
  have HT := Lib.hid ht
  have HV := Lib.hid hv
  have hn := ht.1
  clear h ht hv
  go_enter Tryd.func51, Tryd.ntmps51
  by_cases hl0 : L.length < 1
  · have HE := Lib.hid (headR_ts (S := S) (s := s) (L := L) (by rw [wtx_out (by omega)]; exact numT_empty))
    have hl1 : (L.length : Int) < 1 := by omega
    go_upto_region 4 with fail
    generalize ((w.alloc _).alloc _).alloc _ = w1 at *
    have hbE : Below w.heap.size w (w1.setRow (w.heap.size + 1) #[.int .i64 0, .int .u64 0, .int .i64 0, .int .i64 0, .int .i64 0, .int .i64 0, .int .i64 0, .int .i64 0, .int .i64 0, .int .i64 0, .int .i64 0]) := below_setRow hb1 (Nat.le_succ _)
    have x0 := row_set R1.out #[.int .i64 0, .int .u64 0, .int .i64 0, .int .i64 0, .int .i64 0, .int .i64 0, .int .i64 0, .int .i64 0, .int .i64 0, .int .i64 0, .int .i64 0]
    have y0 := blk_cell (j := 0) (v := .int .i64 0) x0 rfl
    have y1 := blk_cell (j := 1) (v := .int .u64 0) x0 rfl
    have y2 := blk_cell (j := 2) (v := .int .i64 0) x0 rfl
    have y3 := blk_cell (j := 3) (v := .int .i64 0) x0 rfl
    have y4 := blk_cell (j := 4) (v := .int .i64 0) x0 rfl
    have y5 := blk_cell (j := 5) (v := .int .i64 0) x0 rfl
    have y6 := blk_cell (j := 6) (v := .int .i64 0) x0 rfl
    have y7 := blk_cell (j := 7) (v := .int .i64 0) x0 rfl
    have y8 := blk_cell (j := 8) (v := .int .i64 0) x0 rfl
    have y9 := blk_cell (j := 9) (v := .int .i64 0) x0 rfl
    have y10 := blk_cell (j := 10) (v := .int .i64 0) x0 rfl
    go_wp2_with (first | (refine wpList_load_row rfl 29 _ rfl (w.heap.size + 1 + 1) rfl 29 #[.int .i64 0, .int .u64 0, .int .i64 0, .int .i64 0, .int .i64 0, .int .i64 0, .int .i64 0, .int .i64 0, .int .i64 0, .int .i64 0, .int .i64 0] (0, 0) _ E1.out Tryd.underlying29 rfl (by kernel_rfl) ?_) | (refine wpList_store_row rfl 29 _ _ rfl (w.heap.size + 1) #[.int .i64 0, .int .u64 0, .int .i64 0, .int .i64 0, .int .i64 0, .int .i64 0, .int .i64 0, .int .i64 0, .int .i64 0, .int .i64 0, .int .i64 0] rfl rfl 29 #[.int .i64 0, .int .u64 0, .int .i64 0, .int .i64 0, .int .i64 0, .int .i64 0, .int .i64 0, .int .i64 0, .int .i64 0, .int .i64 0, .int .i64 0] R1.out (by kernel_rfl) rfl (by simp [Value.oneCell']) ?_))
    refine bodyPost_ret (v := .tuple #[.agg #[.int .i64 0, .int .u64 0, .int .i64 0, .int .i64 0, .int .i64 0, .int .i64 0, .int .i64 0, .int .i64 0, .int .i64 0, .int .i64 0, .int .i64 0], .int .i64 26, .int .i64 0]) ?_ rfl ?_
    · simp [results, Tryd.results51, go_sem, y0, y1, y2, y3, y4, y5, y6, y7, y8, y9, y10]
    · exact ⟨hd_bad (k := 0) HE.out (by decide), hbE⟩
  have hi0 : 0 < L.length := by omega
  obtain ⟨b, off, eA, hbb, c0, c1⟩ := ERd.at_ HP1.out hi0
  subst eA
  rw [Nat.zero_mul, Nat.add_zero] at c0
  have hl0' : (1 : Int) ≤ (L.length : Int) := by omega
  clear c1
  go_upto_region 5 with fail
  generalize ((w.alloc _).alloc _).alloc _ = w1 at *
  have e0 := blk_cell (j := 0) (v := .int .i64 0) E1.out rfl
  have f0 := blk_free E1.out 0
  go_wp2_with fail
  refine (number_any _ (wd_size hs 0) _ HV1.out).mono ?_
  rintro e w3 ⟨v0, rfl, hv, hb13⟩
  have hb3' := bcall hb1 hb13
  have e3 := blk_cell (j := 0) (v := .int .i64 0) (blk_below E1.out hb13) rfl
  have f3 := blk_free (blk_below E1.out hb13) 0
  have S3 := Lib.hid (blk_other (p := ⟨w.heap.size + 1 + 1, 0, none⟩) (blk_below S1.out hb13) (show w.heap.size + 1 + 1 ≠ w.heap.size by omega) (.int .i64 v0))
  have R3 := Lib.hid (blk_other (p := ⟨w.heap.size + 1 + 1, 0, none⟩) (blk_below R1.out hb13) (show w.heap.size + 1 + 1 ≠ w.heap.size + 1 by omega) (.int .i64 v0))
  have E3 : Hid ((w3.setCell ⟨w.heap.size + 1 + 1, 0, none⟩ (.int .i64 v0)).heap[w.heap.size + 1 + 1]? = some (.cells #[.int .i64 v0, .int .u64 0, .int .i64 0, .int .i64 0, .int .i64 0, .int .i64 0, .int .i64 0, .int .i64 0, .int .i64 0, .int .i64 0, .int .i64 0] 29 (0, 0))) := Lib.hid (blk_set (blk_below E1.out hb13) 0 (.int .i64 v0))
  have hb3 : Below w.heap.size w (w3.setCell ⟨w.heap.size + 1 + 1, 0, none⟩ (.int .i64 v0)) := hb3'.setCell (show w.heap.size ≤ w.heap.size + 1 + 1 by omega) _
  have HP3 : Hid (ERd (w3.setCell ⟨w.heap.size + 1 + 1, 0, none⟩ (.int .i64 v0)) s (some ⟨b, off, none⟩) L) := Lib.hid (RowRd.later HP.out hb3)
  have HT3 := Lib.hid (HT.out.later hb3)
  have HV3 := Lib.hid (HV.out.later hb3)
  have hw0 : wtx s L 0 = wdAt s L 0 := wtx_in hi0
  clear e0 f0
  cases hn0 : numT (wdAt s L 0) with
  | none =>
    have HE := Lib.hid (headR_ts (S := S) (s := s) (L := L) (by rw [hw0]; exact hn0))
    rw [isSome_none rfl]
    clear hv hn0
    have hbE : Below w.heap.size w ((w3.setCell ⟨w.heap.size + 1 + 1, 0, none⟩ (.int .i64 v0)).setRow (w.heap.size + 1) #[.int .i64 v0, .int .u64 0, .int .i64 0, .int .i64 0, .int .i64 0, .int .i64 0, .int .i64 0, .int .i64 0, .int .i64 0, .int .i64 0, .int .i64 0]) := below_setRow hb3 (Nat.le_succ _)
    have x0 := row_set R3.out #[.int .i64 v0, .int .u64 0, .int .i64 0, .int .i64 0, .int .i64 0, .int .i64 0, .int .i64 0, .int .i64 0, .int .i64 0, .int .i64 0, .int .i64 0]
    have y0 := blk_cell (j := 0) (v := .int .i64 v0) x0 rfl
    have y1 := blk_cell (j := 1) (v := .int .u64 0) x0 rfl
    have y2 := blk_cell (j := 2) (v := .int .i64 0) x0 rfl
    have y3 := blk_cell (j := 3) (v := .int .i64 0) x0 rfl
    have y4 := blk_cell (j := 4) (v := .int .i64 0) x0 rfl
    have y5 := blk_cell (j := 5) (v := .int .i64 0) x0 rfl
    have y6 := blk_cell (j := 6) (v := .int .i64 0) x0 rfl
    have y7 := blk_cell (j := 7) (v := .int .i64 0) x0 rfl
    have y8 := blk_cell (j := 8) (v := .int .i64 0) x0 rfl
    have y9 := blk_cell (j := 9) (v := .int .i64 0) x0 rfl
    have y10 := blk_cell (j := 10) (v := .int .i64 0) x0 rfl
    go_wp2_with (first | (refine wpList_load_row rfl 29 _ rfl (w.heap.size + 1 + 1) rfl 29 #[.int .i64 v0, .int .u64 0, .int .i64 0, .int .i64 0, .int .i64 0, .int .i64 0, .int .i64 0, .int .i64 0, .int .i64 0, .int .i64 0, .int .i64 0] (0, 0) _ E3.out Tryd.underlying29 rfl (by kernel_rfl) ?_) | (refine wpList_store_row rfl 29 _ _ rfl (w.heap.size + 1) #[.int .i64 v0, .int .u64 0, .int .i64 0, .int .i64 0, .int .i64 0, .int .i64 0, .int .i64 0, .int .i64 0, .int .i64 0, .int .i64 0, .int .i64 0] rfl rfl 29 #[.int .i64 0, .int .u64 0, .int .i64 0, .int .i64 0, .int .i64 0, .int .i64 0, .int .i64 0, .int .i64 0, .int .i64 0, .int .i64 0, .int .i64 0] R3.out (by kernel_rfl) rfl (by simp [Value.oneCell']) ?_))
    refine bodyPost_ret (v := .tuple #[.agg #[.int .i64 v0, .int .u64 0, .int .i64 0, .int .i64 0, .int .i64 0, .int .i64 0, .int .i64 0, .int .i64 0, .int .i64 0, .int .i64 0, .int .i64 0], .int .i64 26, .int .i64 0]) ?_ rfl ?_
    · simp [results, Tryd.results51, go_sem, y0, y1, y2, y3, y4, y5, y6, y7, y8, y9, y10]
    · exact ⟨hd_bad (k := 0) HE.out (by decide), hbE⟩
  | some ts =>
    obtain rfl := hv ts hn0
    have hn0' : numT (wtx s L 0) = some v0 := by rw [hw0]; exact hn0
    have hr := numL_range (show numL (wdAt s L 0).data.toList = some v0 from hn0)
    rw [isSome_some rfl]
    have k30 := blk_cell (j := 0) (v := .int .i64 v0) E3.out rfl
    by_cases hrg : v0 < -1152921504606846976 ∨ 1152921504606846976 < v0
    · have HE := Lib.hid (headR_range (S := S) hn0' hrg)
      clear hv hn0 hn0'
      rcases hrg with hrg | hrg
      all_goals
        have hbE : Below w.heap.size w ((w3.setCell ⟨w.heap.size + 1 + 1, 0, none⟩ (.int .i64 v0)).setRow (w.heap.size + 1) #[.int .i64 v0, .int .u64 0, .int .i64 0, .int .i64 0, .int .i64 0, .int .i64 0, .int .i64 0, .int .i64 0, .int .i64 0, .int .i64 0, .int .i64 0]) := below_setRow hb3 (Nat.le_succ _)
        have x0 := row_set R3.out #[.int .i64 v0, .int .u64 0, .int .i64 0, .int .i64 0, .int .i64 0, .int .i64 0, .int .i64 0, .int .i64 0, .int .i64 0, .int .i64 0, .int .i64 0]
        have y0 := blk_cell (j := 0) (v := .int .i64 v0) x0 rfl
        have y1 := blk_cell (j := 1) (v := .int .u64 0) x0 rfl
        have y2 := blk_cell (j := 2) (v := .int .i64 0) x0 rfl
        have y3 := blk_cell (j := 3) (v := .int .i64 0) x0 rfl
        have y4 := blk_cell (j := 4) (v := .int .i64 0) x0 rfl
        have y5 := blk_cell (j := 5) (v := .int .i64 0) x0 rfl
        have y6 := blk_cell (j := 6) (v := .int .i64 0) x0 rfl
        have y7 := blk_cell (j := 7) (v := .int .i64 0) x0 rfl
        have y8 := blk_cell (j := 8) (v := .int .i64 0) x0 rfl
        have y9 := blk_cell (j := 9) (v := .int .i64 0) x0 rfl
        have y10 := blk_cell (j := 10) (v := .int .i64 0) x0 rfl
        go_wp2_with (first | (refine wpList_load_row rfl 29 _ rfl (w.heap.size + 1 + 1) rfl 29 #[.int .i64 v0, .int .u64 0, .int .i64 0, .int .i64 0, .int .i64 0, .int .i64 0, .int .i64 0, .int .i64 0, .int .i64 0, .int .i64 0, .int .i64 0] (0, 0) _ E3.out Tryd.underlying29 rfl (by kernel_rfl) ?_) | (refine wpList_store_row rfl 29 _ _ rfl (w.heap.size + 1) #[.int .i64 v0, .int .u64 0, .int .i64 0, .int .i64 0, .int .i64 0, .int .i64 0, .int .i64 0, .int .i64 0, .int .i64 0, .int .i64 0, .int .i64 0] rfl rfl 29 #[.int .i64 0, .int .u64 0, .int .i64 0, .int .i64 0, .int .i64 0, .int .i64 0, .int .i64 0, .int .i64 0, .int .i64 0, .int .i64 0, .int .i64 0] R3.out (by kernel_rfl) rfl (by simp [Value.oneCell']) ?_))
        refine bodyPost_ret (v := .tuple #[.agg #[.int .i64 v0, .int .u64 0, .int .i64 0, .int .i64 0, .int .i64 0, .int .i64 0, .int .i64 0, .int .i64 0, .int .i64 0, .int .i64 0, .int .i64 0], .int .i64 29, .int .i64 0]) ?_ rfl ?_
        · simp [results, Tryd.results51, go_sem, y0, y1, y2, y3, y4, y5, y6, y7, y8, y9, y10]
        · exact ⟨hd_bad (k := 0) HE.out (by decide), hbE⟩
    have HNO := Lib.hid hn0'
    have hrg1 : ¬ v0 < -1152921504606846976 := fun h => hrg (Or.inl h)
    have hrg2 : ¬ 1152921504606846976 < v0 := fun h => hrg (Or.inr h)
    clear hv hn0 hn0' hw0
    by_cases hl1 : L.length < 2
    · have HE := Lib.hid (headR_id (S := S) HNO.out hrg (by rw [wtx_out (by omega)]; exact idT_empty))
      have hl1' : (L.length : Int) < 2 := by omega
      have hbE : Below w.heap.size w ((w3.setCell ⟨w.heap.size + 1 + 1, 0, none⟩ (.int .i64 v0)).setRow (w.heap.size + 1) #[.int .i64 v0, .int .u64 0, .int .i64 0, .int .i64 0, .int .i64 0, .int .i64 0, .int .i64 0, .int .i64 0, .int .i64 0, .int .i64 0, .int .i64 0]) := below_setRow hb3 (Nat.le_succ _)
      have x0 := row_set R3.out #[.int .i64 v0, .int .u64 0, .int .i64 0, .int .i64 0, .int .i64 0, .int .i64 0, .int .i64 0, .int .i64 0, .int .i64 0, .int .i64 0, .int .i64 0]
      have y0 := blk_cell (j := 0) (v := .int .i64 v0) x0 rfl
      have y1 := blk_cell (j := 1) (v := .int .u64 0) x0 rfl
      have y2 := blk_cell (j := 2) (v := .int .i64 0) x0 rfl
      have y3 := blk_cell (j := 3) (v := .int .i64 0) x0 rfl
      have y4 := blk_cell (j := 4) (v := .int .i64 0) x0 rfl
      have y5 := blk_cell (j := 5) (v := .int .i64 0) x0 rfl
      have y6 := blk_cell (j := 6) (v := .int .i64 0) x0 rfl
      have y7 := blk_cell (j := 7) (v := .int .i64 0) x0 rfl
      have y8 := blk_cell (j := 8) (v := .int .i64 0) x0 rfl
      have y9 := blk_cell (j := 9) (v := .int .i64 0) x0 rfl
      have y10 := blk_cell (j := 10) (v := .int .i64 0) x0 rfl
      go_wp2_with (first | (refine wpList_load_row rfl 29 _ rfl (w.heap.size + 1 + 1) rfl 29 #[.int .i64 v0, .int .u64 0, .int .i64 0, .int .i64 0, .int .i64 0, .int .i64 0, .int .i64 0, .int .i64 0, .int .i64 0, .int .i64 0, .int .i64 0] (0, 0) _ E3.out Tryd.underlying29 rfl (by kernel_rfl) ?_) | (refine wpList_store_row rfl 29 _ _ rfl (w.heap.size + 1) #[.int .i64 v0, .int .u64 0, .int .i64 0, .int .i64 0, .int .i64 0, .int .i64 0, .int .i64 0, .int .i64 0, .int .i64 0, .int .i64 0, .int .i64 0] rfl rfl 29 #[.int .i64 0, .int .u64 0, .int .i64 0, .int .i64 0, .int .i64 0, .int .i64 0, .int .i64 0, .int .i64 0, .int .i64 0, .int .i64 0, .int .i64 0] R3.out (by kernel_rfl) rfl (by simp [Value.oneCell']) ?_))
      refine bodyPost_ret (v := .tuple #[.agg #[.int .i64 v0, .int .u64 0, .int .i64 0, .int .i64 0, .int .i64 0, .int .i64 0, .int .i64 0, .int .i64 0, .int .i64 0, .int .i64 0, .int .i64 0], .int .i64 26, .int .i64 1]) ?_ rfl ?_
      · simp [results, Tryd.results51, go_sem, y0, y1, y2, y3, y4, y5, y6, y7, y8, y9, y10]
      · exact ⟨hd_bad (k := 1) HE.out (by decide), hbE⟩
    have hi1 : 1 < L.length := by omega
    have hl1' : (2 : Int) ≤ (L.length : Int) := by omega
    obtain ⟨b', off', eA, _, c1, _⟩ := ERd.at_ HP3.out hi1
    cases eA
    rw [Nat.one_mul] at c1
    have k31 := blk_cell (j := 1) (v := .int .u64 0) E3.out rfl
    have f31 := blk_free E3.out 1
    go_wp2_with fail
    clear e3 f3 c0
    generalize (w3.setCell ⟨w.heap.size + 1 + 1, 0, none⟩ (.int .i64 v0)) = w4 at *
    refine (id_any _ (wd_size hs 1) _ HV3.out).mono ?_
    rintro e w5 ⟨i0, rfl, hv, hb45⟩
    have hb5' := bcall hb3 hb45
    have e5 := blk_cell (j := 1) (v := .int .u64 0) (blk_below E3.out hb45) rfl
    have f5 := blk_free (blk_below E3.out hb45) 1
    have S5 := Lib.hid (blk_other (p := ⟨w.heap.size + 1 + 1, 1, none⟩) (blk_below S3.out hb45) (show w.heap.size + 1 + 1 ≠ w.heap.size by omega) (.int .u64 (i0 : Nat)))
    have R5 := Lib.hid (blk_other (p := ⟨w.heap.size + 1 + 1, 1, none⟩) (blk_below R3.out hb45) (show w.heap.size + 1 + 1 ≠ w.heap.size + 1 by omega) (.int .u64 (i0 : Nat)))
    have E5 : Hid ((w5.setCell ⟨w.heap.size + 1 + 1, 1, none⟩ (.int .u64 (i0 : Nat))).heap[w.heap.size + 1 + 1]? = some (.cells #[.int .i64 v0, .int .u64 (i0 : Nat), .int .i64 0, .int .i64 0, .int .i64 0, .int .i64 0, .int .i64 0, .int .i64 0, .int .i64 0, .int .i64 0, .int .i64 0] 29 (0, 0))) := Lib.hid (blk_set (blk_below E3.out hb45) 1 (.int .u64 (i0 : Nat)))
    have hb5 : Below w.heap.size w (w5.setCell ⟨w.heap.size + 1 + 1, 1, none⟩ (.int .u64 (i0 : Nat))) := hb5'.setCell (show w.heap.size ≤ w.heap.size + 1 + 1 by omega) _
    have HP5 : Hid (ERd (w5.setCell ⟨w.heap.size + 1 + 1, 1, none⟩ (.int .u64 (i0 : Nat))) s (some ⟨b, off, none⟩) L) := Lib.hid (RowRd.later HP.out hb5)
    have HT5 := Lib.hid (HT.out.later hb5)
    have HV5 := Lib.hid (HV.out.later hb5)
    have hw1 : wtx s L 1 = wdAt s L 1 := wtx_in hi1
    clear k30 k31 f31 c1
    cases hi0 : idT (wdAt s L 1) with
    | none =>
      have HE := Lib.hid (headR_id (S := S) HNO.out hrg (by rw [hw1]; exact hi0))
      rw [isSome_none rfl]
      clear hv hi0
      have hbE : Below w.heap.size w ((w5.setCell ⟨w.heap.size + 1 + 1, 1, none⟩ (.int .u64 (i0 : Nat))).setRow (w.heap.size + 1) #[.int .i64 v0, .int .u64 (i0 : Nat), .int .i64 0, .int .i64 0, .int .i64 0, .int .i64 0, .int .i64 0, .int .i64 0, .int .i64 0, .int .i64 0, .int .i64 0]) := below_setRow hb5 (Nat.le_succ _)
      have x0 := row_set R5.out #[.int .i64 v0, .int .u64 (i0 : Nat), .int .i64 0, .int .i64 0, .int .i64 0, .int .i64 0, .int .i64 0, .int .i64 0, .int .i64 0, .int .i64 0, .int .i64 0]
      have y0 := blk_cell (j := 0) (v := .int .i64 v0) x0 rfl
      have y1 := blk_cell (j := 1) (v := .int .u64 (i0 : Nat)) x0 rfl
      have y2 := blk_cell (j := 2) (v := .int .i64 0) x0 rfl
      have y3 := blk_cell (j := 3) (v := .int .i64 0) x0 rfl
      have y4 := blk_cell (j := 4) (v := .int .i64 0) x0 rfl
      have y5 := blk_cell (j := 5) (v := .int .i64 0) x0 rfl
      have y6 := blk_cell (j := 6) (v := .int .i64 0) x0 rfl
      have y7 := blk_cell (j := 7) (v := .int .i64 0) x0 rfl
      have y8 := blk_cell (j := 8) (v := .int .i64 0) x0 rfl
      have y9 := blk_cell (j := 9) (v := .int .i64 0) x0 rfl
      have y10 := blk_cell (j := 10) (v := .int .i64 0) x0 rfl
      go_wp2_with (first | (refine wpList_load_row rfl 29 _ rfl (w.heap.size + 1 + 1) rfl 29 #[.int .i64 v0, .int .u64 (i0 : Nat), .int .i64 0, .int .i64 0, .int .i64 0, .int .i64 0, .int .i64 0, .int .i64 0, .int .i64 0, .int .i64 0, .int .i64 0] (0, 0) _ E5.out Tryd.underlying29 rfl (by kernel_rfl) ?_) | (refine wpList_store_row rfl 29 _ _ rfl (w.heap.size + 1) #[.int .i64 v0, .int .u64 (i0 : Nat), .int .i64 0, .int .i64 0, .int .i64 0, .int .i64 0, .int .i64 0, .int .i64 0, .int .i64 0, .int .i64 0, .int .i64 0] rfl rfl 29 #[.int .i64 0, .int .u64 0, .int .i64 0, .int .i64 0, .int .i64 0, .int .i64 0, .int .i64 0, .int .i64 0, .int .i64 0, .int .i64 0, .int .i64 0] R5.out (by kernel_rfl) rfl (by simp [Value.oneCell']) ?_))
      refine bodyPost_ret (v := .tuple #[.agg #[.int .i64 v0, .int .u64 (i0 : Nat), .int .i64 0, .int .i64 0, .int .i64 0, .int .i64 0, .int .i64 0, .int .i64 0, .int .i64 0, .int .i64 0, .int .i64 0], .int .i64 26, .int .i64 1]) ?_ rfl ?_
      · simp [results, Tryd.results51, go_sem, y0, y1, y2, y3, y4, y5, y6, y7, y8, y9, y10]
      · exact ⟨hd_bad (k := 1) HE.out (by decide), hbE⟩
    | some u =>
      obtain rfl := hv u hi0
      have hi0' : idT (wtx s L 1) = some i0 := by rw [hw1]; exact hi0
      rw [isSome_some rfl]
      by_cases h3 : L.length < 3
      · have HE := Lib.hid (headR_three (S := S) HNO.out hrg hi0' h3)
        have h3' : (L.length : Int) < 3 := by omega
        clear hv hi0 hi0'
        have hbE : Below w.heap.size w ((w5.setCell ⟨w.heap.size + 1 + 1, 1, none⟩ (.int .u64 (i0 : Nat))).setRow (w.heap.size + 1) #[.int .i64 v0, .int .u64 (i0 : Nat), .int .i64 0, .int .i64 0, .int .i64 0, .int .i64 0, .int .i64 0, .int .i64 0, .int .i64 0, .int .i64 0, .int .i64 0]) := below_setRow hb5 (Nat.le_succ _)
        have x0 := row_set R5.out #[.int .i64 v0, .int .u64 (i0 : Nat), .int .i64 0, .int .i64 0, .int .i64 0, .int .i64 0, .int .i64 0, .int .i64 0, .int .i64 0, .int .i64 0, .int .i64 0]
        have y0 := blk_cell (j := 0) (v := .int .i64 v0) x0 rfl
        have y1 := blk_cell (j := 1) (v := .int .u64 (i0 : Nat)) x0 rfl
        have y2 := blk_cell (j := 2) (v := .int .i64 0) x0 rfl
        have y3 := blk_cell (j := 3) (v := .int .i64 0) x0 rfl
        have y4 := blk_cell (j := 4) (v := .int .i64 0) x0 rfl
        have y5 := blk_cell (j := 5) (v := .int .i64 0) x0 rfl
        have y6 := blk_cell (j := 6) (v := .int .i64 0) x0 rfl
        have y7 := blk_cell (j := 7) (v := .int .i64 0) x0 rfl
        have y8 := blk_cell (j := 8) (v := .int .i64 0) x0 rfl
        have y9 := blk_cell (j := 9) (v := .int .i64 0) x0 rfl
        have y10 := blk_cell (j := 10) (v := .int .i64 0) x0 rfl
        go_wp2_with (first | (refine wpList_load_row rfl 29 _ rfl (w.heap.size + 1 + 1) rfl 29 #[.int .i64 v0, .int .u64 (i0 : Nat), .int .i64 0, .int .i64 0, .int .i64 0, .int .i64 0, .int .i64 0, .int .i64 0, .int .i64 0, .int .i64 0, .int .i64 0] (0, 0) _ E5.out Tryd.underlying29 rfl (by kernel_rfl) ?_) | (refine wpList_store_row rfl 29 _ _ rfl (w.heap.size + 1) #[.int .i64 v0, .int .u64 (i0 : Nat), .int .i64 0, .int .i64 0, .int .i64 0, .int .i64 0, .int .i64 0, .int .i64 0, .int .i64 0, .int .i64 0, .int .i64 0] rfl rfl 29 #[.int .i64 0, .int .u64 0, .int .i64 0, .int .i64 0, .int .i64 0, .int .i64 0, .int .i64 0, .int .i64 0, .int .i64 0, .int .i64 0, .int .i64 0] R5.out (by kernel_rfl) rfl (by simp [Value.oneCell']) ?_))
        refine bodyPost_ret (v := .tuple #[.agg #[.int .i64 v0, .int .u64 (i0 : Nat), .int .i64 0, .int .i64 0, .int .i64 0, .int .i64 0, .int .i64 0, .int .i64 0, .int .i64 0, .int .i64 0, .int .i64 0], .int .i64 26, .int .i64 2]) ?_ rfl ?_
        · simp [results, Tryd.results51, go_sem, y0, y1, y2, y3, y4, y5, y6, y7, y8, y9, y10]
        · exact ⟨hd_bad (k := 2) HE.out (by decide), hbE⟩
      have HIO := Lib.hid hi0'
      have h3' : (3 : Int) ≤ (L.length : Int) := by omega
      have hi2 : 2 < L.length := by omega
      have hw2 : wtx s L 2 = wdAt s L 2 := wtx_in hi2
      obtain ⟨b', off', eA, _, c2, _⟩ := ERd.at_ HP5.out hi2
      cases eA
      rw [show off + 2 * 2 = off + 4 from rfl] at c2
      have s5 := blk_cell (j := 0) (v := .slice tA S.n tc) S5.out rfl
      clear hv hi0 hi0'
      go_upto_region 17 with fail
      clear e5 f5
      generalize (w5.setCell ⟨w.heap.size + 1 + 1, 1, none⟩ (.int .u64 (i0 : Nat))) = w6 at *
      have HD6 : Hid (TypRd w6.drew w6.drew.heap.size tA S) := Lib.hid (HT5.out.later (Below.refl _ _).drew)
      go_region_with (go_at_call 31; refine (typeOf_any tA tc S (wdAt s L 2) _ HD6.out).mono ?_; rintro e wz ⟨rfl, hbz⟩; have hb6z : Below w6.heap.size w6 wz := bcall (Below.refl _ _).drew hbz; have k72 := blk_cell (j := 2) (v := .int .i64 0) (blk_below E5.out hb6z) rfl; have f72 := blk_free (blk_below E5.out hb6z) 2)
      all_goals
        have S7 := Lib.hid (blk_other (p := ⟨w.heap.size + 1 + 1, 2, none⟩) (blk_below S5.out hb6z) (show w.heap.size + 1 + 1 ≠ w.heap.size by omega) (.int .i64 (typeI S (wdAt s L 2))))
        have R7 := Lib.hid (blk_other (p := ⟨w.heap.size + 1 + 1, 2, none⟩) (blk_below R5.out hb6z) (show w.heap.size + 1 + 1 ≠ w.heap.size + 1 by omega) (.int .i64 (typeI S (wdAt s L 2))))
        have E7 : Hid ((wz.setCell ⟨w.heap.size + 1 + 1, 2, none⟩ (.int .i64 (typeI S (wdAt s L 2)))).heap[w.heap.size + 1 + 1]? = some (.cells #[.int .i64 v0, .int .u64 (i0 : Nat), .int .i64 (typeI S (wdAt s L 2)), .int .i64 0, .int .i64 0, .int .i64 0, .int .i64 0, .int .i64 0, .int .i64 0, .int .i64 0, .int .i64 0] 29 (0, 0))) := Lib.hid (blk_set (blk_below E5.out hb6z) 2 (.int .i64 (typeI S (wdAt s L 2))))
        have hb7 : Below w.heap.size w (wz.setCell ⟨w.heap.size + 1 + 1, 2, none⟩ (.int .i64 (typeI S (wdAt s L 2)))) := (bcall hb5 hb6z).setCell (show w.heap.size ≤ w.heap.size + 1 + 1 by omega) _
        have k73 := blk_cell (j := 2) (v := .int .i64 (typeI S (wdAt s L 2))) E7.out rfl
        clear k72 f72 hbz
        by_cases h4 : typeI S (wtx s L 2) < 0
        · have HE := Lib.hid (headR_type HNO.out hrg HIO.out h3 h4)
          rw [hw2] at h4
          generalize typeI S (wdAt s L 2) = ty at *
          generalize (wz.setCell ⟨w.heap.size + 1 + 1, 2, none⟩ (.int .i64 ty)) = w7 at *
          have hbE : Below w.heap.size w (w7.setRow (w.heap.size + 1) #[.int .i64 v0, .int .u64 (i0 : Nat), .int .i64 ty, .int .i64 0, .int .i64 0, .int .i64 0, .int .i64 0, .int .i64 0, .int .i64 0, .int .i64 0, .int .i64 0]) := below_setRow hb7 (Nat.le_succ _)
          have x0 := row_set R7.out #[.int .i64 v0, .int .u64 (i0 : Nat), .int .i64 ty, .int .i64 0, .int .i64 0, .int .i64 0, .int .i64 0, .int .i64 0, .int .i64 0, .int .i64 0, .int .i64 0]
          have y0 := blk_cell (j := 0) (v := .int .i64 v0) x0 rfl
          have y1 := blk_cell (j := 1) (v := .int .u64 (i0 : Nat)) x0 rfl
          have y2 := blk_cell (j := 2) (v := .int .i64 ty) x0 rfl
          have y3 := blk_cell (j := 3) (v := .int .i64 0) x0 rfl
          have y4 := blk_cell (j := 4) (v := .int .i64 0) x0 rfl
          have y5 := blk_cell (j := 5) (v := .int .i64 0) x0 rfl
          have y6 := blk_cell (j := 6) (v := .int .i64 0) x0 rfl
          have y7 := blk_cell (j := 7) (v := .int .i64 0) x0 rfl
          have y8 := blk_cell (j := 8) (v := .int .i64 0) x0 rfl
          have y9 := blk_cell (j := 9) (v := .int .i64 0) x0 rfl
          have y10 := blk_cell (j := 10) (v := .int .i64 0) x0 rfl
          go_wp2_with (first | (refine wpList_load_row rfl 29 _ rfl (w.heap.size + 1 + 1) rfl 29 #[.int .i64 v0, .int .u64 (i0 : Nat), .int .i64 ty, .int .i64 0, .int .i64 0, .int .i64 0, .int .i64 0, .int .i64 0, .int .i64 0, .int .i64 0, .int .i64 0] (0, 0) _ E7.out Tryd.underlying29 rfl (by kernel_rfl) ?_) | (refine wpList_store_row rfl 29 _ _ rfl (w.heap.size + 1) #[.int .i64 v0, .int .u64 (i0 : Nat), .int .i64 ty, .int .i64 0, .int .i64 0, .int .i64 0, .int .i64 0, .int .i64 0, .int .i64 0, .int .i64 0, .int .i64 0] rfl rfl 29 #[.int .i64 0, .int .u64 0, .int .i64 0, .int .i64 0, .int .i64 0, .int .i64 0, .int .i64 0, .int .i64 0, .int .i64 0, .int .i64 0, .int .i64 0] R7.out (by kernel_rfl) rfl (by simp [Value.oneCell']) ?_))
          refine bodyPost_ret (v := .tuple #[.agg #[.int .i64 v0, .int .u64 (i0 : Nat), .int .i64 ty, .int .i64 0, .int .i64 0, .int .i64 0, .int .i64 0, .int .i64 0, .int .i64 0, .int .i64 0, .int .i64 0], .int .i64 27, .int .i64 2]) ?_ rfl ?_
          · simp [results, Tryd.results51, go_sem, y0, y1, y2, y3, y4, y5, y6, y7, y8, y9, y10]
          · exact ⟨hd_bad (k := 2) HE.out (by decide), hbE⟩
        · have HE := Lib.hid (headR_ok HNO.out hrg HIO.out h3 h4)
          obtain ⟨ty, hty⟩ : ∃ ty : Nat, typeI S (wtx s L 2) = ty := ⟨(typeI S (wtx s L 2)).toNat, by omega⟩
          have hE : headR S s L = ⟨0, 0, v0, i0, ty⟩ := by rw [HE.out, hty]; rfl
          have HF := Lib.hid hE
          clear hE HE h4
          rw [hw2] at hty
          rw [hty] at S7 R7 E7 hb7 k73 ⊢
          generalize (wz.setCell ⟨w.heap.size + 1 + 1, 2, none⟩ (.int .i64 (ty : Nat))) = w7 at *
          have hbE : Below w.heap.size w (w7.setRow (w.heap.size + 1) #[.int .i64 v0, .int .u64 (i0 : Nat), .int .i64 (ty : Nat), .int .i64 0, .int .i64 0, .int .i64 0, .int .i64 0, .int .i64 0, .int .i64 0, .int .i64 0, .int .i64 0]) := below_setRow hb7 (Nat.le_succ _)
          have x0 := row_set R7.out #[.int .i64 v0, .int .u64 (i0 : Nat), .int .i64 (ty : Nat), .int .i64 0, .int .i64 0, .int .i64 0, .int .i64 0, .int .i64 0, .int .i64 0, .int .i64 0, .int .i64 0]
          have y0 := blk_cell (j := 0) (v := .int .i64 v0) x0 rfl
          have y1 := blk_cell (j := 1) (v := .int .u64 (i0 : Nat)) x0 rfl
          have y2 := blk_cell (j := 2) (v := .int .i64 (ty : Nat)) x0 rfl
          have y3 := blk_cell (j := 3) (v := .int .i64 0) x0 rfl
          have y4 := blk_cell (j := 4) (v := .int .i64 0) x0 rfl
          have y5 := blk_cell (j := 5) (v := .int .i64 0) x0 rfl
          have y6 := blk_cell (j := 6) (v := .int .i64 0) x0 rfl
          have y7 := blk_cell (j := 7) (v := .int .i64 0) x0 rfl
          have y8 := blk_cell (j := 8) (v := .int .i64 0) x0 rfl
          have y9 := blk_cell (j := 9) (v := .int .i64 0) x0 rfl
          have y10 := blk_cell (j := 10) (v := .int .i64 0) x0 rfl
          go_wp2_with (first | (refine wpList_load_row rfl 29 _ rfl (w.heap.size + 1 + 1) rfl 29 #[.int .i64 v0, .int .u64 (i0 : Nat), .int .i64 (ty : Nat), .int .i64 0, .int .i64 0, .int .i64 0, .int .i64 0, .int .i64 0, .int .i64 0, .int .i64 0, .int .i64 0] (0, 0) _ E7.out Tryd.underlying29 rfl (by kernel_rfl) ?_) | (refine wpList_store_row rfl 29 _ _ rfl (w.heap.size + 1) #[.int .i64 v0, .int .u64 (i0 : Nat), .int .i64 (ty : Nat), .int .i64 0, .int .i64 0, .int .i64 0, .int .i64 0, .int .i64 0, .int .i64 0, .int .i64 0, .int .i64 0] rfl rfl 29 #[.int .i64 0, .int .u64 0, .int .i64 0, .int .i64 0, .int .i64 0, .int .i64 0, .int .i64 0, .int .i64 0, .int .i64 0, .int .i64 0, .int .i64 0] R7.out (by kernel_rfl) rfl (by simp [Value.oneCell']) ?_))
          refine bodyPost_ret (v := .tuple #[.agg #[.int .i64 v0, .int .u64 (i0 : Nat), .int .i64 (ty : Nat), .int .i64 0, .int .i64 0, .int .i64 0, .int .i64 0, .int .i64 0, .int .i64 0, .int .i64 0, .int .i64 0], .int .i64 0, .int .i64 0]) ?_ rfl ?_
          · simp [results, Tryd.results51, go_sem, y0, y1, y2, y3, y4, y5, y6, y7, y8, y9, y10]
          · exact ⟨hd_ok HF.out, hbE⟩
end Go.Proofs.YtppeonlpocdhkaaDoor

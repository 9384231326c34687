/-
  The walk of the program's ParseEvent.
-/
import Derived.Test.YtppeonlpocdhkaaDoorParseEventRef
import Derived.Test.YtppeonlpocdhkaaDoorCheckSchema
import Derived.Laws.Tables
import Derived.Deep.RegionHeld3
import Derived.Deep.CutRange
import Derived.BigRegion
set_option linter.unusedSimpArgs false
set_option linter.unusedVariables false
namespace Go.Proofs.YtppeonlpocdhkaaDoor
open Go.RowKit Go.ChangeShapes Go.WideShapes Go.ChangeAt Go.Deep Go.Joins
set_option maxRecDepth 100000 in
set_option maxHeartbeats 4000000 in
theorem parseEvent_any (s : ByteArray) (hs : s.size ≤ 1048576) (tA : Option Addr) (tc : Nat) (S : Sch) (w : World) (ht : TypRd w w.heap.size tA S) (hv : ErrV w) {tt : TypeId} {fr : Nat × Nat} (hkw : w.heap[0]? = some (.cells kwArr tt fr)) :
    Calls Tryd.prog 25 #[.agg #[.slice tA S.n tc], .string s] w fun e w' => EvEnd S s e ∧ Below w.heap.size w w' := by
  have hb1 : Below w.heap.size w (((w.alloc (.cells #[.slice tA S.n tc] 25)).alloc (.cells #[.string s] 9)).alloc (.cells #[.int .i64 0, .int .u64 0, .int .i64 0, .int .i64 0, .int .i64 0, .int .i64 0, .int .i64 0, .int .i64 0, .int .i64 0, .int .i64 0, .int .i64 0] 29)) := bnew (bnew (bnew (Below.refl _ _) _) _) _
  have S1 : Hid ((((w.alloc (.cells #[.slice tA S.n tc] 25)).alloc (.cells #[.string s] 9)).alloc (.cells #[.int .i64 0, .int .u64 0, .int .i64 0, .int .i64 0, .int .i64 0, .int .i64 0, .int .i64 0, .int .i64 0, .int .i64 0, .int .i64 0, .int .i64 0] 29)).heap[w.heap.size]? = some (.cells #[.slice tA S.n tc] 25 (0, 0))) := Lib.hid (blk_alloc (blk_alloc (blk_new w _ _) _) _)
  have L1 : Hid ((((w.alloc (.cells #[.slice tA S.n tc] 25)).alloc (.cells #[.string s] 9)).alloc (.cells #[.int .i64 0, .int .u64 0, .int .i64 0, .int .i64 0, .int .i64 0, .int .i64 0, .int .i64 0, .int .i64 0, .int .i64 0, .int .i64 0, .int .i64 0] 29)).heap[w.heap.size + 1]? = some (.cells #[.string s] 9 (0, 0))) := by
    have h := blk_new (w.alloc (.cells #[.slice tA S.n tc] 25)) #[.string s] 9
    rw [World.size_alloc] at h
    exact Lib.hid (blk_alloc h _)
  have R1 : Hid ((((w.alloc (.cells #[.slice tA S.n tc] 25)).alloc (.cells #[.string s] 9)).alloc (.cells #[.int .i64 0, .int .u64 0, .int .i64 0, .int .i64 0, .int .i64 0, .int .i64 0, .int .i64 0, .int .i64 0, .int .i64 0, .int .i64 0, .int .i64 0] 29)).heap[w.heap.size + 1 + 1]? = some (.cells #[.int .i64 0, .int .u64 0, .int .i64 0, .int .i64 0, .int .i64 0, .int .i64 0, .int .i64 0, .int .i64 0, .int .i64 0, .int .i64 0, .int .i64 0] 29 (0, 0))) := by
    have h := blk_new ((w.alloc (.cells #[.slice tA S.n tc] 25)).alloc (.cells #[.string s] 9)) #[.int .i64 0, .int .u64 0, .int .i64 0, .int .i64 0, .int .i64 0, .int .i64 0, .int .i64 0, .int .i64 0, .int .i64 0, .int .i64 0, .int .i64 0] 29
    rw [World.size_alloc, World.size_alloc] at h
    exact Lib.hid h
  have hz1 : w.heap.size + 3 ≤ (((w.alloc (.cells #[.slice tA S.n tc] 25)).alloc (.cells #[.string s] 9)).alloc (.cells #[.int .i64 0, .int .u64 0, .int .i64 0, .int .i64 0, .int .i64 0, .int .i64 0, .int .i64 0, .int .i64 0, .int .i64 0, .int .i64 0, .int .i64 0] 29)).heap.size := by
    rw [World.size_alloc, World.size_alloc, World.size_alloc]
    omega
  have HT := Lib.hid ht
  have HV := Lib.hid hv
  have HT1 := Lib.hid (ht.later hb1)
  have HK1 := Lib.hid (block_below hkw hb1)
  have hn := ht.1
  clear ht hkw hv
  go_enter Tryd.func25, Tryd.ntmps25
  go_wp2_with fail
  generalize ((w.alloc _).alloc _).alloc _ = w1 at *
  refine (checkSchema_any tA tc S _ HT1.out HK1.out).mono ?_
  rintro e w2 ⟨rfl, hb12⟩
  have hb2 := bcall hb1 hb12
  have S2 := Lib.hid (blk_below S1.out hb12)
  have L2 := Lib.hid (blk_below L1.out hb12)
  have R2 := Lib.hid (blk_below R1.out hb12)
  have hz2 : w.heap.size + 3 ≤ w2.heap.size := Nat.le_trans hz1 hb12.size
  have l2 := blk_cell (j := 0) (v := .string s) L2.out rfl
  by_cases hsch : schErr S = 0
  · rw [hsch]
    obtain ⟨L, hL⟩ : ∃ L, wordsE s 0 = L := ⟨_, rfl⟩
    have hll : L.length ≤ 1048576 := by
      have := words_len s 0
      rw [hL] at this
      omega
    go_wp2_with fail
    refine (pieces_walk s hs _).mono ?_
    rw [hL]
    rintro e w3 ⟨lA, lc, rfl, hb23, hown⟩
    have hb3 : Below w.heap.size w (w3.alloc (.cells #[.slice lA L.length lc] 85)) := bnew (bcall hb2 hb23) _
    have S3 := Lib.hid (blk_alloc (blk_below S2.out hb23) (.cells #[.slice lA L.length lc] 85))
    have L3 := Lib.hid (blk_alloc (blk_below L2.out hb23) (.cells #[.slice lA L.length lc] 85))
    have R3 := Lib.hid (blk_alloc (blk_below R2.out hb23) (.cells #[.slice lA L.length lc] 85))
    have P3 : Hid ((w3.alloc (.cells #[.slice lA L.length lc] 85)).heap[w3.heap.size]? = some (.cells #[.slice lA L.length lc] 85 (0, 0))) := Lib.hid (blk_new w3 _ _)
    have HP3 : Hid (ERd (w3.alloc (.cells #[.slice lA L.length lc] 85)) s lA L) := Lib.hid (RowRd.later (show RowRd w3 w3.heap.size lA L.length 2 24 (eC s L) from rowown_rd hown (by omega)) (bnew (Below.refl _ _) _))
    have hz3 : w.heap.size + 3 ≤ w3.heap.size := Nat.le_trans hz2 hb23.size
    have hz3' : w3.heap.size < (w3.alloc (.cells #[.slice lA L.length lc] 85)).heap.size := by rw [World.size_alloc]; omega
    have s3 := blk_cell (j := 0) (v := .slice tA S.n tc) S3.out rfl
    have p3 := blk_cell (j := 0) (v := .slice lA L.length lc) P3.out rfl
    clear hown l2
    obtain ⟨PB, hPB⟩ : ∃ PB, w3.heap.size = PB := ⟨_, rfl⟩
    go_upto_region 6 with fail
    generalize w3.alloc _ = w3 at *
    try rw [hPB] at p3
    try rw [hPB] at P3
    try rw [hPB] at hz3'
    try rw [hPB] at hz3
    go_wp2_with fail
    refine (head_any s hs lA tA lc tc L S _ HP3.out hll (HT.out.later hb3) (HV.out.later hb3)).mono ?_
    rintro e w4 ⟨hend, hb34⟩
    have hb4 := bcall hb3 hb34
    have S4 := Lib.hid (blk_below S3.out hb34)
    have L4 := Lib.hid (blk_below L3.out hb34)
    have R4 := Lib.hid (blk_below R3.out hb34)
    have P4 := Lib.hid (blk_below P3.out hb34)
    have HP4 := Lib.hid (RowRd.later HP3.out hb34)
    have hz4 : PB < w4.heap.size := Nat.lt_of_lt_of_le hz3' hb34.size
    clear s3 p3
    rcases hend with ⟨hc, ts, id, ty, rfl⟩ | ⟨hc, rfl⟩
    · have HE := Lib.hid (evRes_head hL hsch hc)
      generalize (headR S s L).code = hcode at *
      generalize (headR S s L).bad = hbad at *
      have hcc : (hcode != 0) = true := by rw [bne_iff_ne]; exact hc
      have hb5 : Below w.heap.size w (w4.alloc (.cells #[.int .i64 ts, .int .u64 id, .int .i64 ty, .int .i64 0, .int .i64 0, .int .i64 0, .int .i64 0, .int .i64 0, .int .i64 0, .int .i64 0, .int .i64 0] 29)) := bnew hb4 _
      have R5 := Lib.hid (blk_alloc R4.out (.cells #[.int .i64 ts, .int .u64 id, .int .i64 ty, .int .i64 0, .int .i64 0, .int .i64 0, .int .i64 0, .int .i64 0, .int .i64 0, .int .i64 0, .int .i64 0] 29))
      have p5 := blk_cell (j := 0) (v := .slice lA L.length lc) (blk_alloc P4.out (.cells #[.int .i64 ts, .int .u64 id, .int .i64 ty, .int .i64 0, .int .i64 0, .int .i64 0, .int .i64 0, .int .i64 0, .int .i64 0, .int .i64 0, .int .i64 0] 29)) rfl
      have l5 := blk_cell (j := 0) (v := .string s) (blk_alloc L4.out (.cells #[.int .i64 ts, .int .u64 id, .int .i64 ty, .int .i64 0, .int .i64 0, .int .i64 0, .int .i64 0, .int .i64 0, .int .i64 0, .int .i64 0, .int .i64 0] 29)) rfl
      have HP5 : Hid (ERd (w4.alloc (.cells #[.int .i64 ts, .int .u64 id, .int .i64 ty, .int .i64 0, .int .i64 0, .int .i64 0, .int .i64 0, .int .i64 0, .int .i64 0, .int .i64 0, .int .i64 0] 29)) s lA L) := Lib.hid (RowRd.later HP4.out (bnew (Below.refl _ _) _))
      go_wp2_with fail
      generalize w4.alloc _ = w5 at *
      refine (at_any s hs lA lc L hbad PB (w.heap.size + 1) _ HP5.out hll p5 l5).mono ?_
      rintro e w6 ⟨rfl, rfl⟩
      generalize placeN s L hbad = pn at *
      have hbE : Below w.heap.size w (w6.setRow (w.heap.size + 1 + 1) #[.int .i64 0, .int .u64 0, .int .i64 0, .int .i64 0, .int .i64 0, .int .i64 0, .int .i64 0, .int .i64 0, .int .i64 0, .int .i64 0, .int .i64 0]) := below_setRow hb5 (show w.heap.size ≤ w.heap.size + 1 + 1 by omega)
      have x0 := row_set R5.out #[.int .i64 0, .int .u64 0, .int .i64 0, .int .i64 0, .int .i64 0, .int .i64 0, .int .i64 0, .int .i64 0, .int .i64 0, .int .i64 0, .int .i64 0]
      have y0 := blk_cell (j := 0) (v := .int .i64 0) x0 rfl
      have y1 := blk_cell (j := 1) (v := .int .u64 0) x0 rfl
      have y2 := blk_cell (j := 2) (v := .int .i64 0) x0 rfl
      have y3 := blk_cell (j := 3) (v := .int .i64 0) x0 rfl
      have y4 := blk_cell (j := 4) (v := .int .i64 0) x0 rfl
      have y5 := blk_cell (j := 5) (v := .int .i64 0) x0 rfl
      have y6 := blk_cell (j := 6) (v := .int .i64 0) x0 rfl
      have y7 := blk_cell (j := 7) (v := .int .i64 0) x0 rfl
      have y8 := blk_cell (j := 8) (v := .int .i64 0) x0 rfl
      have y9 := blk_cell (j := 9) (v := .int .i64 0) x0 rfl
      have y10 := blk_cell (j := 10) (v := .int .i64 0) x0 rfl
      go_wp2_with (refine wpList_store_row rfl 29 _ _ rfl (w.heap.size + 1 + 1) #[.int .i64 0, .int .u64 0, .int .i64 0, .int .i64 0, .int .i64 0, .int .i64 0, .int .i64 0, .int .i64 0, .int .i64 0, .int .i64 0, .int .i64 0] rfl rfl 29 #[.int .i64 0, .int .u64 0, .int .i64 0, .int .i64 0, .int .i64 0, .int .i64 0, .int .i64 0, .int .i64 0, .int .i64 0, .int .i64 0, .int .i64 0] R5.out (by kernel_rfl) rfl (by simp [Value.oneCell']) ?_)
      refine bodyPost_ret (v := .tuple #[.agg #[.int .i64 0, .int .u64 0, .int .i64 0, .int .i64 0, .int .i64 0, .int .i64 0, .int .i64 0, .int .i64 0, .int .i64 0, .int .i64 0, .int .i64 0], .int .i64 hcode, .int .i64 pn]) ?_ rfl ?_
      · simp [results, Tryd.results25, go_sem, y0, y1, y2, y3, y4, y5, y6, y7, y8, y9, y10]
      · exact ⟨ee_bad HE.out, hbE⟩
    · obtain ⟨ts, id, ty, hH, hty⟩ := head_parts hc
      rw [hH]
      dsimp only
      have HH := Lib.hid hH
      have hl8 : S.ln ty ≤ 8 := ((sch_zero hsch).2.2 ty hty).2.2.1
      have HS := Lib.hid hsch
      have HL := Lib.hid hL
      obtain ⟨n, hn8⟩ : ∃ n, S.ln ty = n := ⟨_, rfl⟩
      obtain ⟨tb, toff, rfl, htb, hcs⟩ := HT.out.2 (by omega)
      obtain ⟨_, ta, tac, d2, _⟩ := hcs ty hty
      have d4 := (hb4.cell (p := ⟨tb, toff + ty * 2 + 1, none⟩) htb).trans d2
      have d5 := cell_alloc d4 (.cells #[.int .i64 ts, .int .u64 (id : Nat), .int .i64 (ty : Nat), .int .i64 0, .int .i64 0, .int .i64 0, .int .i64 0, .int .i64 0, .int .i64 0, .int .i64 0, .int .i64 0] 29)
      have hb5 : Below w.heap.size w (w4.alloc (.cells #[.int .i64 ts, .int .u64 (id : Nat), .int .i64 (ty : Nat), .int .i64 0, .int .i64 0, .int .i64 0, .int .i64 0, .int .i64 0, .int .i64 0, .int .i64 0, .int .i64 0] 29)) := bnew hb4 _
      have R5 := Lib.hid (blk_alloc R4.out (.cells #[.int .i64 ts, .int .u64 (id : Nat), .int .i64 (ty : Nat), .int .i64 0, .int .i64 0, .int .i64 0, .int .i64 0, .int .i64 0, .int .i64 0, .int .i64 0, .int .i64 0] 29))
      have s5 := blk_cell (j := 0) (v := .slice (some ⟨tb, toff, none⟩) S.n tc) (blk_alloc S4.out (.cells #[.int .i64 ts, .int .u64 (id : Nat), .int .i64 (ty : Nat), .int .i64 0, .int .i64 0, .int .i64 0, .int .i64 0, .int .i64 0, .int .i64 0, .int .i64 0, .int .i64 0] 29)) rfl
      have E5 : Hid ((w4.alloc (.cells #[.int .i64 ts, .int .u64 (id : Nat), .int .i64 (ty : Nat), .int .i64 0, .int .i64 0, .int .i64 0, .int .i64 0, .int .i64 0, .int .i64 0, .int .i64 0, .int .i64 0] 29)).heap[w4.heap.size]? = some (.cells (evCells ts id ty fun _ => 0) 29 (0, 0))) := Lib.hid (blk_new w4 _ _)
      have t5 := blk_cell (j := 2) (v := .int .i64 (ty : Nat)) E5.out rfl
      have hbq5 : Below w4.heap.size w4 (w4.alloc (.cells #[.int .i64 ts, .int .u64 (id : Nat), .int .i64 (ty : Nat), .int .i64 0, .int .i64 0, .int .i64 0, .int .i64 0, .int .i64 0, .int .i64 0, .int .i64 0, .int .i64 0] 29)) := bnew (Below.refl _ _) _
      have HPE : Hid (RowRd w4 w4.heap.size lA L.length 2 24 (eC s L)) := HP4
      have hz5 : w4.heap.size < (w4.alloc (.cells #[.int .i64 ts, .int .u64 (id : Nat), .int .i64 (ty : Nat), .int .i64 0, .int .i64 0, .int .i64 0, .int .i64 0, .int .i64 0, .int .i64 0, .int .i64 0, .int .i64 0] 29)).heap.size := by rw [World.size_alloc]; omega
      rw [hn8] at d5 hl8
      have HN8 := Lib.hid hn8
      obtain ⟨EB, hEB⟩ : ∃ EB, w4.heap.size = EB := ⟨_, rfl⟩
      clear hcs d2 d4 hH hc hsch hL hn8
      go_upto_region 10 with fail
      generalize w4.alloc _ = w5 at *
      rw [hEB] at t5 E5 hz5 hz4 hbq5 HPE
      go_wp2_with fail
      go_loopw [14, 15, 16, 49] (fun _ _ _ i wr => ∃ (k : Nat) (a : Nat → Int), k ≤ n ∧ i = .int .i64 k ∧ Hid (VInv s L k a) ∧ Hid (attrsR s L n 0 = attrsR s L n k) ∧ Below w.heap.size w wr ∧ EB < wr.heap.size ∧ Hid (wr.heap[EB]? = some (.cells (evCells ts id ty a) 29 (0, 0))) ∧ Hid (wr.heap[w.heap.size + 1 + 1]? = some (.cells #[.int .i64 0, .int .u64 0, .int .i64 0, .int .i64 0, .int .i64 0, .int .i64 0, .int .i64 0, .int .i64 0, .int .i64 0, .int .i64 0, .int .i64 0] 29 (0, 0))) ∧ Below EB w4 wr) (fun _ _ _ i _ => n - (intOf i).toNat)
      case atStart => exact ⟨0, fun _ => 0, Nat.zero_le _, rfl, Lib.hid (fun j hj => by rw [if_neg (by omega)]), Lib.hid rfl, hb5, hz5, E5, R5, hbq5⟩
      case round =>
        obtain ⟨k, a, hk, rfl, HVI, HAT, hb, hz, E, R, hbq⟩ := hrel
        have HP : Hid (ERd wr s lA L) := Lib.hid ((RowRd.below HPE.out hbq).more (Nat.le_of_lt hz))
        have pr := (hbq.cell (p := ⟨PB, 0, none⟩) hz4).trans (blk_cell (j := 0) (v := .slice lA L.length lc) P4.out rfl)
        have lr := (hbq.cell (p := ⟨w.heap.size + 1, 0, none⟩) (show w.heap.size + 1 < EB by omega)).trans (blk_cell (j := 0) (v := .string s) L4.out rfl)
        have HVr := Lib.hid (HV.out.later hb)
        obtain ⟨w6, e6⟩ : ∃ w6 : World, w6 = wr := ⟨_, rfl⟩
        subst e6
        by_cases hlt : k < n
        · by_cases hfew : L.length ≤ 3 + k
          · have HE := Lib.hid (evRes_attrs HL.out HS.out HH.out (c := 28) (k := 3 + k) (by rw [HN8.out, HAT.out]; exact attrs_few hlt hfew) (by decide))
            rw [place_out (show ¬ 3 + k < L.length by omega)] at HE
            have hfew' : (L.length : Int) ≤ 3 + (k : Int) := by omega
            have hne : w.heap.size + 1 + 1 ≠ w.heap.size + 1 := by omega
            have r0 := blk_cell (j := 0) (v := .int .i64 0) R.out rfl
            have f0 := blk_free R.out 0
            have r1 := blk_cell (j := 1) (v := .int .u64 0) R.out rfl
            have f1 := blk_free R.out 1
            have r2 := blk_cell (j := 2) (v := .int .i64 0) R.out rfl
            have f2 := blk_free R.out 2
            have r3 := blk_cell (j := 3) (v := .int .i64 0) R.out rfl
            have f3 := blk_free R.out 3
            have r4 := blk_cell (j := 4) (v := .int .i64 0) R.out rfl
            have f4 := blk_free R.out 4
            have r5 := blk_cell (j := 5) (v := .int .i64 0) R.out rfl
            have f5 := blk_free R.out 5
            have r6 := blk_cell (j := 6) (v := .int .i64 0) R.out rfl
            have f6 := blk_free R.out 6
            have r7 := blk_cell (j := 7) (v := .int .i64 0) R.out rfl
            have f7 := blk_free R.out 7
            have r8 := blk_cell (j := 8) (v := .int .i64 0) R.out rfl
            have f8 := blk_free R.out 8
            have r9 := blk_cell (j := 9) (v := .int .i64 0) R.out rfl
            have f9 := blk_free R.out 9
            have r10 := blk_cell (j := 10) (v := .int .i64 0) R.out rfl
            have f10 := blk_free R.out 10
            have cx := cell_so (p := ⟨w.heap.size + 1 + 1, 10, none⟩) (u := .int .i64 0) (cell_so (p := ⟨w.heap.size + 1 + 1, 9, none⟩) (u := .int .i64 0) (cell_so (p := ⟨w.heap.size + 1 + 1, 8, none⟩) (u := .int .i64 0) (cell_so (p := ⟨w.heap.size + 1 + 1, 7, none⟩) (u := .int .i64 0) (cell_so (p := ⟨w.heap.size + 1 + 1, 6, none⟩) (u := .int .i64 0) (cell_so (p := ⟨w.heap.size + 1 + 1, 5, none⟩) (u := .int .i64 0) (cell_so (p := ⟨w.heap.size + 1 + 1, 4, none⟩) (u := .int .i64 0) (cell_so (p := ⟨w.heap.size + 1 + 1, 3, none⟩) (u := .int .i64 0) (cell_so (p := ⟨w.heap.size + 1 + 1, 2, none⟩) (u := .int .i64 0) (cell_so (p := ⟨w.heap.size + 1 + 1, 1, none⟩) (u := .int .u64 0) (cell_so (p := ⟨w.heap.size + 1 + 1, 0, none⟩) (u := .int .i64 0) lr hne) hne) hne) hne) hne) hne) hne) hne) hne) hne) hne
            have hbE : Below w.heap.size w ((((((((((((w6.setCell ⟨w.heap.size + 1 + 1, 0, none⟩ (.int .i64 0)).setCell ⟨w.heap.size + 1 + 1, 1, none⟩ (.int .u64 0)).setCell ⟨w.heap.size + 1 + 1, 2, none⟩ (.int .i64 0)).setCell ⟨w.heap.size + 1 + 1, 3, none⟩ (.int .i64 0)).setCell ⟨w.heap.size + 1 + 1, 4, none⟩ (.int .i64 0)).setCell ⟨w.heap.size + 1 + 1, 5, none⟩ (.int .i64 0)).setCell ⟨w.heap.size + 1 + 1, 6, none⟩ (.int .i64 0)).setCell ⟨w.heap.size + 1 + 1, 7, none⟩ (.int .i64 0)).setCell ⟨w.heap.size + 1 + 1, 8, none⟩ (.int .i64 0)).setCell ⟨w.heap.size + 1 + 1, 9, none⟩ (.int .i64 0)).setCell ⟨w.heap.size + 1 + 1, 10, none⟩ (.int .i64 0)).drew) := ((((((((((((hb.setCell (show w.heap.size ≤ w.heap.size + 1 + 1 by omega) _).setCell (show w.heap.size ≤ w.heap.size + 1 + 1 by omega) _).setCell (show w.heap.size ≤ w.heap.size + 1 + 1 by omega) _).setCell (show w.heap.size ≤ w.heap.size + 1 + 1 by omega) _).setCell (show w.heap.size ≤ w.heap.size + 1 + 1 by omega) _).setCell (show w.heap.size ≤ w.heap.size + 1 + 1 by omega) _).setCell (show w.heap.size ≤ w.heap.size + 1 + 1 by omega) _).setCell (show w.heap.size ≤ w.heap.size + 1 + 1 by omega) _).setCell (show w.heap.size ≤ w.heap.size + 1 + 1 by omega) _).setCell (show w.heap.size ≤ w.heap.size + 1 + 1 by omega) _).setCell (show w.heap.size ≤ w.heap.size + 1 + 1 by omega) _)).drew
            go_wp2_with fail
            go_region
            all_goals
              go_wp2_with fail
              refine bodyPost_ret (v := .tuple #[.agg #[.int .i64 0, .int .u64 0, .int .i64 0, .int .i64 0, .int .i64 0, .int .i64 0, .int .i64 0, .int .i64 0, .int .i64 0, .int .i64 0, .int .i64 0], .int .i64 28, .int .i64 s.size]) ?_ rfl ?_
              · simp [results, Tryd.results25, go_sem, r0, r1, r2, r3, r4, r5, r6, r7, r8, r9, r10]
              · exact ⟨ee_bad HE.out, hbE⟩
          · have hfew' : 3 + (k : Int) < (L.length : Int) := by omega
            have h3k : 3 + k < L.length := by omega
            obtain ⟨lb, lo, eA, _, c0, _⟩ := ERd.at_ HP.out h3k
            subst eA
            have hwt : wtx s L (3 + k) = wdAt s L (3 + k) := wtx_in h3k
            go_wp2_with fail
            refine (number_any _ (wd_size hs (3 + k)) _ HVr.out).mono ?_
            rintro e w7 ⟨v0, rfl, hv, hb67⟩
            have hb7 := bcall hb hb67
            have E7 := Lib.hid (blk_below E.out hb67)
            have R7 := Lib.hid (blk_below R.out hb67)
            have hz7 : EB < w7.heap.size := Nat.lt_of_lt_of_le hz hb67.size
            have hbq7 : Below EB w4 w7 := hbq.trans (hb67.mono (Nat.le_of_lt hz))
            cases hnum : numT (wdAt s L (3 + k)) with
            | none =>
              have HE := Lib.hid (evRes_attrs HL.out HS.out HH.out (c := 26) (k := 3 + k) (by rw [HN8.out, HAT.out]; exact attrs_bad hlt hfew (by rw [hwt]; exact hnum)) (by decide))
              rw [isSome_none rfl]
              have p7 := rd_later pr hb67
              have l7 := rd_later lr hb67
              have HP7 := Lib.hid (RowRd.later HP.out hb67)
              clear hv hnum c0
              go_wp2_with fail
              refine (at_any s hs _ lc L (3 + k) PB (w.heap.size + 1) _ HP7.out hll p7 l7).mono ?_
              rintro e w8 ⟨rfl, rfl⟩
              generalize placeN s L (3 + k) = pn at *
              have hbE : Below w.heap.size w (w8.setRow (w.heap.size + 1 + 1) #[.int .i64 0, .int .u64 0, .int .i64 0, .int .i64 0, .int .i64 0, .int .i64 0, .int .i64 0, .int .i64 0, .int .i64 0, .int .i64 0, .int .i64 0]) := below_setRow hb7 (show w.heap.size ≤ w.heap.size + 1 + 1 by omega)
              have x0 := row_set R7.out #[.int .i64 0, .int .u64 0, .int .i64 0, .int .i64 0, .int .i64 0, .int .i64 0, .int .i64 0, .int .i64 0, .int .i64 0, .int .i64 0, .int .i64 0]
              have y0 := blk_cell (j := 0) (v := .int .i64 0) x0 rfl
              have y1 := blk_cell (j := 1) (v := .int .u64 0) x0 rfl
              have y2 := blk_cell (j := 2) (v := .int .i64 0) x0 rfl
              have y3 := blk_cell (j := 3) (v := .int .i64 0) x0 rfl
              have y4 := blk_cell (j := 4) (v := .int .i64 0) x0 rfl
              have y5 := blk_cell (j := 5) (v := .int .i64 0) x0 rfl
              have y6 := blk_cell (j := 6) (v := .int .i64 0) x0 rfl
              have y7 := blk_cell (j := 7) (v := .int .i64 0) x0 rfl
              have y8 := blk_cell (j := 8) (v := .int .i64 0) x0 rfl
              have y9 := blk_cell (j := 9) (v := .int .i64 0) x0 rfl
              have y10 := blk_cell (j := 10) (v := .int .i64 0) x0 rfl
              go_wp2_with (refine wpList_store_row rfl 29 _ _ rfl (w.heap.size + 1 + 1) #[.int .i64 0, .int .u64 0, .int .i64 0, .int .i64 0, .int .i64 0, .int .i64 0, .int .i64 0, .int .i64 0, .int .i64 0, .int .i64 0, .int .i64 0] rfl rfl 29 #[.int .i64 0, .int .u64 0, .int .i64 0, .int .i64 0, .int .i64 0, .int .i64 0, .int .i64 0, .int .i64 0, .int .i64 0, .int .i64 0, .int .i64 0] R7.out (by kernel_rfl) rfl (by simp [Value.oneCell']) ?_)
              refine bodyPost_ret (v := .tuple #[.agg #[.int .i64 0, .int .u64 0, .int .i64 0, .int .i64 0, .int .i64 0, .int .i64 0, .int .i64 0, .int .i64 0, .int .i64 0, .int .i64 0, .int .i64 0], .int .i64 26, .int .i64 pn]) ?_ rfl ?_
              · simp [results, Tryd.results25, go_sem, y0, y1, y2, y3, y4, y5, y6, y7, y8, y9, y10]
              · exact ⟨ee_bad HE.out, hbE⟩
            | some v =>
              obtain rfl := hv v hnum
              rw [isSome_some rfl]
              have hnum' : numT (wtx s L (3 + k)) = some v0 := by rw [hwt]; exact hnum
              have HV2 := Lib.hid (HVI.out.next hnum')
              have HA2 := Lib.hid (HAT.out.trans (attrs_next hlt hfew hnum'))
              have hk8 : k < 8 := by omega
              obtain ⟨_, _, ya⟩ := ev_cell E7.out
              have y7 := ya k hk8
              have g7 := blk_free E7.out (3 + k)
              have E8 : Hid ((w7.setCell ⟨EB, 3 + k, none⟩ (.int .i64 v0)).heap[EB]? = some (.cells (evCells ts id ty (upd a k v0)) 29 (0, 0))) := Lib.hid (by rw [← ev_set ts id ty a hk8 v0]; exact blk_set E7.out (3 + k) _)
              have R8 : Hid ((w7.setCell ⟨EB, 3 + k, none⟩ (.int .i64 v0)).heap[w.heap.size + 1 + 1]? = some (.cells #[.int .i64 0, .int .u64 0, .int .i64 0, .int .i64 0, .int .i64 0, .int .i64 0, .int .i64 0, .int .i64 0, .int .i64 0, .int .i64 0, .int .i64 0] 29 (0, 0))) := Lib.hid (blk_other (p := ⟨EB, 3 + k, none⟩) R7.out (show EB ≠ w.heap.size + 1 + 1 by omega) _)
              have hb8 : Below w.heap.size w (w7.setCell ⟨EB, 3 + k, none⟩ (.int .i64 v0)) := hb7.setCell (show w.heap.size ≤ EB by omega) _
              have hbq8 : Below EB w4 (w7.setCell ⟨EB, 3 + k, none⟩ (.int .i64 v0)) := hbq7.setCell (Nat.le_refl _) _
              have hz8 : EB < (w7.setCell ⟨EB, 3 + k, none⟩ (.int .i64 v0)).heap.size := by rw [World.size_setCell]; exact hz7
              clear hv hnum hnum' ya c0
              go_wp2_with fail
              go_roundw
              case rel => exact ⟨k + 1, upd a k v0, hlt, by go_num, HV2, HA2, hb8, hz8, E8, R8, hbq8⟩
              case measure => simp [intOf]; omega
        · obtain rfl : k = n := by omega
          by_cases hmany : 3 + k < L.length
          · have HE := Lib.hid (evRes_attrs HL.out HS.out HH.out (c := 28) (k := 3 + k) (by rw [HN8.out, HAT.out]; exact attrs_many hlt hmany) (by decide))
            have hmany' : 3 + (k : Int) < (L.length : Int) := by omega
            go_wp2_with fail
            refine (at_any s hs lA lc L (3 + k) PB (w.heap.size + 1) _ HP.out hll pr lr).mono ?_
            rintro e w8 ⟨rfl, rfl⟩
            generalize placeN s L (3 + k) = pn at *
            have hbE : Below w.heap.size w (w8.setRow (w.heap.size + 1 + 1) #[.int .i64 0, .int .u64 0, .int .i64 0, .int .i64 0, .int .i64 0, .int .i64 0, .int .i64 0, .int .i64 0, .int .i64 0, .int .i64 0, .int .i64 0]) := below_setRow hb (show w.heap.size ≤ w.heap.size + 1 + 1 by omega)
            have x0 := row_set R.out #[.int .i64 0, .int .u64 0, .int .i64 0, .int .i64 0, .int .i64 0, .int .i64 0, .int .i64 0, .int .i64 0, .int .i64 0, .int .i64 0, .int .i64 0]
            have y0 := blk_cell (j := 0) (v := .int .i64 0) x0 rfl
            have y1 := blk_cell (j := 1) (v := .int .u64 0) x0 rfl
            have y2 := blk_cell (j := 2) (v := .int .i64 0) x0 rfl
            have y3 := blk_cell (j := 3) (v := .int .i64 0) x0 rfl
            have y4 := blk_cell (j := 4) (v := .int .i64 0) x0 rfl
            have y5 := blk_cell (j := 5) (v := .int .i64 0) x0 rfl
            have y6 := blk_cell (j := 6) (v := .int .i64 0) x0 rfl
            have y7 := blk_cell (j := 7) (v := .int .i64 0) x0 rfl
            have y8 := blk_cell (j := 8) (v := .int .i64 0) x0 rfl
            have y9 := blk_cell (j := 9) (v := .int .i64 0) x0 rfl
            have y10 := blk_cell (j := 10) (v := .int .i64 0) x0 rfl
            go_wp2_with (refine wpList_store_row rfl 29 _ _ rfl (w.heap.size + 1 + 1) #[.int .i64 0, .int .u64 0, .int .i64 0, .int .i64 0, .int .i64 0, .int .i64 0, .int .i64 0, .int .i64 0, .int .i64 0, .int .i64 0, .int .i64 0] rfl rfl 29 #[.int .i64 0, .int .u64 0, .int .i64 0, .int .i64 0, .int .i64 0, .int .i64 0, .int .i64 0, .int .i64 0, .int .i64 0, .int .i64 0, .int .i64 0] R.out (by kernel_rfl) rfl (by simp [Value.oneCell']) ?_)
            refine bodyPost_ret (v := .tuple #[.agg #[.int .i64 0, .int .u64 0, .int .i64 0, .int .i64 0, .int .i64 0, .int .i64 0, .int .i64 0, .int .i64 0, .int .i64 0, .int .i64 0, .int .i64 0], .int .i64 28, .int .i64 pn]) ?_ rfl ?_
            · simp [results, Tryd.results25, go_sem, y0, y1, y2, y3, y4, y5, y6, y7, y8, y9, y10]
            · exact ⟨ee_bad HE.out, hbE⟩
          · have HE := Lib.hid (evRes_ok HL.out HS.out HH.out (by rw [HN8.out, HAT.out]; exact attrs_done hlt hmany))
            have hmany' : (L.length : Int) ≤ 3 + (k : Int) := by omega
            have hbE : Below w.heap.size w (w6.setRow (w.heap.size + 1 + 1) (evCells ts id ty a)) := below_setRow hb (show w.heap.size ≤ w.heap.size + 1 + 1 by omega)
            have x0 := row_set R.out (evCells ts id ty a)
            have y0 := blk_cell (j := 0) (v := .int .i64 ts) x0 rfl
            have y1 := blk_cell (j := 1) (v := .int .u64 (id : Nat)) x0 rfl
            have y2 := blk_cell (j := 2) (v := .int .i64 (ty : Nat)) x0 rfl
            have y3 := blk_cell (j := 3) (v := .int .i64 (a 0)) x0 rfl
            have y4 := blk_cell (j := 4) (v := .int .i64 (a 1)) x0 rfl
            have y5 := blk_cell (j := 5) (v := .int .i64 (a 2)) x0 rfl
            have y6 := blk_cell (j := 6) (v := .int .i64 (a 3)) x0 rfl
            have y7 := blk_cell (j := 7) (v := .int .i64 (a 4)) x0 rfl
            have y8 := blk_cell (j := 8) (v := .int .i64 (a 5)) x0 rfl
            have y9 := blk_cell (j := 9) (v := .int .i64 (a 6)) x0 rfl
            have y10 := blk_cell (j := 10) (v := .int .i64 (a 7)) x0 rfl
            go_wp2_with (first | (refine wpList_load_row rfl 29 _ rfl (EB) rfl 29 (evCells ts id ty a) (0, 0) _ E.out Tryd.underlying29 rfl (by kernel_rfl) ?_) | (refine wpList_store_row rfl 29 _ _ rfl (w.heap.size + 1 + 1) (evCells ts id ty a) rfl rfl 29 #[.int .i64 0, .int .u64 0, .int .i64 0, .int .i64 0, .int .i64 0, .int .i64 0, .int .i64 0, .int .i64 0, .int .i64 0, .int .i64 0, .int .i64 0] R.out (by kernel_rfl) rfl (ev_one _ _ _ _) ?_))
            refine bodyPost_ret (v := .tuple #[.agg (evCells ts id ty a), .int .i64 0, .int .i64 0]) ?_ rfl ?_
            · simp [results, Tryd.results25, go_sem, y0, y1, y2, y3, y4, y5, y6, y7, y8, y9, y10]
              rfl
            · exact ⟨ee_ok HE.out (fun j hj => by rw [HVI.out j hj, HN8.out]; rfl), hbE⟩
  · have HE := Lib.hid (evRes_sch (s := s) hsch)
    generalize schErr S = sc at *
    have hcc : (sc != 0) = true := by rw [bne_iff_ne]; exact hsch
    have hbE : Below w.heap.size w (w2.setRow (w.heap.size + 1 + 1) #[.int .i64 0, .int .u64 0, .int .i64 0, .int .i64 0, .int .i64 0, .int .i64 0, .int .i64 0, .int .i64 0, .int .i64 0, .int .i64 0, .int .i64 0]) := below_setRow hb2 (show w.heap.size ≤ w.heap.size + 1 + 1 by omega)
    have x0 := row_set R2.out #[.int .i64 0, .int .u64 0, .int .i64 0, .int .i64 0, .int .i64 0, .int .i64 0, .int .i64 0, .int .i64 0, .int .i64 0, .int .i64 0, .int .i64 0]
    have y0 := blk_cell (j := 0) (v := .int .i64 0) x0 rfl
    have y1 := blk_cell (j := 1) (v := .int .u64 0) x0 rfl
    have y2 := blk_cell (j := 2) (v := .int .i64 0) x0 rfl
    have y3 := blk_cell (j := 3) (v := .int .i64 0) x0 rfl
    have y4 := blk_cell (j := 4) (v := .int .i64 0) x0 rfl
    have y5 := blk_cell (j := 5) (v := .int .i64 0) x0 rfl
    have y6 := blk_cell (j := 6) (v := .int .i64 0) x0 rfl
    have y7 := blk_cell (j := 7) (v := .int .i64 0) x0 rfl
    have y8 := blk_cell (j := 8) (v := .int .i64 0) x0 rfl
    have y9 := blk_cell (j := 9) (v := .int .i64 0) x0 rfl
    have y10 := blk_cell (j := 10) (v := .int .i64 0) x0 rfl
    go_wp2_with (refine wpList_store_row rfl 29 _ _ rfl (w.heap.size + 1 + 1) #[.int .i64 0, .int .u64 0, .int .i64 0, .int .i64 0, .int .i64 0, .int .i64 0, .int .i64 0, .int .i64 0, .int .i64 0, .int .i64 0, .int .i64 0] rfl rfl 29 #[.int .i64 0, .int .u64 0, .int .i64 0, .int .i64 0, .int .i64 0, .int .i64 0, .int .i64 0, .int .i64 0, .int .i64 0, .int .i64 0, .int .i64 0] R2.out (by kernel_rfl) rfl (by simp [Value.oneCell']) ?_)
    refine bodyPost_ret (v := .tuple #[.agg #[.int .i64 0, .int .u64 0, .int .i64 0, .int .i64 0, .int .i64 0, .int .i64 0, .int .i64 0, .int .i64 0, .int .i64 0, .int .i64 0, .int .i64 0], .int .i64 sc, .int .i64 0]) ?_ rfl ?_
    · simp [results, Tryd.results25, go_sem, y0, y1, y2, y3, y4, y5, y6, y7, y8, y9, y10]
    · exact ⟨ee_bad (p := 0) HE.out, hbE⟩
end Go.Proofs.YtppeonlpocdhkaaDoor

/-
  Several texts in one: OfNode4.
-/
import Derived.Test.YtagcbljfaflhoaaDoorFlw20
set_option linter.unusedSimpArgs false
set_option linter.unusedVariables false
/-! ### The walk of sluiceref6.ofNode, one kind of node. -/
namespace Go.Proofs.YtagcbljfaflhoaaDoor
open Go.RowKit Go.ChangeShapes Go.WideShapes Go.ChangeAt Go.Deep Go.Joins
set_option maxRecDepth 100000 in
set_option maxHeartbeats 16000000 in
theorem ofNode_4 (A : Option Addr) (cap : Nat) (S : Sch) (V : QryV) (Q : Qry) (aT : Option Addr) (n c : Nat) (f : Nat → Nod) (i : Nat) (r : Bool) (w : World) (hS : TypRd w w.heap.size A S) (h : QryRd w w.heap.size V Q) (hT : NodRd w w.heap.size aT n f) (hi : i < n) (ha : (f i).a < n) (hb : (f i).b < n) (ho : (f i).op = 4) :
    Calls Tryd.prog 94 #[.agg #[.slice A S.n cap], .agg (qryArr V Q), .slice aT n c, .int .i64 i, .bool r] w fun e w' => e = .returned (.agg (rkArr S Q r f i)) ∧ Below w.heap.size w w' := by
  obtain ⟨aI, cI, aW, cW, aR, cR⟩ := V
  show Calls _ _ #[.agg #[.slice A S.n cap], .agg #[.slice aI Q.n cI, .int .i64 Q.mode, .int .i64 Q.after, .slice aW Q.wn cW, .int .i64 Q.within, .string Q.by_, .slice aR Q.m cR], .slice aT n c, .int .i64 i, .bool r] w _
  obtain ⟨x, hx⟩ : ∃ x, f i = x := ⟨_, rfl⟩
  have hn := hT.small
  have hnI := h.rI.small
  obtain ⟨tb, off, rfl, hbl, hcs⟩ := hT.spot (by omega)
  obtain ⟨c0, c1, c2, c3, c4, c5⟩ := hcs i hi
  rw [hx] at c0 c1 c2 c3 c4 c5 ha hb ho
  obtain ⟨op, nn, vr, at_, a, b2⟩ := x
  have ha : a < n := ha
  have hb : b2 < n := hb
  have HOP := Lib.hid (show op = 4 from ho)
  clear ho
  have HX := Lib.hid hx
  have ob : ∃ w4, (((w.alloc (.cells #[.slice A S.n cap] 34)).alloc (.cells #[.slice aI Q.n cI, .int .i64 Q.mode, .int .i64 Q.after, .slice aW Q.wn cW, .int .i64 Q.within, .string Q.by_, .slice aR Q.m cR] 40)).alloc (.cells #[.int .i64 0, .int .i64 0, .int .i64 0, .int .i64 0, .int .i64 0] 118)).alloc (.cells #[.int .i64 0, .int .i64 0, .int .i64 0, .int .i64 0, .int .i64 0] 118) = w4 := ⟨_, rfl⟩
  obtain ⟨w4, ew4⟩ := ob
  have hb4 : Below w.heap.size w w4 := by rw [← ew4]; exact bnew (bnew (bnew (bnew (Below.refl _ _) _) _) _) _
  have hz4 : w4.heap.size = w.heap.size + 4 := by rw [← ew4]; simp
  have s4 : w4.heap[w.heap.size]? = some (.cells #[.slice A S.n cap] 34 (0, 0)) := by rw [← ew4]; exact blk_alloc (blk_alloc (blk_alloc (blk_new w _ _) _) _) _
  have q4 : w4.heap[w.heap.size + 1]? = some (.cells #[.slice aI Q.n cI, .int .i64 Q.mode, .int .i64 Q.after, .slice aW Q.wn cW, .int .i64 Q.within, .string Q.by_, .slice aR Q.m cR] 40 (0, 0)) := by
    have t := blk_alloc (blk_alloc (blk_new (w.alloc (.cells #[.slice A S.n cap] 34)) #[.slice aI Q.n cI, .int .i64 Q.mode, .int .i64 Q.after, .slice aW Q.wn cW, .int .i64 Q.within, .string Q.by_, .slice aR Q.m cR] 40) (.cells #[.int .i64 0, .int .i64 0, .int .i64 0, .int .i64 0, .int .i64 0] 118)) (.cells #[.int .i64 0, .int .i64 0, .int .i64 0, .int .i64 0, .int .i64 0] 118)
    rw [World.size_alloc, ew4] at t
    exact t
  have r4 : w4.heap[w.heap.size + 1 + 1]? = some (.cells #[.int .i64 0, .int .i64 0, .int .i64 0, .int .i64 0, .int .i64 0] 118 (0, 0)) := by
    have t := blk_alloc (blk_new ((w.alloc (.cells #[.slice A S.n cap] 34)).alloc (.cells #[.slice aI Q.n cI, .int .i64 Q.mode, .int .i64 Q.after, .slice aW Q.wn cW, .int .i64 Q.within, .string Q.by_, .slice aR Q.m cR] 40)) #[.int .i64 0, .int .i64 0, .int .i64 0, .int .i64 0, .int .i64 0] 118) (.cells #[.int .i64 0, .int .i64 0, .int .i64 0, .int .i64 0, .int .i64 0] 118)
    rw [World.size_alloc, World.size_alloc, ew4] at t
    exact t
  have o4 : w4.heap[w.heap.size + 1 + 1 + 1]? = some (.cells #[.int .i64 0, .int .i64 0, .int .i64 0, .int .i64 0, .int .i64 0] 118 (0, 0)) := by
    have t := blk_new (((w.alloc (.cells #[.slice A S.n cap] 34)).alloc (.cells #[.slice aI Q.n cI, .int .i64 Q.mode, .int .i64 Q.after, .slice aW Q.wn cW, .int .i64 Q.within, .string Q.by_, .slice aR Q.m cR] 40)).alloc (.cells #[.int .i64 0, .int .i64 0, .int .i64 0, .int .i64 0, .int .i64 0] 118)) #[.int .i64 0, .int .i64 0, .int .i64 0, .int .i64 0, .int .i64 0] 118
    rw [World.size_alloc, World.size_alloc, World.size_alloc, ew4] at t
    exact t
  have c0 : w.cell? ⟨tb, off + i * 6, none⟩ = some (.int .i64 op) := c0
  have c1 : w.cell? ⟨tb, off + i * 6 + 1, none⟩ = some (.int .i64 nn) := c1
  have c2 : w.cell? ⟨tb, off + i * 6 + 2, none⟩ = some (.string vr) := c2
  have c3 : w.cell? ⟨tb, off + i * 6 + 3, none⟩ = some (.string at_) := c3
  have c4 : w.cell? ⟨tb, off + i * 6 + 4, none⟩ = some (.int .i64 a) := c4
  have c5 : w.cell? ⟨tb, off + i * 6 + 5, none⟩ = some (.int .i64 b2) := c5
  have k0 := (hb4.cell (p := ⟨tb, off + i * 6, none⟩) hbl).trans c0
  have k1 := (hb4.cell (p := ⟨tb, off + i * 6 + 1, none⟩) hbl).trans c1
  have k2 := (hb4.cell (p := ⟨tb, off + i * 6 + 2, none⟩) hbl).trans c2
  have k3 := (hb4.cell (p := ⟨tb, off + i * 6 + 3, none⟩) hbl).trans c3
  have k4 := (hb4.cell (p := ⟨tb, off + i * 6 + 4, none⟩) hbl).trans c4
  have k5 := (hb4.cell (p := ⟨tb, off + i * 6 + 5, none⟩) hbl).trans c5
  have hb5 := bnew hb4 (.cells #[.int .i64 op, .int .i64 nn, .string vr, .string at_, .int .i64 a, .int .i64 b2] 60)
  have n5 := blk_new w4 #[.int .i64 op, .int .i64 nn, .string vr, .string at_, .int .i64 a, .int .i64 b2] 60
  rw [hz4] at n5
  have N5 := Lib.hid n5
  have S5 := Lib.hid (blk_alloc s4 (.cells #[.int .i64 op, .int .i64 nn, .string vr, .string at_, .int .i64 a, .int .i64 b2] 60))
  have Q5 := Lib.hid (blk_alloc q4 (.cells #[.int .i64 op, .int .i64 nn, .string vr, .string at_, .int .i64 a, .int .i64 b2] 60))
  have R5 := Lib.hid (blk_alloc r4 (.cells #[.int .i64 op, .int .i64 nn, .string vr, .string at_, .int .i64 a, .int .i64 b2] 60))
  have O5 := Lib.hid (blk_alloc o4 (.cells #[.int .i64 op, .int .i64 nn, .string vr, .string at_, .int .i64 a, .int .i64 b2] 60))
  have HS5 := Lib.hid (hS.later hb5)
  have HQ5 := Lib.hid (h.later hb5)
  have HT5 := Lib.hid (hT.later hb5)
  have HZ4 := Lib.hid hz4
  have HEW := Lib.hid ew4
  clear hS h hT hcs c0 c1 c2 c3 c4 c5 s4 q4 r4 o4 n5 hz4 hx ew4
  go_enter Tryd.func94, Tryd.ntmps94
  go_upto_region 2 with fail
  rw [HEW.out]
  go_upto_region 3 with fail
  generalize w4.alloc _ = w5 at *
  rw [HZ4.out]
  clear k0 k1 k2 k3 k4 k5 HEW
  have HZ5 := Lib.hid (blk_lt N5.out)
  obtain ⟨m0, m1, m2, m3, m4, m5⟩ := blk6f N5.out
  have x0 := blk_cell S5.out (j := 0) rfl
  obtain ⟨y0, y1, y2, y3, y4, y5, y6⟩ := blk7 Q5.out
  have ho := HOP.out
  subst ho
  have hbare : bareB 4 = true := rfl
  have hagg : aggB 4 = false := rfl
  have hba : (bareB 4 || aggB 4) = true := by rw [hbare, hagg]; rfl
  rcases itemI_or Q.n Q.it vr with hI | ⟨j, hj, hI⟩
  · have HE := Lib.hid (rk_none (S := S) (r := r) HX.out hba hI)
    have HI := Lib.hid hI
    clear hI hba
    go_wp2_with (first | (go_at_call 103; refine (barely_any 4 _).mono ?_; rw [hbare]; rintro e wq ⟨rfl, hq⟩; have hq := hq.symm; subst hq) | (go_at_call 104; refine (aggregate_any 4 _).mono ?_; rw [hagg]; rintro e wq ⟨rfl, hq⟩; have hq := hq.symm; subst hq) | (go_at_call 93; refine (refItemOf_any ⟨aI, cI, aW, cW, aR, cR⟩ Q vr _ HQ5.out).mono ?_; rw [HI.out]; rintro e w6 ⟨rfl, hb6⟩; have hb6' := bcall hb5 hb6; have O6 := Lib.hid (blk_below O5.out hb6); have R6 := Lib.hid (blk_below R5.out hb6); have u1 := blk_cell O6.out (j := 1) rfl; have v1 := blk_free O6.out 1; have O7 : Hid ((w6.setCell ⟨w.heap.size + 1 + 1 + 1, 1, none⟩ (.int .i64 68)).heap[w.heap.size + 1 + 1 + 1]? = some (.cells #[.int .i64 0, .int .i64 68, .int .i64 0, .int .i64 0, .int .i64 0] 118 (0, 0))) := Lib.hid (blk_set O6.out 1 (.int .i64 68)); have R7 := Lib.hid (blk_other R6.out (p := ⟨w.heap.size + 1 + 1 + 1, 1, none⟩) (show w.heap.size + 1 + 1 + 1 ≠ w.heap.size + 1 + 1 by omega) (.int .i64 68)); have hb7 := bset hb6' (p := ⟨w.heap.size + 1 + 1 + 1, 1, none⟩) (show w.heap.size ≤ w.heap.size + 1 + 1 + 1 by omega) (.int .i64 68)) | (refine wpList_load_row rfl 118 _ rfl (w.heap.size + 1 + 1 + 1) rfl 118 _ (0, 0) _ O7.out Tryd.underlying118 rfl (by kernel_rfl) ?_) | (refine wpList_store_row rfl 118 _ _ rfl (w.heap.size + 1 + 1) #[.int .i64 0, .int .i64 68, .int .i64 0, .int .i64 0, .int .i64 0] rfl rfl 118 _ R7.out (by kernel_rfl) rfl (by simp [Value.oneCell']) ?_))
    (try simp only [Exit.inBlock, Exit.then])
    have BF := Lib.hid (row_set R7.out #[.int .i64 0, .int .i64 68, .int .i64 0, .int .i64 0, .int .i64 0])
    have hbf := below_setRow (cs := #[.int .i64 0, .int .i64 68, .int .i64 0, .int .i64 0, .int .i64 0]) hb7 (show w.heap.size ≤ w.heap.size + 1 + 1 by omega)
    generalize World.setRow _ _ _ = wf at *
    refine bodyPost_ret (v := .agg #[.int .i64 0, .int .i64 68, .int .i64 0, .int .i64 0, .int .i64 0]) ?_ rfl ?_
    · exact results_cell_row Tryd.results94 _ _ (w.heap.size + 1 + 1) 118 _ (0, 0) _ rfl BF.out Tryd.underlying118 rfl (by kernel_rfl)
    · exact ⟨by rw [HE.out], hbf⟩
  · obtain ⟨ib, ioff, eI, hib, hci⟩ := HQ5.out.rI.spot (by omega)
    have eI : aI = some ⟨ib, ioff, none⟩ := eI
    subst eI
    obtain ⟨g0, ⟨ta, tc, g1, _, _, hty⟩, g2, g3, g4⟩ := hci j hj
    obtain ⟨y, hy⟩ : ∃ y, Q.it j = y := ⟨_, rfl⟩
    rw [hy] at g0 g1 g2 g3 g4 hty
    obtain ⟨ng, tn, ty, vr', lo, hi⟩ := y
    have HI := Lib.hid hI
    have HY := Lib.hid hy
    obtain ⟨hb, hhb⟩ : ∃ hb, hasB S ⟨ng, tn, ty, vr', lo, hi⟩ at_ = hb := ⟨_, rfl⟩
    have HHB := Lib.hid hhb
    obtain ⟨mn, hmn⟩ : ∃ mn, repB ⟨ng, tn, ty, vr', lo, hi⟩ = mn := ⟨_, rfl⟩
    have HMN := Lib.hid hmn
    have HTY := Lib.hid hty
    have HBA := Lib.hid hba
    clear hci hI hba hy hhb hmn hty
    go_wp2_with (first | (go_at_call 103; refine (barely_any 4 _).mono ?_; rw [hbare]; rintro e wq ⟨rfl, hq⟩; have hq := hq.symm; subst hq) | (go_at_call 104; refine (aggregate_any 4 _).mono ?_; rw [hagg]; rintro e wq ⟨rfl, hq⟩; have hq := hq.symm; subst hq))
    refine (refItemOf_any ⟨some ⟨ib, ioff, none⟩, cI, aW, cW, aR, cR⟩ Q vr _ HQ5.out).mono ?_
    rw [HI.out]
    rintro e w6 ⟨rfl, hb6⟩
    have hb6' := bcall hb5 hb6
    have f0 := rd_later g0 hb6
    have f1 := rd_later g1 hb6
    have f2 := rd_later g2 hb6
    have f3 := rd_later g3 hb6
    have f4 := rd_later g4 hb6
    have y06 := rd_later y0 hb6
    have S6 := Lib.hid (blk_below S5.out hb6)
    have N6 := Lib.hid (blk_below N5.out hb6)
    have O6 := Lib.hid (blk_below O5.out hb6)
    have R6 := Lib.hid (blk_below R5.out hb6)
    clear g0 g1 g2 g3 g4 y0 y1 y2 y3 y4 y5 y6 m0 m1 m2 m3 m4 m5 x0
    have I7 := Lib.hid (blk_new w6 #[.bool ng, .slice ta tn tc, .string vr', .int .i64 lo, .int .i64 hi] 80)
    have hb7 := bnew hb6' (.cells #[.bool ng, .slice ta tn tc, .string vr', .int .i64 lo, .int .i64 hi] 80)
    have hb67 := bnew hb6 (.cells #[.bool ng, .slice ta tn tc, .string vr', .int .i64 lo, .int .i64 hi] 80)
    have S7 := Lib.hid (blk_alloc S6.out (.cells #[.bool ng, .slice ta tn tc, .string vr', .int .i64 lo, .int .i64 hi] 80))
    have N7 := Lib.hid (blk_alloc N6.out (.cells #[.bool ng, .slice ta tn tc, .string vr', .int .i64 lo, .int .i64 hi] 80))
    have O7 := Lib.hid (blk_alloc O6.out (.cells #[.bool ng, .slice ta tn tc, .string vr', .int .i64 lo, .int .i64 hi] 80))
    have R7 := Lib.hid (blk_alloc R6.out (.cells #[.bool ng, .slice ta tn tc, .string vr', .int .i64 lo, .int .i64 hi] 80))
    have hz67 : w6.heap.size < (w6.alloc (.cells #[.bool ng, .slice ta tn tc, .string vr', .int .i64 lo, .int .i64 hi] 80)).heap.size := by simp
    go_upto_region 9 with fail
    generalize w6.alloc _ = w7 at *
    clear f0 f1 f2 f3 f4 y06
    obtain ⟨z0, z1, z2, z3, z4⟩ := blk5' I7.out
    have n3 := blk_cell N7.out (j := 3) rfl
    have s0 := blk_cell S7.out (j := 0) rfl
    go_wp2_with fail
    refine (every_any A cap S ⟨ng, tn, ty, vr', lo, hi⟩ ta tc at_ _ (HS5.out.later hb67) (RowRd.later HTY.out hb67)).mono ?_
    rw [HHB.out]
    rintro e w8 ⟨rfl, hb8⟩
    have hb8' := bcall hb7 hb8
    have I8 := Lib.hid (blk_below I7.out hb8)
    have N8 := Lib.hid (blk_below N7.out hb8)
    have O8 := Lib.hid (blk_below O7.out hb8)
    have R8 := Lib.hid (blk_below R7.out hb8)
    clear z0 z1 z2 z3 z4 n3 s0
    obtain ⟨w8c, e8c⟩ : ∃ w8c : World, w8c = w8 := ⟨_, rfl⟩
    subst e8c
    cases hb
    · have n0 := blk_cell N8.out (j := 0) rfl
      have u2 := blk_cell O8.out (j := 2) rfl
      have v2 := blk_free O8.out 2
      obtain ⟨w9, e9⟩ : ∃ w9, w8c.setCell ⟨w.heap.size + 1 + 1 + 1, 2, none⟩ (.int .i64 69) = w9 := ⟨_, rfl⟩
      have O9 : Hid (w9.heap[w.heap.size + 1 + 1 + 1]? = some (.cells #[.int .i64 0, .int .i64 0, .int .i64 69, .int .i64 0, .int .i64 0] 118 (0, 0))) := Lib.hid (by rw [← e9]; exact blk_set O8.out 2 (.int .i64 69))
      have R9 : Hid (w9.heap[w.heap.size + 1 + 1]? = some (.cells #[.int .i64 0, .int .i64 0, .int .i64 0, .int .i64 0, .int .i64 0] 118 (0, 0))) := Lib.hid (by rw [← e9]; exact blk_other R8.out (p := ⟨w.heap.size + 1 + 1 + 1, 2, none⟩) (show w.heap.size + 1 + 1 + 1 ≠ w.heap.size + 1 + 1 by omega) (.int .i64 69))
      have I9 : Hid (w9.heap[w6.heap.size]? = some (.cells #[.bool ng, .slice ta tn tc, .string vr', .int .i64 lo, .int .i64 hi] 80 (0, 0))) := Lib.hid (by rw [← e9]; exact blk_other I8.out (p := ⟨w.heap.size + 1 + 1 + 1, 2, none⟩) (show w.heap.size + 1 + 1 + 1 ≠ w6.heap.size by have := HZ5.out; have := hb6.size; omega) (.int .i64 69))
      have N9 : Hid (w9.heap[w.heap.size + 4]? = some (.cells #[.int .i64 4, .int .i64 nn, .string vr, .string at_, .int .i64 a, .int .i64 b2] 60 (0, 0))) := Lib.hid (by rw [← e9]; exact blk_other N8.out (p := ⟨w.heap.size + 1 + 1 + 1, 2, none⟩) (show w.heap.size + 1 + 1 + 1 ≠ w.heap.size + 4 by omega) (.int .i64 69))
      have hb9 : Below w.heap.size w w9 := by rw [← e9]; exact bset hb8' (p := ⟨w.heap.size + 1 + 1 + 1, 2, none⟩) (show w.heap.size ≤ w.heap.size + 1 + 1 + 1 by omega) (.int .i64 69)
      have HE9 := Lib.hid e9
      clear e9
      go_upto_region 12 with (first | (go_at_call 103; refine (barely_any 4 _).mono ?_; rw [hbare]; rintro e wq ⟨rfl, hq⟩; have hq := hq.symm; subst hq) | (go_at_call 104; refine (aggregate_any 4 _).mono ?_; rw [hagg]; rintro e wq ⟨rfl, hq⟩; have hq := hq.symm; subst hq))
      rw [HE9.out]
      clear u2 v2
      clear n0
      obtain ⟨z0, z1, z2, z3, z4⟩ := blk5' I9.out
      go_wp2_with fail
      refine (repeated_any ⟨ng, tn, ty, vr', lo, hi⟩ (.slice ta tn tc) _).mono ?_
      rw [HMN.out]
      rintro e wa ⟨rfl, hba⟩
      have hba' := bcall hb9 hba
      have O10 := Lib.hid (blk_below O9.out hba)
      have R10 := Lib.hid (blk_below R9.out hba)
      have p0 := blk_cell (blk_below N9.out hba) (j := 0) rfl
      have p1 := blk_cell (blk_below I9.out hba) (j := 0) rfl
      obtain ⟨wb, eb⟩ : ∃ wb : World, wb = wa := ⟨_, rfl⟩
      subst eb
      clear z0 z1 z2 z3 z4
      go_upto_region 13 with fail
      go_cut [88] from 56 to 88 (fun b wx => b = .bool ((aggB 4 && ng) || (4 == 11 && !mn) || (r && bareB 4 && (ng || mn))) ∧ wx = wb)
      case first =>
        cases ng <;> cases mn <;> cases r
        all_goals
          go_wp2_with (first | (go_at_call 103; refine (barely_any 4 _).mono ?_; rw [hbare]; rintro e wq ⟨rfl, hq⟩; have hq := hq.symm; subst hq) | (go_at_call 104; refine (aggregate_any 4 _).mono ?_; rw [hagg]; rintro e wq ⟨rfl, hq⟩; have hq := hq.symm; subst hq))
          go_meet
          exact ⟨by first | rfl | (simp [hbare, hagg]), rfl⟩
      case rest =>
      obtain ⟨rfl, ew⟩ := hcut
      have ew := ew.symm
      subst ew
      obtain ⟨ub, hub⟩ : ∃ ub, ((aggB 4 && ng) || (4 == 11 && !mn) || (r && bareB 4 && (ng || mn))) = ub := ⟨_, rfl⟩
      have HE3 := Lib.hid (rk_at' (S := S) (r := r) (h2 := true) (h3 := ub) HX.out HBA.out HI.out HY.out (show (!((4 : Int) == 5) && !hasB S ⟨ng, tn, ty, vr', lo, hi⟩ at_) = true by rw [HHB.out]; rfl) (show ((aggB 4 && ng) || (4 == 11 && !repB ⟨ng, tn, ty, vr', lo, hi⟩) || (r && bareB 4 && (ng || repB ⟨ng, tn, ty, vr', lo, hi⟩))) = ub by rw [HMN.out]; exact hub))
      rw [hub]
      clear hub
      go_upto_if 88 with fail
      go_cut [] from 56 to 89 (fun wx => Hid (wx.heap[w.heap.size + 1 + 1 + 1]? = some (.cells #[.int .i64 0, .int .i64 0, .int .i64 69, .int .i64 (if ub = true then 76 else 0), .int .i64 0] 118 (0, 0))) ∧ Hid (wx.heap[w.heap.size + 1 + 1]? = some (.cells #[.int .i64 0, .int .i64 0, .int .i64 0, .int .i64 0, .int .i64 0] 118 (0, 0))) ∧ Below w.heap.size w wx)
      case first =>
        cases ub
        · go_wp2_with fail
          go_meet
          exact ⟨O10, R10, hba'⟩
        · have u3 := blk_cell O10.out (j := 3) rfl
          have v3 := blk_free O10.out 3
          have O11 : Hid ((wb.setCell ⟨w.heap.size + 1 + 1 + 1, 3, none⟩ (.int .i64 76)).heap[w.heap.size + 1 + 1 + 1]? = some (.cells #[.int .i64 0, .int .i64 0, .int .i64 69, .int .i64 76, .int .i64 0] 118 (0, 0))) := Lib.hid (blk_set O10.out 3 (.int .i64 76))
          have R11 := Lib.hid (blk_other R10.out (p := ⟨w.heap.size + 1 + 1 + 1, 3, none⟩) (show w.heap.size + 1 + 1 + 1 ≠ w.heap.size + 1 + 1 by omega) (.int .i64 76))
          have hb11 := bset hba' (p := ⟨w.heap.size + 1 + 1 + 1, 3, none⟩) (show w.heap.size ≤ w.heap.size + 1 + 1 + 1 by omega) (.int .i64 76)
          go_wp2_with fail
          go_meet
          exact ⟨O11, R11, hb11⟩
      case rest =>
      obtain ⟨OZ, RZ, hbZ⟩ := hcut
      obtain ⟨V3, hV3⟩ : ∃ V3 : Int, (if ub = true then 76 else 0) = V3 := ⟨_, rfl⟩
      rw [hV3] at OZ
      have HE4 := Lib.hid (show rkArr S Q r f i = #[.int .i64 0, .int .i64 0, .int .i64 69, .int .i64 V3, .int .i64 0] by rw [HE3.out, hV3]; rfl)
      clear hV3
      go_wp2_with (first | (refine wpList_load_row rfl 118 _ rfl (w.heap.size + 1 + 1 + 1) rfl 118 _ (0, 0) _ OZ.out Tryd.underlying118 rfl (by kernel_rfl) ?_) | (refine wpList_store_row rfl 118 _ _ rfl (w.heap.size + 1 + 1) #[.int .i64 0, .int .i64 0, .int .i64 69, .int .i64 V3, .int .i64 0] rfl rfl 118 _ RZ.out (by kernel_rfl) rfl (by simp [Value.oneCell']) ?_))
      (try simp only [Exit.inBlock, Exit.then])
      have BF := Lib.hid (row_set RZ.out #[.int .i64 0, .int .i64 0, .int .i64 69, .int .i64 V3, .int .i64 0])
      have hbf := below_setRow (cs := #[.int .i64 0, .int .i64 0, .int .i64 69, .int .i64 V3, .int .i64 0]) hbZ (show w.heap.size ≤ w.heap.size + 1 + 1 by omega)
      generalize World.setRow _ _ _ = wf at *
      refine bodyPost_ret (v := .agg #[.int .i64 0, .int .i64 0, .int .i64 69, .int .i64 V3, .int .i64 0]) ?_ rfl ?_
      · exact results_cell_row Tryd.results94 _ _ (w.heap.size + 1 + 1) 118 _ (0, 0) _ rfl BF.out Tryd.underlying118 rfl (by kernel_rfl)
      · exact ⟨by rw [HE4.out], hbf⟩
    · have n0 := blk_cell N8.out (j := 0) rfl
      go_upto_region 12 with (first | (go_at_call 103; refine (barely_any 4 _).mono ?_; rw [hbare]; rintro e wq ⟨rfl, hq⟩; have hq := hq.symm; subst hq) | (go_at_call 104; refine (aggregate_any 4 _).mono ?_; rw [hagg]; rintro e wq ⟨rfl, hq⟩; have hq := hq.symm; subst hq))
      obtain ⟨w9, e9⟩ : ∃ w9 : World, w9 = w8c := ⟨_, rfl⟩
      subst e9
      have O9 := O8
      have R9 := R8
      have I9 := I8
      have N9 := N8
      have hb9 := hb8'
      clear n0
      obtain ⟨z0, z1, z2, z3, z4⟩ := blk5' I9.out
      go_wp2_with fail
      refine (repeated_any ⟨ng, tn, ty, vr', lo, hi⟩ (.slice ta tn tc) _).mono ?_
      rw [HMN.out]
      rintro e wa ⟨rfl, hba⟩
      have hba' := bcall hb9 hba
      have O10 := Lib.hid (blk_below O9.out hba)
      have R10 := Lib.hid (blk_below R9.out hba)
      have p0 := blk_cell (blk_below N9.out hba) (j := 0) rfl
      have p1 := blk_cell (blk_below I9.out hba) (j := 0) rfl
      obtain ⟨wb, eb⟩ : ∃ wb : World, wb = wa := ⟨_, rfl⟩
      subst eb
      clear z0 z1 z2 z3 z4
      go_upto_region 13 with fail
      go_cut [88] from 56 to 88 (fun b wx => b = .bool ((aggB 4 && ng) || (4 == 11 && !mn) || (r && bareB 4 && (ng || mn))) ∧ wx = wb)
      case first =>
        cases ng <;> cases mn <;> cases r
        all_goals
          go_wp2_with (first | (go_at_call 103; refine (barely_any 4 _).mono ?_; rw [hbare]; rintro e wq ⟨rfl, hq⟩; have hq := hq.symm; subst hq) | (go_at_call 104; refine (aggregate_any 4 _).mono ?_; rw [hagg]; rintro e wq ⟨rfl, hq⟩; have hq := hq.symm; subst hq))
          go_meet
          exact ⟨by first | rfl | (simp [hbare, hagg]), rfl⟩
      case rest =>
      obtain ⟨rfl, ew⟩ := hcut
      have ew := ew.symm
      subst ew
      obtain ⟨ub, hub⟩ : ∃ ub, ((aggB 4 && ng) || (4 == 11 && !mn) || (r && bareB 4 && (ng || mn))) = ub := ⟨_, rfl⟩
      have HE3 := Lib.hid (rk_at' (S := S) (r := r) (h2 := false) (h3 := ub) HX.out HBA.out HI.out HY.out (show (!((4 : Int) == 5) && !hasB S ⟨ng, tn, ty, vr', lo, hi⟩ at_) = false by rw [HHB.out]; rfl) (show ((aggB 4 && ng) || (4 == 11 && !repB ⟨ng, tn, ty, vr', lo, hi⟩) || (r && bareB 4 && (ng || repB ⟨ng, tn, ty, vr', lo, hi⟩))) = ub by rw [HMN.out]; exact hub))
      rw [hub]
      clear hub
      go_upto_if 88 with fail
      go_cut [] from 56 to 89 (fun wx => Hid (wx.heap[w.heap.size + 1 + 1 + 1]? = some (.cells #[.int .i64 0, .int .i64 0, .int .i64 0, .int .i64 (if ub = true then 76 else 0), .int .i64 0] 118 (0, 0))) ∧ Hid (wx.heap[w.heap.size + 1 + 1]? = some (.cells #[.int .i64 0, .int .i64 0, .int .i64 0, .int .i64 0, .int .i64 0] 118 (0, 0))) ∧ Below w.heap.size w wx)
      case first =>
        cases ub
        · go_wp2_with fail
          go_meet
          exact ⟨O10, R10, hba'⟩
        · have u3 := blk_cell O10.out (j := 3) rfl
          have v3 := blk_free O10.out 3
          have O11 : Hid ((wb.setCell ⟨w.heap.size + 1 + 1 + 1, 3, none⟩ (.int .i64 76)).heap[w.heap.size + 1 + 1 + 1]? = some (.cells #[.int .i64 0, .int .i64 0, .int .i64 0, .int .i64 76, .int .i64 0] 118 (0, 0))) := Lib.hid (blk_set O10.out 3 (.int .i64 76))
          have R11 := Lib.hid (blk_other R10.out (p := ⟨w.heap.size + 1 + 1 + 1, 3, none⟩) (show w.heap.size + 1 + 1 + 1 ≠ w.heap.size + 1 + 1 by omega) (.int .i64 76))
          have hb11 := bset hba' (p := ⟨w.heap.size + 1 + 1 + 1, 3, none⟩) (show w.heap.size ≤ w.heap.size + 1 + 1 + 1 by omega) (.int .i64 76)
          go_wp2_with fail
          go_meet
          exact ⟨O11, R11, hb11⟩
      case rest =>
      obtain ⟨OZ, RZ, hbZ⟩ := hcut
      obtain ⟨V3, hV3⟩ : ∃ V3 : Int, (if ub = true then 76 else 0) = V3 := ⟨_, rfl⟩
      rw [hV3] at OZ
      have HE4 := Lib.hid (show rkArr S Q r f i = #[.int .i64 0, .int .i64 0, .int .i64 0, .int .i64 V3, .int .i64 0] by rw [HE3.out, hV3]; rfl)
      clear hV3
      go_wp2_with (first | (refine wpList_load_row rfl 118 _ rfl (w.heap.size + 1 + 1 + 1) rfl 118 _ (0, 0) _ OZ.out Tryd.underlying118 rfl (by kernel_rfl) ?_) | (refine wpList_store_row rfl 118 _ _ rfl (w.heap.size + 1 + 1) #[.int .i64 0, .int .i64 0, .int .i64 0, .int .i64 V3, .int .i64 0] rfl rfl 118 _ RZ.out (by kernel_rfl) rfl (by simp [Value.oneCell']) ?_))
      (try simp only [Exit.inBlock, Exit.then])
      have BF := Lib.hid (row_set RZ.out #[.int .i64 0, .int .i64 0, .int .i64 0, .int .i64 V3, .int .i64 0])
      have hbf := below_setRow (cs := #[.int .i64 0, .int .i64 0, .int .i64 0, .int .i64 V3, .int .i64 0]) hbZ (show w.heap.size ≤ w.heap.size + 1 + 1 by omega)
      generalize World.setRow _ _ _ = wf at *
      refine bodyPost_ret (v := .agg #[.int .i64 0, .int .i64 0, .int .i64 0, .int .i64 V3, .int .i64 0]) ?_ rfl ?_
      · exact results_cell_row Tryd.results94 _ _ (w.heap.size + 1 + 1) 118 _ (0, 0) _ rfl BF.out Tryd.underlying118 rfl (by kernel_rfl)
      · exact ⟨by rw [HE4.out], hbf⟩
end Go.Proofs.YtagcbljfaflhoaaDoor

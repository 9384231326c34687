/-
  Several texts in one: OfNodeO, OfNode.
-/
import Derived.Test.YtagcbljfaflhoaaDoorFlw20
import Derived.Test.YtagcbljfaflhoaaDoorFlw21
import Derived.Test.YtagcbljfaflhoaaDoorFlw22
import Derived.Test.YtagcbljfaflhoaaDoorFlw23
import Derived.Test.YtagcbljfaflhoaaDoorFlw24
set_option linter.unusedSimpArgs false
set_option linter.unusedVariables false
/-! ### The walk of sluiceref6.ofNode, one kind of node. -/
namespace Go.Proofs.YtagcbljfaflhoaaDoor
open Go.RowKit Go.ChangeShapes Go.WideShapes Go.ChangeAt Go.Deep Go.Joins
set_option maxRecDepth 100000 in
set_option maxHeartbeats 16000000 in
theorem ofNode_op (A : Option Addr) (cap : Nat) (S : Sch) (V : QryV) (Q : Qry) (aT : Option Addr) (n c : Nat) (f : Nat → Nod) (i : Nat) (r : Bool) (w : World) (hS : TypRd w w.heap.size A S) (h : QryRd w w.heap.size V Q) (hT : NodRd w w.heap.size aT n f) (hi : i < n) (ha : (f i).a < n) (hb : (f i).b < n) (ho : (f i).op ≠ 4 ∧ (f i).op ≠ 11 ∧ ¬ (5 ≤ (f i).op ∧ (f i).op ≤ 10)) :
    Calls Tryd.prog 94 #[.agg #[.slice A S.n cap], .agg (qryArr V Q), .slice aT n c, .int .i64 i, .bool r] w fun e w' => e = .returned (.agg (rkArr S Q r f i)) ∧ Below w.heap.size w w' := by
  obtain ⟨aI, cI, aW, cW, aR, cR⟩ := V
  show Calls _ _ #[.agg #[.slice A S.n cap], .agg #[.slice aI Q.n cI, .int .i64 Q.mode, .int .i64 Q.after, .slice aW Q.wn cW, .int .i64 Q.within, .string Q.by_, .slice aR Q.m cR], .slice aT n c, .int .i64 i, .bool r] w _
  obtain ⟨x, hx⟩ : ∃ x, f i = x := ⟨_, rfl⟩
  have hn := hT.small
  have hnI := h.rI.small
  obtain ⟨tb, off, rfl, hbl, hcs⟩ := hT.spot (by omega)
  obtain ⟨c0, c1, c2, c3, c4, c5⟩ := hcs i hi
  rw [hx] at c0 c1 c2 c3 c4 c5 ha hb ho
  obtain ⟨op, nn, vr, at_, a, b2⟩ := x
  have ha : a < n := ha
  have hb : b2 < n := hb
  have HOP := Lib.hid (show op ≠ 4 ∧ op ≠ 11 ∧ ¬ (5 ≤ op ∧ op ≤ 10) from ho)
  clear ho
  have HX := Lib.hid hx
  have ob : ∃ w4, (((w.alloc (.cells #[.slice A S.n cap] 34)).alloc (.cells #[.slice aI Q.n cI, .int .i64 Q.mode, .int .i64 Q.after, .slice aW Q.wn cW, .int .i64 Q.within, .string Q.by_, .slice aR Q.m cR] 40)).alloc (.cells #[.int .i64 0, .int .i64 0, .int .i64 0, .int .i64 0, .int .i64 0] 118)).alloc (.cells #[.int .i64 0, .int .i64 0, .int .i64 0, .int .i64 0, .int .i64 0] 118) = w4 := ⟨_, rfl⟩
  obtain ⟨w4, ew4⟩ := ob
  have hb4 : Below w.heap.size w w4 := by rw [← ew4]; exact bnew (bnew (bnew (bnew (Below.refl _ _) _) _) _) _
  have hz4 : w4.heap.size = w.heap.size + 4 := by rw [← ew4]; simp
  have s4 : w4.heap[w.heap.size]? = some (.cells #[.slice A S.n cap] 34 (0, 0)) := by rw [← ew4]; exact blk_alloc (blk_alloc (blk_alloc (blk_new w _ _) _) _) _
  have q4 : w4.heap[w.heap.size + 1]? = some (.cells #[.slice aI Q.n cI, .int .i64 Q.mode, .int .i64 Q.after, .slice aW Q.wn cW, .int .i64 Q.within, .string Q.by_, .slice aR Q.m cR] 40 (0, 0)) := by
    have t := blk_alloc (blk_alloc (blk_new (w.alloc (.cells #[.slice A S.n cap] 34)) #[.slice aI Q.n cI, .int .i64 Q.mode, .int .i64 Q.after, .slice aW Q.wn cW, .int .i64 Q.within, .string Q.by_, .slice aR Q.m cR] 40) (.cells #[.int .i64 0, .int .i64 0, .int .i64 0, .int .i64 0, .int .i64 0] 118)) (.cells #[.int .i64 0, .int .i64 0, .int .i64 0, .int .i64 0, .int .i64 0] 118)
    rw [World.size_alloc, ew4] at t
    exact t
  have r4 : w4.heap[w.heap.size + 1 + 1]? = some (.cells #[.int .i64 0, .int .i64 0, .int .i64 0, .int .i64 0, .int .i64 0] 118 (0, 0)) := by
    have t := blk_alloc (blk_new ((w.alloc (.cells #[.slice A S.n cap] 34)).alloc (.cells #[.slice aI Q.n cI, .int .i64 Q.mode, .int .i64 Q.after, .slice aW Q.wn cW, .int .i64 Q.within, .string Q.by_, .slice aR Q.m cR] 40)) #[.int .i64 0, .int .i64 0, .int .i64 0, .int .i64 0, .int .i64 0] 118) (.cells #[.int .i64 0, .int .i64 0, .int .i64 0, .int .i64 0, .int .i64 0] 118)
    rw [World.size_alloc, World.size_alloc, ew4] at t
    exact t
  have o4 : w4.heap[w.heap.size + 1 + 1 + 1]? = some (.cells #[.int .i64 0, .int .i64 0, .int .i64 0, .int .i64 0, .int .i64 0] 118 (0, 0)) := by
    have t := blk_new (((w.alloc (.cells #[.slice A S.n cap] 34)).alloc (.cells #[.slice aI Q.n cI, .int .i64 Q.mode, .int .i64 Q.after, .slice aW Q.wn cW, .int .i64 Q.within, .string Q.by_, .slice aR Q.m cR] 40)).alloc (.cells #[.int .i64 0, .int .i64 0, .int .i64 0, .int .i64 0, .int .i64 0] 118)) #[.int .i64 0, .int .i64 0, .int .i64 0, .int .i64 0, .int .i64 0] 118
    rw [World.size_alloc, World.size_alloc, World.size_alloc, ew4] at t
    exact t
  have c0 : w.cell? ⟨tb, off + i * 6, none⟩ = some (.int .i64 op) := c0
  have c1 : w.cell? ⟨tb, off + i * 6 + 1, none⟩ = some (.int .i64 nn) := c1
  have c2 : w.cell? ⟨tb, off + i * 6 + 2, none⟩ = some (.string vr) := c2
  have c3 : w.cell? ⟨tb, off + i * 6 + 3, none⟩ = some (.string at_) := c3
  have c4 : w.cell? ⟨tb, off + i * 6 + 4, none⟩ = some (.int .i64 a) := c4
  have c5 : w.cell? ⟨tb, off + i * 6 + 5, none⟩ = some (.int .i64 b2) := c5
  have k0 := (hb4.cell (p := ⟨tb, off + i * 6, none⟩) hbl).trans c0
  have k1 := (hb4.cell (p := ⟨tb, off + i * 6 + 1, none⟩) hbl).trans c1
  have k2 := (hb4.cell (p := ⟨tb, off + i * 6 + 2, none⟩) hbl).trans c2
  have k3 := (hb4.cell (p := ⟨tb, off + i * 6 + 3, none⟩) hbl).trans c3
  have k4 := (hb4.cell (p := ⟨tb, off + i * 6 + 4, none⟩) hbl).trans c4
  have k5 := (hb4.cell (p := ⟨tb, off + i * 6 + 5, none⟩) hbl).trans c5
  have hb5 := bnew hb4 (.cells #[.int .i64 op, .int .i64 nn, .string vr, .string at_, .int .i64 a, .int .i64 b2] 60)
  have n5 := blk_new w4 #[.int .i64 op, .int .i64 nn, .string vr, .string at_, .int .i64 a, .int .i64 b2] 60
  rw [hz4] at n5
  have N5 := Lib.hid n5
  have S5 := Lib.hid (blk_alloc s4 (.cells #[.int .i64 op, .int .i64 nn, .string vr, .string at_, .int .i64 a, .int .i64 b2] 60))
  have Q5 := Lib.hid (blk_alloc q4 (.cells #[.int .i64 op, .int .i64 nn, .string vr, .string at_, .int .i64 a, .int .i64 b2] 60))
  have R5 := Lib.hid (blk_alloc r4 (.cells #[.int .i64 op, .int .i64 nn, .string vr, .string at_, .int .i64 a, .int .i64 b2] 60))
  have O5 := Lib.hid (blk_alloc o4 (.cells #[.int .i64 op, .int .i64 nn, .string vr, .string at_, .int .i64 a, .int .i64 b2] 60))
  have HS5 := Lib.hid (hS.later hb5)
  have HQ5 := Lib.hid (h.later hb5)
  have HT5 := Lib.hid (hT.later hb5)
  have HZ4 := Lib.hid hz4
  have HEW := Lib.hid ew4
  clear hS h hT hcs c0 c1 c2 c3 c4 c5 s4 q4 r4 o4 n5 hz4 hx ew4
  go_enter Tryd.func94, Tryd.ntmps94
  go_upto_region 2 with fail
  rw [HEW.out]
  go_upto_region 3 with fail
  generalize w4.alloc _ = w5 at *
  rw [HZ4.out]
  clear k0 k1 k2 k3 k4 k5 HEW
  have HZ5 := Lib.hid (blk_lt N5.out)
  obtain ⟨m0, m1, m2, m3, m4, m5⟩ := blk6f N5.out
  have x0 := blk_cell S5.out (j := 0) rfl
  obtain ⟨y0, y1, y2, y3, y4, y5, y6⟩ := blk7 Q5.out
  have ho := HOP.out
  have hbare : bareB op = false := by simp [bareB]; omega
  have hagg : aggB op = false := by simp [aggB]; omega
  have HE := Lib.hid (rk_op (S := S) (Q := Q) (r := r) HX.out (show (bareB op || aggB op) = false by rw [hbare, hagg]; rfl))
  have HE : Hid (rkArr S Q r f i = #[.int .i64 0, .int .i64 0, .int .i64 0, .int .i64 0, .int .i64 (if (kidB f (wantB op) a && kidB f (wantB op) b2) = true then 0 else 75)]) := HE
  go_upto_region 16 with (first | (go_at_call 103; refine (barely_any op _).mono ?_; rw [hbare]; rintro e wq ⟨rfl, hq⟩; have hq := hq.symm; subst hq) | (go_at_call 104; refine (aggregate_any op _).mono ?_; rw [hagg]; rintro e wq ⟨rfl, hq⟩; have hq := hq.symm; subst hq))
  go_cut [17] from 91 to 103 (fun v wx => v = .bool (wantB op) ∧ wx = w5)
  case first =>
    rcases (by omega : op = 13 ∨ op = 25 ∨ op = 26 ∨ (op ≠ 13 ∧ op ≠ 25 ∧ op ≠ 26)) with hq | hq | hq | ⟨q1, q2, q3⟩
    · subst hq
      go_wp2_with fail
      go_meet
      exact ⟨rfl, rfl⟩
    · subst hq
      go_wp2_with fail
      go_meet
      exact ⟨rfl, rfl⟩
    · subst hq
      go_wp2_with fail
      go_meet
      exact ⟨rfl, rfl⟩
    · have e1 : (op == 13) = false := by rw [beq_eq_false_iff_ne]; exact q1
      have e2 : (op == 25) = false := by rw [beq_eq_false_iff_ne]; exact q2
      have e3 : (op == 26) = false := by rw [beq_eq_false_iff_ne]; exact q3
      go_wp2_with fail
      go_meet
      exact ⟨by simp [wantB, e1, e2, e3], rfl⟩
  case rest =>
  obtain ⟨rfl, ew⟩ := hcut
  have ew := ew.symm
  subst ew
  obtain ⟨wt, hwt⟩ : ∃ wt, wantB op = wt := ⟨_, rfl⟩
  rw [hwt] at HE
  rw [hwt]
  clear hwt hbare hagg m0 m1 m2 m3 y0 y1 y2 y3 y4 y5 y6 x0 ho
  obtain ⟨ka, hka⟩ : ∃ ka, kidB f wt a = ka := ⟨_, rfl⟩
  obtain ⟨kb, hkb⟩ : ∃ kb, kidB f wt b2 = kb := ⟨_, rfl⟩
  have HKA := Lib.hid hka
  have HKB := Lib.hid hkb
  rw [hka, hkb] at HE
  clear hka hkb
  have HT5' := Lib.hid (show ∀ p : Nat, p < n → w5.cell? ⟨tb, off + p * 6, none⟩ = some (.int .i64 (f p).op) from fun p hp => by
    obtain ⟨tb', off', eT, _, hcs⟩ := HT5.out.spot (by omega)
    injection eT with eT
    injection eT with e1 e2
    subst e1 e2
    exact node_truth hcs hp)
  go_upto_region 17 with fail
  go_cut [133] from 104 to 133 (fun b wx => b = .bool (!(ka && kb)) ∧ wx = w5)
  case first =>
    by_cases hpa : 0 ≤ a
    · obtain ⟨pa, rfl⟩ : ∃ p : Nat, a = p := ⟨a.toNat, by omega⟩
      have hpan : pa < n := by omega
      have da := HT5'.out pa hpan
      cases hqa : truthB (f pa).op
      all_goals
        have HVA := Lib.hid ((kid_at (want := wt) hqa).symm.trans HKA.out)
        cases wt
      all_goals
        by_cases hpb : 0 ≤ b2
        · obtain ⟨pb, rfl⟩ : ∃ p : Nat, b2 = p := ⟨b2.toNat, by omega⟩
          have hpbn : pb < n := by omega
          have db := HT5'.out pb hpbn
          cases hqb : truthB (f pb).op
          all_goals
            have HVB := Lib.hid ((kid_at hqb).symm.trans HKB.out)
            go_wp2_with (first | (go_at_call 51; refine (refTruth_any _ _).mono ?_; (first | rw [hqa] | rw [hqb]); rintro e wq ⟨rfl, hw⟩; have hw := hw.symm; subst hw))
            go_meet
            exact ⟨by rw [← HVA.out, ← HVB.out]; rfl, rfl⟩
        · have HVB := Lib.hid ((kid_neg (show b2 < 0 by omega)).symm.trans HKB.out)
          go_wp2_with (first | (go_at_call 51; refine (refTruth_any _ _).mono ?_; (first | rw [hqa] | rw [hqb]); rintro e wq ⟨rfl, hw⟩; have hw := hw.symm; subst hw))
          go_meet
          exact ⟨by rw [← HVA.out, ← HVB.out]; rfl, rfl⟩
    · have HVA := Lib.hid ((kid_neg (show a < 0 by omega)).symm.trans HKA.out)
      cases wt
      all_goals
        by_cases hpb : 0 ≤ b2
        · obtain ⟨pb, rfl⟩ : ∃ p : Nat, b2 = p := ⟨b2.toNat, by omega⟩
          have hpbn : pb < n := by omega
          have db := HT5'.out pb hpbn
          cases hqb : truthB (f pb).op
          all_goals
            have HVB := Lib.hid ((kid_at hqb).symm.trans HKB.out)
            go_wp2_with (first | (go_at_call 51; refine (refTruth_any _ _).mono ?_; (first | rw [hqa] | rw [hqb]); rintro e wq ⟨rfl, hw⟩; have hw := hw.symm; subst hw))
            go_meet
            exact ⟨by rw [← HVA.out, ← HVB.out]; rfl, rfl⟩
        · have HVB := Lib.hid ((kid_neg (show b2 < 0 by omega)).symm.trans HKB.out)
          go_wp2_with (first | (go_at_call 51; refine (refTruth_any _ _).mono ?_; (first | rw [hqa] | rw [hqb]); rintro e wq ⟨rfl, hw⟩; have hw := hw.symm; subst hw))
          go_meet
          exact ⟨by rw [← HVA.out, ← HVB.out]; rfl, rfl⟩
  case rest =>
  obtain ⟨rfl, ew⟩ := hcut
  have ew := ew.symm
  subst ew
  obtain ⟨ub, hub⟩ : ∃ ub, (ka && kb) = ub := ⟨_, rfl⟩
  rw [hub] at HE
  rw [hub]
  clear hub HKA HKB m4 m5
  go_upto_if 133 with fail
  go_cut [] from 104 to 134 (fun wx => Hid (wx.heap[w.heap.size + 1 + 1 + 1]? = some (.cells #[.int .i64 0, .int .i64 0, .int .i64 0, .int .i64 0, .int .i64 (if ub = true then 0 else 75)] 118 (0, 0))) ∧ Hid (wx.heap[w.heap.size + 1 + 1]? = some (.cells #[.int .i64 0, .int .i64 0, .int .i64 0, .int .i64 0, .int .i64 0] 118 (0, 0))) ∧ Below w.heap.size w wx)
  case first =>
    cases ub
    · have u4 := blk_cell O5.out (j := 4) rfl
      have v4 := blk_free O5.out 4
      have O6 : Hid ((w5.setCell ⟨w.heap.size + 1 + 1 + 1, 4, none⟩ (.int .i64 75)).heap[w.heap.size + 1 + 1 + 1]? = some (.cells #[.int .i64 0, .int .i64 0, .int .i64 0, .int .i64 0, .int .i64 75] 118 (0, 0))) := Lib.hid (blk_set O5.out 4 (.int .i64 75))
      have R6 := Lib.hid (blk_other R5.out (p := ⟨w.heap.size + 1 + 1 + 1, 4, none⟩) (show w.heap.size + 1 + 1 + 1 ≠ w.heap.size + 1 + 1 by omega) (.int .i64 75))
      have hb6 := bset hb5 (p := ⟨w.heap.size + 1 + 1 + 1, 4, none⟩) (show w.heap.size ≤ w.heap.size + 1 + 1 + 1 by omega) (.int .i64 75)
      go_wp2_with fail
      go_meet
      exact ⟨O6, R6, hb6⟩
    · go_wp2_with fail
      go_meet
      exact ⟨O5, R5, hb5⟩
  case rest =>
  obtain ⟨OZ, RZ, hbZ⟩ := hcut
  obtain ⟨V4, hV4⟩ : ∃ V4 : Int, (if ub = true then 0 else 75) = V4 := ⟨_, rfl⟩
  rw [hV4] at OZ HE
  clear hV4
  go_wp2_with (first | (refine wpList_load_row rfl 118 _ rfl (w.heap.size + 1 + 1 + 1) rfl 118 _ (0, 0) _ OZ.out Tryd.underlying118 rfl (by kernel_rfl) ?_) | (refine wpList_store_row rfl 118 _ _ rfl (w.heap.size + 1 + 1) #[.int .i64 0, .int .i64 0, .int .i64 0, .int .i64 0, .int .i64 V4] rfl rfl 118 _ RZ.out (by kernel_rfl) rfl (by simp [Value.oneCell']) ?_))
  (try simp only [Exit.inBlock, Exit.then])
  have BF := Lib.hid (row_set RZ.out #[.int .i64 0, .int .i64 0, .int .i64 0, .int .i64 0, .int .i64 V4])
  have hbf := below_setRow (cs := #[.int .i64 0, .int .i64 0, .int .i64 0, .int .i64 0, .int .i64 V4]) hbZ (show w.heap.size ≤ w.heap.size + 1 + 1 by omega)
  generalize World.setRow _ _ _ = wf at *
  refine bodyPost_ret (v := .agg #[.int .i64 0, .int .i64 0, .int .i64 0, .int .i64 0, .int .i64 V4]) ?_ rfl ?_
  · exact results_cell_row Tryd.results94 _ _ (w.heap.size + 1 + 1) 118 _ (0, 0) _ rfl BF.out Tryd.underlying118 rfl (by kernel_rfl)
  · exact ⟨by rw [HE.out], hbf⟩
end Go.Proofs.YtagcbljfaflhoaaDoor

/-! ### The walk of sluiceref6.ofNode. -/
namespace Go.Proofs.YtagcbljfaflhoaaDoor
open Go.RowKit Go.ChangeShapes Go.WideShapes Go.ChangeAt Go.Deep Go.Joins
theorem ofNode_any (A : Option Addr) (cap : Nat) (S : Sch) (V : QryV) (Q : Qry) (aT : Option Addr) (n c : Nat) (f : Nat → Nod) (i : Nat) (r : Bool) (w : World) (hS : TypRd w w.heap.size A S) (h : QryRd w w.heap.size V Q) (hT : NodRd w w.heap.size aT n f) (hi : i < n) (ha : (f i).a < n) (hb : (f i).b < n) :
    Calls Tryd.prog 94 #[.agg #[.slice A S.n cap], .agg (qryArr V Q), .slice aT n c, .int .i64 i, .bool r] w fun e w' => e = .returned (.agg (rkArr S Q r f i)) ∧ Below w.heap.size w w' := by
  rcases (by omega : (f i).op = 4 ∨ (f i).op = 11 ∨ (f i).op = 5 ∨ (6 ≤ (f i).op ∧ (f i).op ≤ 10) ∨ ((f i).op ≠ 4 ∧ (f i).op ≠ 11 ∧ ¬ (5 ≤ (f i).op ∧ (f i).op ≤ 10))) with ho | ho | ho | ho | ho
  · exact ofNode_4 A cap S V Q aT n c f i r w hS h hT hi ha hb ho
  · exact ofNode_11 A cap S V Q aT n c f i r w hS h hT hi ha hb ho
  · exact ofNode_5 A cap S V Q aT n c f i r w hS h hT hi ha hb ho
  · exact ofNode_agg A cap S V Q aT n c f i r w hS h hT hi ha hb ho
  · exact ofNode_op A cap S V Q aT n c f i r w hS h hT hi ha hb ho
end Go.Proofs.YtagcbljfaflhoaaDoor

/-
  The walk of the reference's item.
-/
import Derived.Test.YtfcdkadblagijaaDoorRefItem5
import Derived.Deep.RegionHeld3
set_option linter.unusedSimpArgs false
set_option linter.unusedVariables false
namespace Go.Proofs.YtfcdkadblagijaaDoor
open Go.RowKit Go.ChangeShapes Go.WideShapes Go.ChangeAt Go.Deep Go.Joins
theorem res3 {w : World} {rb : Nat} {T : TypeId} {a b c : Value} (h : w.heap[rb]? = some (.cells #[a, b, c] T (0, 0))) (x y z : Value) :
    (((w.setCell ⟨rb, 0, none⟩ x).setCell ⟨rb, 1, none⟩ y).setCell ⟨rb, 2, none⟩ z).cell? ⟨rb, 0, none⟩ = some x ∧ (((w.setCell ⟨rb, 0, none⟩ x).setCell ⟨rb, 1, none⟩ y).setCell ⟨rb, 2, none⟩ z).cell? ⟨rb, 1, none⟩ = some y ∧
    (((w.setCell ⟨rb, 0, none⟩ x).setCell ⟨rb, 1, none⟩ y).setCell ⟨rb, 2, none⟩ z).cell? ⟨rb, 2, none⟩ = some z ∧ (((w.setCell ⟨rb, 0, none⟩ x).setCell ⟨rb, 1, none⟩ y).setCell ⟨rb, 2, none⟩ z).heap[rb]? = some (.cells #[x, y, z] T (0, 0)) := by
  have RF := blk_set (blk_set (blk_set h 0 x) 1 y) 2 z
  exact ⟨blk_cell RF (j := 0) rfl, blk_cell RF (j := 1) rfl, blk_cell RF (j := 2) rfl, RF⟩
/-- A number's text. -/
def numS (n : Int) : ByteArray := ⟨(Lib.itoa n).toArray⟩
theorem numS_list (n : Int) : (numS n).data.toList = Lib.itoa n := rfl
theorem itoaS_any (n : Int) (h : I64 n) (w : World) (hp : Pow w) : Calls Tryd.prog 52 #[.int .i64 n] w fun e w' => e = .returned (.string (numS n)) ∧ Below w.heap.size w w' := itoa_any n h.1 h.2 w hp
set_option maxRecDepth 100000 in
set_option maxHeartbeats 16000000 in
theorem refItem_any (neg : Bool) (tn : Nat) (ty : Nat → ByteArray) (vr : ByteArray) (lo hi : Int) (aa : Option Addr) (ac : Nat) (w : World) (h : TxtRd w w.heap.size aa tn ty) (hsh : itemShB ⟨neg, tn, ty, vr, lo, hi⟩ = true) (hw : ItmWf ⟨neg, tn, ty, vr, lo, hi⟩) (hn : tn ≤ 2000) (hp : Pow w) :
    Calls Tryd.prog 35 #[.agg #[.bool neg, .slice aa tn ac, .string vr, .int .i64 lo, .int .i64 hi]] w fun e w' => e = .returned (tdV (itemT ⟨neg, tn, ty, vr, lo, hi⟩) 0) ∧ Below w.heap.size w w' := by
  have hst := itemSh hsh
  have hneg : neg = true → lo = 1 ∧ hi = 1 := by
    simp only [itemShB, Bool.and_eq_true, Bool.or_eq_true, decide_eq_true_eq] at hsh
    intro e
    rcases hsh.2 with h | h
    · rw [e] at h; cases h
    · exact h
  have HNEG := Lib.hid hneg
  have HST := Lib.hid hst
  have HP := Lib.hid hp
  have HLO := Lib.hid (show I64 lo from hw.lo)
  have HHI := Lib.hid (show I64 hi from hw.hi)
  have hOK := itemT_ok hsh hw
  have hv16 : vr.size ≤ 16 := name16 hst.2.1
  have htk : ∀ t ∈ typedT ⟨neg, tn, ty, vr, lo, hi⟩, TkOk t := fun t ht => hOK t (by unfold itemT; exact List.mem_append_right _ (List.mem_append_left _ ht))
  have htl := typedT_len ⟨neg, tn, ty, vr, lo, hi⟩ hst.1
  have hts := jt_small htk
  dsimp only at htl
  have hsa : (numS lo).size ≤ 21 := (tkOk_num hw.lo).2.2
  have hsb : (numS hi).size ≤ 21 := (tkOk_num hw.hi).2.2
  have HTE : Hid (∀ lo hi : Int, typedT ⟨neg, tn, ty, vr, lo, hi⟩ = typedT ⟨false, tn, ty, vr, 0, 0⟩) := Lib.hid (fun _ _ => rfl)
  rw [HTE.out lo hi] at htl hts
  clear hst hneg hsh hw hp hOK htk
  have hb0 := bnew (bnew (Below.refl w.heap.size w) (.cells #[.bool neg, .slice aa tn ac, .string vr, .int .i64 lo, .int .i64 hi] 41)) (.cells #[.string ⟨#[]⟩, .int .i64 0, .int .i64 0] 57)
  have I0 := Lib.hid (blk_below (blk_new w #[.bool neg, .slice aa tn ac, .string vr, .int .i64 lo, .int .i64 hi] 41) (bnew (Below.refl _ _) (.cells #[.string ⟨#[]⟩, .int .i64 0, .int .i64 0] 57)))
  have R0 := Lib.hid (blk_new2 w (.cells #[.bool neg, .slice aa tn ac, .string vr, .int .i64 lo, .int .i64 hi] 41) #[.string ⟨#[]⟩, .int .i64 0, .int .i64 0] 57)
  have HR := Lib.hid (RowRd.later h hb0)
  clear h
  have hz9 : w.heap.size + 1 < ((w.alloc (.cells #[.bool neg, .slice aa tn ac, .string vr, .int .i64 lo, .int .i64 hi] 41)).alloc (.cells #[.string ⟨#[]⟩, .int .i64 0, .int .i64 0] 57)).heap.size := by simp
  go_enter Tryd.func35, Tryd.ntmps35
  go_upto_region 1 with fail
  obtain ⟨ib, hib⟩ : ∃ ib, w.heap.size = ib := ⟨_, rfl⟩
  obtain ⟨rb, hrb⟩ : ∃ rb, w.heap.size + 1 = rb := ⟨_, rfl⟩
  try rw [hrb]
  rw [hrb] at R0 hz9
  try rw [hib]
  rw [hib] at I0
  have hir : ib ≠ rb := by omega
  have hrw : w.heap.size ≤ rb := by omega
  clear hrb hib
  generalize World.alloc _ (.cells #[.string ⟨#[]⟩, .int .i64 0, .int .i64 0] 57) = w0 at *
  have c1 : w0.cell? ⟨ib, 1, none⟩ = some (.slice aa tn ac) := blk_cell I0.out rfl
  go_wp2_with fail
  refine (typed_any neg tn ty vr lo hi aa ac _ HR.out HST.out.1 hn HST.out.2.2.2.2).mono ?_
  rw [HTE.out lo hi]
  have HNE := Lib.hid (show typedT ⟨false, tn, ty, vr, 0, 0⟩ ≠ [] from fun e => by rw [e] at htl; have := HST.out.1; simp at htl; omega)
  unfold tdV
  obtain ⟨s, hs⟩ : ∃ s, jt (typedT ⟨false, tn, ty, vr, 0, 0⟩) = s := ⟨_, rfl⟩
  obtain ⟨n, hnn⟩ : ∃ n, (typedT ⟨false, tn, ty, vr, 0, 0⟩).length = n := ⟨_, rfl⟩
  have HSS := Lib.hid (show s.data.toList = joinB (typedT ⟨false, tn, ty, vr, 0, 0⟩) ∧ n = (typedT ⟨false, tn, ty, vr, 0, 0⟩).length from ⟨by rw [← hs, jt_list], hnn.symm⟩)
  rw [hs, hnn] at hts
  rw [hnn] at htl
  rw [hs, hnn]
  clear hs hnn
  rintro e w1 ⟨rfl, hb1⟩
  have hb2 := bnew hb1 (.cells #[.string s, .int .i64 (n : Int), .int .i64 0] 57)
  have R2 := Lib.hid (blk_below R0.out hb2)
  have I2 := Lib.hid (blk_below I0.out hb2)
  have X2 := Lib.hid (blk_new w1 #[.string s, .int .i64 (n : Int), .int .i64 0] 57)
  have hbf := bcall hb0 hb2
  clear c1
  go_upto_region 2 with fail
  obtain ⟨tb, htb⟩ : ∃ tb, w1.heap.size = tb := ⟨_, rfl⟩
  have htr : tb ≠ rb := by have := blk_lt R0.out; have := hb1.size; omega
  rw [htb] at X2
  try rw [htb]
  clear htb
  generalize w1.alloc _ = w2 at *
  have x0 : w2.cell? ⟨tb, 0, none⟩ = some (.string s) := blk_cell X2.out rfl
  have x1 : w2.cell? ⟨tb, 1, none⟩ = some (.int .i64 (n : Int)) := blk_cell X2.out rfl
  have i0 : w2.cell? ⟨ib, 0, none⟩ = some (.bool neg) := blk_cell I2.out rfl
  have i2 : w2.cell? ⟨ib, 2, none⟩ = some (.string vr) := blk_cell I2.out rfl
  have i3 : w2.cell? ⟨ib, 3, none⟩ = some (.int .i64 lo) := blk_cell I2.out rfl
  have i4 : w2.cell? ⟨ib, 4, none⟩ = some (.int .i64 hi) := blk_cell I2.out rfl
  have r0 : w2.cell? ⟨rb, 0, none⟩ = some (.string ⟨#[]⟩) := blk_cell R2.out rfl
  have r1 : w2.cell? ⟨rb, 1, none⟩ = some (.int .i64 0) := blk_cell R2.out rfl
  have r2 : w2.cell? ⟨rb, 2, none⟩ = some (.int .i64 0) := blk_cell R2.out rfl
  have g0 : w2.frozen? ⟨rb, 0, none⟩ = false := blk_free R2.out _
  have g1 : w2.frozen? ⟨rb, 1, none⟩ = false := blk_free R2.out _
  have g2 : w2.frozen? ⟨rb, 2, none⟩ = false := blk_free R2.out _
  cases neg
  rotate_left
  · obtain ⟨rfl, rfl⟩ := HNEG.out rfl
    have HE := Lib.hid (show (Value.agg #[.string (⟨#[33, 32]⟩ ++ s ++ ⟨#[32]⟩ ++ vr), .int .i64 ((n : Int) + 2), .int .i64 0]) = tdV (itemT ⟨true, tn, ty, vr, 1, 1⟩) 0 from by
      refine tdV_of ?_ ?_ rfl
      · rw [itemT, show repT ⟨true, tn, ty, vr, 1, 1⟩ = [nmT vr] from rfl]
        show _ = joinB ([mkT 9] ++ (typedT ⟨false, tn, ty, vr, 0, 0⟩ ++ _))
        rw [List.singleton_append, joinB_cons _ (by simp), joinB_append HNE.out (by simp), ← HSS.out.1]
        simp only [app_list]
        simp [joinB, spB, nmT, mkT, nuT, spelAt, spelL, kwAt, kwList, List.append_assoc]
      · rw [itemT, show repT ⟨true, tn, ty, vr, 1, 1⟩ = [nmT vr] from rfl]
        show _ = ((([mkT 9] ++ (typedT ⟨false, tn, ty, vr, 0, 0⟩ ++ _)).length : Nat) : Int)
        rw [List.length_append, List.length_append, ← HSS.out.2]
        simp; try omega)
    have RF := blk_set (blk_set (blk_set R2.out 0 (.string (⟨#[33, 32]⟩ ++ s ++ ⟨#[32]⟩ ++ vr))) 1 (.int .i64 ((n : Int) + 2))) 2 (.int .i64 0)
    have q0 := blk_cell RF (j := 0) (v := .string (⟨#[33, 32]⟩ ++ s ++ ⟨#[32]⟩ ++ vr)) rfl
    have q1 := blk_cell RF (j := 1) (v := .int .i64 ((n : Int) + 2)) rfl
    have q2 := blk_cell RF (j := 2) (v := .int .i64 0) rfl
    have hbf3 := bset (bset (bset hbf (p := ⟨rb, 0, none⟩) (by show w.heap.size ≤ rb; omega) (.string (⟨#[33, 32]⟩ ++ s ++ ⟨#[32]⟩ ++ vr))) (p := ⟨rb, 1, none⟩) (by show w.heap.size ≤ rb; omega) (.int .i64 ((n : Int) + 2))) (p := ⟨rb, 2, none⟩) (by show w.heap.size ≤ rb; omega) (.int .i64 0)
    clear RF
    go_wp2_with fail
    refine bodyPost_ret (v := .agg #[.string (⟨#[33, 32]⟩ ++ s ++ ⟨#[32]⟩ ++ vr), .int .i64 ((n : Int) + 2), .int .i64 0]) ?_ rfl ?_
    · simp [results, Tryd.results35, go_sem, q0, q1, q2]
    · exact ⟨by rw [HE.out], hbf3⟩
  by_cases l1 : lo = 1
  · subst l1
    by_cases h1 : hi = 1
    · subst h1
      have HE := Lib.hid (show (Value.agg #[.string (s ++ ⟨#[32]⟩ ++ vr), .int .i64 ((n : Int) + 1), .int .i64 0]) = tdV (itemT ⟨false, tn, ty, vr, 1, 1⟩) 0 from by
        refine tdV_of ?_ ?_ rfl
        · rw [itemT, show repT ⟨false, tn, ty, vr, 1, 1⟩ = [nmT vr] from rfl]
          show _ = joinB ([] ++ (typedT ⟨false, tn, ty, vr, 0, 0⟩ ++ _))
          rw [List.nil_append, joinB_append HNE.out (by simp), ← HSS.out.1]
          simp only [app_list]
          simp [joinB, spB, nmT, mkT, nuT, spelAt, spelL, kwAt, kwList, List.append_assoc]
        · rw [itemT, show repT ⟨false, tn, ty, vr, 1, 1⟩ = [nmT vr] from rfl]
          show _ = ((([] ++ (typedT ⟨false, tn, ty, vr, 0, 0⟩ ++ _)).length : Nat) : Int)
          rw [List.length_append, List.length_append, ← HSS.out.2]
          simp; try omega)
      have RF := blk_set (blk_set (blk_set R2.out 0 (.string (s ++ ⟨#[32]⟩ ++ vr))) 1 (.int .i64 ((n : Int) + 1))) 2 (.int .i64 0)
      have q0 := blk_cell RF (j := 0) (v := .string (s ++ ⟨#[32]⟩ ++ vr)) rfl
      have q1 := blk_cell RF (j := 1) (v := .int .i64 ((n : Int) + 1)) rfl
      have q2 := blk_cell RF (j := 2) (v := .int .i64 0) rfl
      have hbf3 := bset (bset (bset hbf (p := ⟨rb, 0, none⟩) (by show w.heap.size ≤ rb; omega) (.string (s ++ ⟨#[32]⟩ ++ vr))) (p := ⟨rb, 1, none⟩) (by show w.heap.size ≤ rb; omega) (.int .i64 ((n : Int) + 1))) (p := ⟨rb, 2, none⟩) (by show w.heap.size ≤ rb; omega) (.int .i64 0)
      clear RF
      go_wp2_with fail
      refine bodyPost_ret (v := .agg #[.string (s ++ ⟨#[32]⟩ ++ vr), .int .i64 ((n : Int) + 1), .int .i64 0]) ?_ rfl ?_
      · simp [results, Tryd.results35, go_sem, q0, q1, q2]
      · exact ⟨by rw [HE.out], hbf3⟩
    · by_cases h4 : hi = 4
      · subst h4
        clear h1
        have HE := Lib.hid (show (Value.agg #[.string (s ++ ⟨#[32, 43, 32]⟩ ++ vr), .int .i64 ((n : Int) + 2), .int .i64 0]) = tdV (itemT ⟨false, tn, ty, vr, 1, 4⟩) 0 from by
          refine tdV_of ?_ ?_ rfl
          · rw [itemT, show repT ⟨false, tn, ty, vr, 1, 4⟩ = [mkT 11, nmT vr] from rfl]
            show _ = joinB ([] ++ (typedT ⟨false, tn, ty, vr, 0, 0⟩ ++ _))
            rw [List.nil_append, joinB_append HNE.out (by simp), ← HSS.out.1]
            simp only [app_list]
            simp [joinB, spB, nmT, mkT, nuT, spelAt, spelL, kwAt, kwList, List.append_assoc]
          · rw [itemT, show repT ⟨false, tn, ty, vr, 1, 4⟩ = [mkT 11, nmT vr] from rfl]
            show _ = ((([] ++ (typedT ⟨false, tn, ty, vr, 0, 0⟩ ++ _)).length : Nat) : Int)
            rw [List.length_append, List.length_append, ← HSS.out.2]
            simp; try omega)
        have RF := blk_set (blk_set (blk_set R2.out 0 (.string (s ++ ⟨#[32, 43, 32]⟩ ++ vr))) 1 (.int .i64 ((n : Int) + 2))) 2 (.int .i64 0)
        have q0 := blk_cell RF (j := 0) (v := .string (s ++ ⟨#[32, 43, 32]⟩ ++ vr)) rfl
        have q1 := blk_cell RF (j := 1) (v := .int .i64 ((n : Int) + 2)) rfl
        have q2 := blk_cell RF (j := 2) (v := .int .i64 0) rfl
        have hbf3 := bset (bset (bset hbf (p := ⟨rb, 0, none⟩) (by show w.heap.size ≤ rb; omega) (.string (s ++ ⟨#[32, 43, 32]⟩ ++ vr))) (p := ⟨rb, 1, none⟩) (by show w.heap.size ≤ rb; omega) (.int .i64 ((n : Int) + 2))) (p := ⟨rb, 2, none⟩) (by show w.heap.size ≤ rb; omega) (.int .i64 0)
        clear RF
        go_wp2_with fail
        refine bodyPost_ret (v := .agg #[.string (s ++ ⟨#[32, 43, 32]⟩ ++ vr), .int .i64 ((n : Int) + 2), .int .i64 0]) ?_ rfl ?_
        · simp [results, Tryd.results35, go_sem, q0, q1, q2]
        · exact ⟨by rw [HE.out], hbf3⟩
      · have HREP := Lib.hid (show repT ⟨false, tn, ty, vr, 1, hi⟩ = [nmT vr, mkT 5, nuT 1, mkT 7, nuT hi, mkT 6] by unfold repT; rw [if_neg (by rintro ⟨_, h⟩; exact h1 h), if_neg (by rintro ⟨_, h⟩; exact h4 h)])
        have b1 : (hi == 1) = false := by rw [beq_eq_false_iff_ne]; exact h1
        have b4 : (hi == 4) = false := by rw [beq_eq_false_iff_ne]; exact h4
        clear h1 h4
        have HE := Lib.hid (show (Value.agg #[.string (s ++ ⟨#[32]⟩ ++ vr ++ ⟨#[32, 123, 32]⟩ ++ numS 1 ++ ⟨#[32, 44, 32]⟩ ++ numS hi ++ ⟨#[32, 125]⟩), .int .i64 ((n : Int) + 6), .int .i64 0]) = tdV (itemT ⟨false, tn, ty, vr, 1, hi⟩) 0 from by
          refine tdV_of ?_ ?_ rfl
          · rw [itemT, HREP.out]
            show _ = joinB ([] ++ (typedT ⟨false, tn, ty, vr, 0, 0⟩ ++ _))
            rw [List.nil_append, joinB_append HNE.out (by simp), ← HSS.out.1]
            simp only [app_list, numS_list]
            simp [joinB, spB, nmT, mkT, nuT, spelAt, spelL, kwAt, kwList, List.append_assoc]
          · rw [itemT, HREP.out]
            show _ = ((([] ++ (typedT ⟨false, tn, ty, vr, 0, 0⟩ ++ _)).length : Nat) : Int)
            rw [List.nil_append, List.length_append, ← HSS.out.2]
            simp)
        have ns0 : ¬ 9223372036854775807 < s.size + 1 := by omega
        have ns1 : ¬ 9223372036854775807 < s.size + 1 + vr.size := by omega
        have ns2 : ¬ 9223372036854775807 < s.size + 1 + vr.size + 3 := by omega
        have ns3 : ¬ 9223372036854775807 < s.size + 1 + vr.size + 3 + (numS 1).size := by omega
        have ns4 : ¬ 9223372036854775807 < s.size + 1 + vr.size + 3 + (numS 1).size + 3 := by omega
        have ns5 : ¬ 9223372036854775807 < s.size + 1 + vr.size + 3 + (numS 1).size + 3 + (numS hi).size := by omega
        have ns6 : ¬ 9223372036854775807 < s.size + 1 + vr.size + 3 + (numS 1).size + 3 + (numS hi).size + 2 := by omega
        have hw6 : IntKind.i64.wrap ((n : Int) + 6) = (n : Int) + 6 := by rw [IntKind.wrap_i64]; omega
        have PW2 := Lib.hid (HP.out.later hbf)
        go_upto_region 8 with fail
        clear r0 r1 r2 g0 g1 g2
        go_region_held3 (fun w' => w'.cell? ⟨ib, 2, none⟩ = some (.string vr) ∧ w'.cell? ⟨ib, 3, none⟩ = some (.int .i64 1) ∧ w'.cell? ⟨ib, 4, none⟩ = some (.int .i64 hi) ∧ w'.cell? ⟨tb, 0, none⟩ = some (.string s) ∧ w'.cell? ⟨tb, 1, none⟩ = some (.int .i64 (n : Int)))
          (first
            | exact ⟨(((Below.refl w2.heap.size w2).drew).cell (p := ⟨ib, 2, none⟩) (cell_lt i2)).trans i2, (((Below.refl w2.heap.size w2).drew).cell (p := ⟨ib, 3, none⟩) (cell_lt i3)).trans i3, (((Below.refl w2.heap.size w2).drew).cell (p := ⟨ib, 4, none⟩) (cell_lt i4)).trans i4, (((Below.refl w2.heap.size w2).drew).cell (p := ⟨tb, 0, none⟩) (cell_lt x0)).trans x0, (((Below.refl w2.heap.size w2).drew).cell (p := ⟨tb, 1, none⟩) (cell_lt x1)).trans x1⟩
            | (go_split_ands; exact ⟨keep3 (by assumption) hir, keep3 (by assumption) hir, keep3 (by assumption) hir, keep3 (by assumption) htr, keep3 (by assumption) htr⟩)
            | (go_split_ands; exact ⟨(hbz.cell (p := ⟨ib, 2, none⟩) (cell_lt (v := .string vr) (by assumption))).trans (by assumption), (hbz.cell (p := ⟨ib, 3, none⟩) (cell_lt (v := .int .i64 1) (by assumption))).trans (by assumption), (hbz.cell (p := ⟨ib, 4, none⟩) (cell_lt (v := .int .i64 hi) (by assumption))).trans (by assumption), (hbz.cell (p := ⟨tb, 0, none⟩) (cell_lt (v := .string s) (by assumption))).trans (by assumption), (hbz.cell (p := ⟨tb, 1, none⟩) (cell_lt (v := .int .i64 (n : Int)) (by assumption))).trans (by assumption)⟩)
            | (go_split_ands; exact ⟨by assumption, by assumption, by assumption, by assumption, by assumption⟩))
          (first
            | (go_at_call 52; (first | (have hbp := hbr) | (have hbp := (Below.refl w2.heap.size w2).drew)); refine (itoaS_any _ (by first | exact HLO.out | exact HHI.out) _ (PW2.out.later hbp)).mono ?_; rintro e wz ⟨rfl, hbz⟩; have hbr := bcall hbp hbz; have RZ := Lib.hid (blk_below R2.out hbr); have r0 := blk_cell RZ.out (j := 0) (v := .string ⟨#[]⟩) rfl; have r1 := blk_cell RZ.out (j := 1) (v := .int .i64 0) rfl; have r2 := blk_cell RZ.out (j := 2) (v := .int .i64 0) rfl; have g0 : wz.frozen? ⟨rb, 0, none⟩ = false := blk_free RZ.out _; have g1 : wz.frozen? ⟨rb, 1, none⟩ = false := blk_free RZ.out _; have g2 : wz.frozen? ⟨rb, 2, none⟩ = false := blk_free RZ.out _))
        go_split_ands
        obtain ⟨q0, q1, q2, _⟩ := res3 RZ.out (.string (s ++ ⟨#[32]⟩ ++ vr ++ ⟨#[32, 123, 32]⟩ ++ numS 1 ++ ⟨#[32, 44, 32]⟩ ++ numS hi ++ ⟨#[32, 125]⟩)) (.int .i64 ((n : Int) + 6)) (.int .i64 0)
        have hbf3 := bset (bset (bset (bcall hbf hbr) (p := ⟨rb, 0, none⟩) (by show w.heap.size ≤ rb; omega) (.string (s ++ ⟨#[32]⟩ ++ vr ++ ⟨#[32, 123, 32]⟩ ++ numS 1 ++ ⟨#[32, 44, 32]⟩ ++ numS hi ++ ⟨#[32, 125]⟩))) (p := ⟨rb, 1, none⟩) (by show w.heap.size ≤ rb; omega) (.int .i64 ((n : Int) + 6))) (p := ⟨rb, 2, none⟩) (by show w.heap.size ≤ rb; omega) (.int .i64 0)
        go_wp2_with fail
        refine bodyPost_ret (v := .agg #[.string (s ++ ⟨#[32]⟩ ++ vr ++ ⟨#[32, 123, 32]⟩ ++ numS 1 ++ ⟨#[32, 44, 32]⟩ ++ numS hi ++ ⟨#[32, 125]⟩), .int .i64 ((n : Int) + 6), .int .i64 0]) ?_ rfl ?_
        · simp [results, Tryd.results35, go_sem, q0, q1, q2]
        · exact ⟨by rw [HE.out], hbf3⟩
  · have HREP := Lib.hid (show repT ⟨false, tn, ty, vr, lo, hi⟩ = [nmT vr, mkT 5, nuT lo, mkT 7, nuT hi, mkT 6] by unfold repT; rw [if_neg (by rintro ⟨h, _⟩; exact l1 h), if_neg (by rintro ⟨h, _⟩; exact l1 h)])
    have b1 : (lo == 1) = false := by rw [beq_eq_false_iff_ne]; exact l1
    clear l1
    have HE := Lib.hid (show (Value.agg #[.string (s ++ ⟨#[32]⟩ ++ vr ++ ⟨#[32, 123, 32]⟩ ++ numS lo ++ ⟨#[32, 44, 32]⟩ ++ numS hi ++ ⟨#[32, 125]⟩), .int .i64 ((n : Int) + 6), .int .i64 0]) = tdV (itemT ⟨false, tn, ty, vr, lo, hi⟩) 0 from by
      refine tdV_of ?_ ?_ rfl
      · rw [itemT, HREP.out]
        show _ = joinB ([] ++ (typedT ⟨false, tn, ty, vr, 0, 0⟩ ++ _))
        rw [List.nil_append, joinB_append HNE.out (by simp), ← HSS.out.1]
        simp only [app_list, numS_list]
        simp [joinB, spB, nmT, mkT, nuT, spelAt, spelL, kwAt, kwList, List.append_assoc]
      · rw [itemT, HREP.out]
        show _ = ((([] ++ (typedT ⟨false, tn, ty, vr, 0, 0⟩ ++ _)).length : Nat) : Int)
        rw [List.nil_append, List.length_append, ← HSS.out.2]
        simp)
    have ns0 : ¬ 9223372036854775807 < s.size + 1 := by omega
    have ns1 : ¬ 9223372036854775807 < s.size + 1 + vr.size := by omega
    have ns2 : ¬ 9223372036854775807 < s.size + 1 + vr.size + 3 := by omega
    have ns3 : ¬ 9223372036854775807 < s.size + 1 + vr.size + 3 + (numS lo).size := by omega
    have ns4 : ¬ 9223372036854775807 < s.size + 1 + vr.size + 3 + (numS lo).size + 3 := by omega
    have ns5 : ¬ 9223372036854775807 < s.size + 1 + vr.size + 3 + (numS lo).size + 3 + (numS hi).size := by omega
    have ns6 : ¬ 9223372036854775807 < s.size + 1 + vr.size + 3 + (numS lo).size + 3 + (numS hi).size + 2 := by omega
    have hw6 : IntKind.i64.wrap ((n : Int) + 6) = (n : Int) + 6 := by rw [IntKind.wrap_i64]; omega
    have PW2 := Lib.hid (HP.out.later hbf)
    go_upto_region 8 with fail
    clear r0 r1 r2 g0 g1 g2
    go_region_held3 (fun w' => w'.cell? ⟨ib, 2, none⟩ = some (.string vr) ∧ w'.cell? ⟨ib, 3, none⟩ = some (.int .i64 lo) ∧ w'.cell? ⟨ib, 4, none⟩ = some (.int .i64 hi) ∧ w'.cell? ⟨tb, 0, none⟩ = some (.string s) ∧ w'.cell? ⟨tb, 1, none⟩ = some (.int .i64 (n : Int)))
      (first
        | exact ⟨(((Below.refl w2.heap.size w2).drew).cell (p := ⟨ib, 2, none⟩) (cell_lt i2)).trans i2, (((Below.refl w2.heap.size w2).drew).cell (p := ⟨ib, 3, none⟩) (cell_lt i3)).trans i3, (((Below.refl w2.heap.size w2).drew).cell (p := ⟨ib, 4, none⟩) (cell_lt i4)).trans i4, (((Below.refl w2.heap.size w2).drew).cell (p := ⟨tb, 0, none⟩) (cell_lt x0)).trans x0, (((Below.refl w2.heap.size w2).drew).cell (p := ⟨tb, 1, none⟩) (cell_lt x1)).trans x1⟩
        | (go_split_ands; exact ⟨keep3 (by assumption) hir, keep3 (by assumption) hir, keep3 (by assumption) hir, keep3 (by assumption) htr, keep3 (by assumption) htr⟩)
        | (go_split_ands; exact ⟨(hbz.cell (p := ⟨ib, 2, none⟩) (cell_lt (v := .string vr) (by assumption))).trans (by assumption), (hbz.cell (p := ⟨ib, 3, none⟩) (cell_lt (v := .int .i64 lo) (by assumption))).trans (by assumption), (hbz.cell (p := ⟨ib, 4, none⟩) (cell_lt (v := .int .i64 hi) (by assumption))).trans (by assumption), (hbz.cell (p := ⟨tb, 0, none⟩) (cell_lt (v := .string s) (by assumption))).trans (by assumption), (hbz.cell (p := ⟨tb, 1, none⟩) (cell_lt (v := .int .i64 (n : Int)) (by assumption))).trans (by assumption)⟩)
        | (go_split_ands; exact ⟨by assumption, by assumption, by assumption, by assumption, by assumption⟩))
      (first
        | (go_at_call 52; (first | (have hbp := hbr) | (have hbp := (Below.refl w2.heap.size w2).drew)); refine (itoaS_any _ (by first | exact HLO.out | exact HHI.out) _ (PW2.out.later hbp)).mono ?_; rintro e wz ⟨rfl, hbz⟩; have hbr := bcall hbp hbz; have RZ := Lib.hid (blk_below R2.out hbr); have r0 := blk_cell RZ.out (j := 0) (v := .string ⟨#[]⟩) rfl; have r1 := blk_cell RZ.out (j := 1) (v := .int .i64 0) rfl; have r2 := blk_cell RZ.out (j := 2) (v := .int .i64 0) rfl; have g0 : wz.frozen? ⟨rb, 0, none⟩ = false := blk_free RZ.out _; have g1 : wz.frozen? ⟨rb, 1, none⟩ = false := blk_free RZ.out _; have g2 : wz.frozen? ⟨rb, 2, none⟩ = false := blk_free RZ.out _))
    go_split_ands
    obtain ⟨q0, q1, q2, _⟩ := res3 RZ.out (.string (s ++ ⟨#[32]⟩ ++ vr ++ ⟨#[32, 123, 32]⟩ ++ numS lo ++ ⟨#[32, 44, 32]⟩ ++ numS hi ++ ⟨#[32, 125]⟩)) (.int .i64 ((n : Int) + 6)) (.int .i64 0)
    have hbf3 := bset (bset (bset (bcall hbf hbr) (p := ⟨rb, 0, none⟩) (by show w.heap.size ≤ rb; omega) (.string (s ++ ⟨#[32]⟩ ++ vr ++ ⟨#[32, 123, 32]⟩ ++ numS lo ++ ⟨#[32, 44, 32]⟩ ++ numS hi ++ ⟨#[32, 125]⟩))) (p := ⟨rb, 1, none⟩) (by show w.heap.size ≤ rb; omega) (.int .i64 ((n : Int) + 6))) (p := ⟨rb, 2, none⟩) (by show w.heap.size ≤ rb; omega) (.int .i64 0)
    go_wp2_with fail
    refine bodyPost_ret (v := .agg #[.string (s ++ ⟨#[32]⟩ ++ vr ++ ⟨#[32, 123, 32]⟩ ++ numS lo ++ ⟨#[32, 44, 32]⟩ ++ numS hi ++ ⟨#[32, 125]⟩), .int .i64 ((n : Int) + 6), .int .i64 0]) ?_ rfl ?_
    · simp [results, Tryd.results35, go_sem, q0, q1, q2]
    · exact ⟨by rw [HE.out], hbf3⟩
end Go.Proofs.YtfcdkadblagijaaDoor

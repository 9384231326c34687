/-
  The walks of the reference's behind and typed.
-/
import Derived.Test.YtfcdkadblagijaaDoorPrint5
import Derived.Test.YtfcdkadblagijaaDoorWhole
set_option linter.unusedSimpArgs false
set_option linter.unusedVariables false
namespace Go.Proofs.YtfcdkadblagijaaDoor
open Go.RowKit Go.ChangeShapes Go.WideShapes Go.ChangeAt Go.Deep Go.Joins
theorem jt_app {P M : List Tk} (hP : P ≠ []) (hM : M ≠ []) : jt (P ++ M) = jt P ++ ⟨#[32]⟩ ++ jt M := by
  apply bext
  rw [jt_list, joinB_append hP hM, app_list, app_list, jt_list, jt_list]
  simp
set_option maxRecDepth 100000 in
set_option maxHeartbeats 4000000 in
theorem behind_any (s1 s2 : ByteArray) (n1 n2 d1 d2 : Nat) (h1 : s1.size ≤ 2000000) (h2 : s2.size ≤ 2000000) (h3 : n1 ≤ 1000000) (h4 : n2 ≤ 1000000) (h5 : d1 ≤ 1000000) (h6 : d2 ≤ 1000000) (w : World) :
    Calls Tryd.prog 34 #[.agg #[.string s1, .int .i64 n1, .int .i64 d1], .agg #[.string s2, .int .i64 n2, .int .i64 d2]] w fun e w' => e = .returned (.agg #[.string (s1 ++ ⟨#[32]⟩ ++ s2), .int .i64 ((n1 + n2 : Nat) : Int), .int .i64 ((max d1 d2 : Nat) : Int)]) ∧ Below w.heap.size w w' := by
  by_cases hd : d1 < d2
  · have HE := Lib.hid (show ((max d1 d2 : Nat) : Int) = (d2 : Int) by omega)
    have HN := Lib.hid (show ((n1 + n2 : Nat) : Int) = (n1 : Int) + (n2 : Int) by omega)
    go_enter Tryd.func34, Tryd.ntmps34
    go_wp2_with fail
    refine bodyPost_ret (v := .agg #[.string (s1 ++ ⟨#[32]⟩ ++ s2), .int .i64 ((n1 : Int) + (n2 : Int)), .int .i64 (d2 : Int)]) ?_ rfl ?_
    · simp [results, Tryd.results34, go_sem]
    · exact ⟨by rw [HE.out, HN.out], bnew (bnew (bnew (Below.refl _ _) _) _) _⟩
  · have HE := Lib.hid (show ((max d1 d2 : Nat) : Int) = (d1 : Int) by omega)
    have HN := Lib.hid (show ((n1 + n2 : Nat) : Int) = (n1 : Int) + (n2 : Int) by omega)
    go_enter Tryd.func34, Tryd.ntmps34
    go_wp2_with fail
    refine bodyPost_ret (v := .agg #[.string (s1 ++ ⟨#[32]⟩ ++ s2), .int .i64 ((n1 : Int) + (n2 : Int)), .int .i64 (d1 : Int)]) ?_ rfl ?_
    · simp [results, Tryd.results34, go_sem]
    · exact ⟨by rw [HE.out, HN.out], bnew (bnew (bnew (Below.refl _ _) _) _) _⟩
theorem name16 {s : ByteArray} (h : nameB s = true) : s.size ≤ 16 := by
  simp only [nameB, Bool.and_eq_true, decide_eq_true_eq] at h
  exact h.1.1.1.2
theorem jt_name (s : ByteArray) : jt [nmT s] = s := rfl
theorem jt_open (s : ByteArray) : jt [mkT 3, nmT s] = ⟨#[40, 32]⟩ ++ s := bext (by rw [app_list]; rfl)
theorem jt_bar {P : List Tk} (hP : P ≠ []) (s : ByteArray) : jt (P ++ [mkT 10, nmT s]) = jt P ++ ⟨#[32, 124, 32]⟩ ++ s := by
  apply bext
  rw [jt_list, joinB_append hP (by simp), app_list, app_list, jt_list]
  show joinB P ++ 32 :: ([124] ++ 32 :: s.data.toList) = joinB P ++ [32, 124, 32] ++ s.data.toList
  simp
theorem jt_shut {P : List Tk} (hP : P ≠ []) : jt (P ++ [mkT 4]) = jt P ++ ⟨#[32, 41]⟩ := by
  apply bext
  rw [jt_list, joinB_append hP (by simp), app_list, jt_list]
  rfl
set_option maxRecDepth 100000 in
set_option maxHeartbeats 4000000 in
theorem typed_any (ng : Bool) (tn : Nat) (ty : Nat → ByteArray) (vr : ByteArray) (lo hi : Int) (aa : Option Addr) (ac : Nat) (w : World) (h : TxtRd w w.heap.size aa tn ty) (h0 : 0 < tn) (hn : tn ≤ 2000) (hs : ∀ j, j < tn → nameB (ty j) = true) :
    Calls Tryd.prog 51 #[.slice aa tn ac] w fun e w' => e = .returned (tdV (typedT ⟨ng, tn, ty, vr, lo, hi⟩) 0) ∧ Below w.heap.size w w' := by
  have HS := Lib.hid hs
  obtain ⟨b, off, rfl, hbl, hcs⟩ := RowRd.spot1 h h0
  have hb0 := bnew (Below.refl w.heap.size w) (.cells #[.string ⟨#[]⟩, .int .i64 0, .int .i64 0] 57)
  have R0 := Lib.hid (blk_new w #[.string ⟨#[]⟩, .int .i64 0, .int .i64 0] 57)
  have HCS := Lib.hid (fun (wr : World) (hb : Below w.heap.size w wr) (j : Nat) (hj : j < tn) => (hb.cell (p := ⟨b, off + j, none⟩) hbl).trans (hcs j hj))
  clear h hs hcs
  obtain ⟨rb, hrb⟩ : ∃ rb, w.heap.size = rb := ⟨_, rfl⟩
  have HRB := Lib.hid hrb
  rw [hrb] at R0
  go_enter Tryd.func51, Tryd.ntmps51
  go_upto_region 1 with fail
  try rw [hrb]
  clear hrb
  generalize w.alloc _ = w0 at *
  have r0 : w0.cell? ⟨rb, 0, none⟩ = some (.string ⟨#[]⟩) := blk_cell R0.out rfl
  have r1 : w0.cell? ⟨rb, 1, none⟩ = some (.int .i64 0) := blk_cell R0.out rfl
  have r2 : w0.cell? ⟨rb, 2, none⟩ = some (.int .i64 0) := blk_cell R0.out rfl
  have g0 : w0.frozen? ⟨rb, 0, none⟩ = false := blk_free R0.out _
  have g1 : w0.frozen? ⟨rb, 1, none⟩ = false := blk_free R0.out _
  have g2 : w0.frozen? ⟨rb, 2, none⟩ = false := blk_free R0.out _
  have hrw : w.heap.size ≤ rb := by rw [HRB.out]; exact Nat.le_refl _
  have c0 := HCS.out w0 hb0 0 h0
  rw [Nat.add_zero] at c0
  have h16 := name16 (HS.out 0 h0)
  obtain ⟨s0, hs0⟩ : ∃ s, ty 0 = s := ⟨_, rfl⟩
  rw [hs0] at c0 h16
  have HS0 := Lib.hid hs0
  clear hs0
  by_cases ht1 : tn = 1
  · have hz : ((tn : Int) == 1) = true := by rw [beq_iff_eq]; omega
    have HE := Lib.hid (show (Value.agg #[.string s0, .int .i64 1, .int .i64 0]) = tdV (typedT ⟨ng, tn, ty, vr, lo, hi⟩) 0 from by
      subst ht1
      exact tdV_of (by rw [← HS0.out]; rfl) rfl rfl)
    have RF := blk_set (blk_set (blk_set R0.out 0 (.string s0)) 1 (.int .i64 1)) 2 (.int .i64 0)
    have q0 := blk_cell RF (j := 0) (v := .string s0) rfl
    have q1 := blk_cell RF (j := 1) (v := .int .i64 1) rfl
    have q2 := blk_cell RF (j := 2) (v := .int .i64 0) rfl
    have hbf3 := bset (bset (bset hb0 (p := ⟨rb, 0, none⟩) (by show w.heap.size ≤ rb; omega) (.string s0)) (p := ⟨rb, 1, none⟩) (by show w.heap.size ≤ rb; omega) (.int .i64 1)) (p := ⟨rb, 2, none⟩) (by show w.heap.size ≤ rb; omega) (.int .i64 0)
    clear RF ht1
    go_wp2_with fail
    refine bodyPost_ret (v := .agg #[.string s0, .int .i64 1, .int .i64 0]) ?_ rfl ?_
    · simp [results, Tryd.results51, go_sem, q0, q1, q2]
    · exact ⟨by rw [HE.out], hbf3⟩
  · have hz : ((tn : Int) == 1) = false := by rw [beq_eq_false_iff_ne]; omega
    have h2 : 2 ≤ tn := by omega
    clear ht1
    go_wp2_with fail
    clear c0
    go_loopw [3, 4] (fun o i wr => wr = w0 ∧ ∃ (k : Nat) (s : ByteArray), 1 ≤ k ∧ k ≤ tn ∧ i = .int .i64 k ∧ o = .string s ∧ s.size ≤ 40 * k ∧ Hid (s = jt (mkT 3 :: typesT ty k))) (fun _ i _ => tn - (intOf i).toNat)
    case atStart => exact ⟨rfl, 1, _, by omega, by omega, rfl, rfl, by rw [ByteArray.size_append]; show 2 + s0.size ≤ 40; omega, Lib.hid (by rw [show mkT 3 :: typesT ty 1 = [mkT 3, nmT (ty 0)] from rfl, jt_open, HS0.out])⟩
    case round =>
      obtain ⟨rfl, k, s, hk1, hk, rfl, rfl, hsz, HJ⟩ := hrel
      by_cases hlt : k < tn
      · have d0 := HCS.out wr hb0 k hlt
        have h16 := name16 (HS.out k hlt)
        have HJ2 := Lib.hid (show s ++ ⟨#[32, 124, 32]⟩ ++ ty k = jt (mkT 3 :: typesT ty (k + 1)) by
          rw [typesT_succ ty k (by omega), ← List.cons_append, jt_bar (by simp), HJ.out])
        obtain ⟨sk, hsk⟩ : ∃ s, ty k = s := ⟨_, rfl⟩
        rw [hsk] at d0 h16 HJ2
        clear hsk
        have HSZ := Lib.hid (show (s ++ ⟨#[32, 124, 32]⟩ ++ sk).size ≤ 40 * (k + 1) by
          rw [ByteArray.size_append, ByteArray.size_append]
          show s.size + 3 + sk.size ≤ _
          omega)
        go_wp2_with fail
        go_roundw
        case rel => exact ⟨by first | rfl | trivial, k + 1, _, by omega, by omega, by go_num, rfl, HSZ.out, HJ2⟩
        case measure => simp [intOf]; omega
      · obtain rfl : k = tn := by omega
        have HE := Lib.hid (show (Value.agg #[.string (s ++ ⟨#[32, 41]⟩), .int .i64 (2 * (k : Int) + 1), .int .i64 0]) = tdV (typedT ⟨ng, k, ty, vr, lo, hi⟩) 0 from by
          have e : typedT ⟨ng, k, ty, vr, lo, hi⟩ = (mkT 3 :: typesT ty k) ++ [mkT 4] := by
            unfold typedT
            rw [if_pos (show 1 < k by omega)]
            rfl
          rw [e]
          refine tdV_of ?_ ?_ rfl
          · rw [HJ.out, ← jt_shut (by simp)]; rfl
          · have := typesT_len ty k (by omega)
            simp only [List.length_append, List.length_cons, List.length_nil]
            omega)
        have RF := blk_set (blk_set (blk_set R0.out 0 (.string (s ++ ⟨#[32, 41]⟩))) 1 (.int .i64 (2 * (k : Int) + 1))) 2 (.int .i64 0)
        have q0 := blk_cell RF (j := 0) (v := .string (s ++ ⟨#[32, 41]⟩)) rfl
        have q1 := blk_cell RF (j := 1) (v := .int .i64 (2 * (k : Int) + 1)) rfl
        have q2 := blk_cell RF (j := 2) (v := .int .i64 0) rfl
        have hbf3 := bset (bset (bset hb0 (p := ⟨rb, 0, none⟩) (by show w.heap.size ≤ rb; omega) (.string (s ++ ⟨#[32, 41]⟩))) (p := ⟨rb, 1, none⟩) (by show w.heap.size ≤ rb; omega) (.int .i64 (2 * (k : Int) + 1))) (p := ⟨rb, 2, none⟩) (by show w.heap.size ≤ rb; omega) (.int .i64 0)
        clear RF
        go_wp2_with fail
        refine bodyPost_ret (v := .agg #[.string (s ++ ⟨#[32, 41]⟩), .int .i64 (2 * (k : Int) + 1), .int .i64 0]) ?_ rfl ?_
        · simp [results, Tryd.results51, go_sem, q0, q1, q2]
        · exact ⟨by rw [HE.out], hbf3⟩
end Go.Proofs.YtfcdkadblagijaaDoor

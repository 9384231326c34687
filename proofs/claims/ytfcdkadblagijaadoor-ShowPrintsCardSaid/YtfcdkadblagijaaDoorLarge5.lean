/-
  The walk of the reference's large.
-/
import Derived.Test.YtfcdkadblagijaaDoorPrint5
import Derived.Deep.CutBlock
set_option linter.unusedSimpArgs false
set_option linter.unusedVariables false
namespace Go.Proofs.YtfcdkadblagijaaDoor
open Go.RowKit Go.ChangeShapes Go.WideShapes Go.ChangeAt Go.Deep Go.Joins
/-- How much there is of a query. -/
def bulk5 (Q : Qry) : Nat := Q.n + Q.wn + Q.m + sumK (fun j => (Q.it j).tn) Q.n + sumK Q.ln Q.m
theorem sumK_le (f : Nat → Nat) {k n : Nat} (h : k ≤ n) : sumK f k ≤ sumK f n := by
  induction n with
  | zero =>
    obtain rfl : k = 0 := by omega
    exact Nat.le_refl _
  | succ n ih =>
    by_cases e : k = n + 1
    · subst e; exact Nat.le_refl _
    · have := ih (by omega)
      show _ ≤ sumK f n + f n
      omega
theorem sumK_succ (f : Nat → Nat) (k : Nat) : sumK f (k + 1) = sumK f k + f k := rfl
set_option maxRecDepth 100000 in
set_option maxHeartbeats 4000000 in
theorem large_any (V : QryV) (Q : Qry) (w : World) (h : QryRd w w.heap.size V Q) :
    Calls Tryd.prog 33 #[.agg (qryArr V Q)] w fun e w' => e = .returned (.bool (decide (1200 < bulk5 Q))) ∧ Below w.heap.size w w' := by
  obtain ⟨aI, cI, aW, cW, aR, cR⟩ := V
  show Calls _ _ #[.agg #[.slice aI Q.n cI, .int .i64 Q.mode, .int .i64 Q.after, .slice aW Q.wn cW, .int .i64 Q.within, .string Q.by_, .slice aR Q.m cR]] w _
  have hnI := h.rI.small
  have hnW := h.rW.small
  have hnR := h.rR.small
  have hb0 := bnew (Below.refl w.heap.size w) (.cells #[.slice aI Q.n cI, .int .i64 Q.mode, .int .i64 Q.after, .slice aW Q.wn cW, .int .i64 Q.within, .string Q.by_, .slice aR Q.m cR] 34)
  have B0 := Lib.hid (blk_new w #[.slice aI Q.n cI, .int .i64 Q.mode, .int .i64 Q.after, .slice aW Q.wn cW, .int .i64 Q.within, .string Q.by_, .slice aR Q.m cR] 34)
  have HQ := Lib.hid (h.later hb0)
  clear h
  obtain ⟨qb, hqb⟩ : ∃ q, w.heap.size = q := ⟨_, rfl⟩
  rw [hqb] at B0
  go_enter Tryd.func33, Tryd.ntmps33
  go_upto_region 1 with fail
  try rw [hqb]
  clear hqb
  generalize w.alloc _ = w0 at *
  have z0 : w0.cell? ⟨qb, 0, none⟩ = some (.slice aI Q.n cI) := blk_cell B0.out (j := 0) rfl
  have z3 : w0.cell? ⟨qb, 3, none⟩ = some (.slice aW Q.wn cW) := blk_cell B0.out (j := 3) rfl
  have z6 : w0.cell? ⟨qb, 6, none⟩ = some (.slice aR Q.m cR) := blk_cell B0.out (j := 6) rfl
  obtain ⟨sI, hsI⟩ : ∃ s, sumK (fun j => (Q.it j).tn) Q.n = s := ⟨_, rfl⟩
  obtain ⟨sR, hsR⟩ : ∃ s, sumK Q.ln Q.m = s := ⟨_, rfl⟩
  have HSI := Lib.hid hsI
  have HSR := Lib.hid hsR
  clear hsI hsR
  go_upto_block 0 with fail
  go_cut [3] from 5 to 36 (fun v wx => wx = w0 ∧ ∃ k : Nat, v = .int .i64 (k : Int) ∧ k ≤ 99999999999999 ∧ Hid (k ≤ Q.n + Q.wn + Q.m + sI ∧ (k ≤ 1200 → k = Q.n + Q.wn + Q.m + sI)))
  case first =>
    go_wp2_with fail
    go_loopw [3, 4] (fun v i wr => wr = w0 ∧ ∃ k q : Nat, k ≤ Q.n ∧ i = .int .i64 k ∧ v = .int .i64 (q : Int) ∧ q ≤ 99999999999999 ∧ Hid (q = Q.n + Q.wn + Q.m + sumK (fun j => (Q.it j).tn) k)) (fun _ i _ => Q.n - (intOf i).toNat)
    case atStart => exact ⟨rfl, 0, Q.n + Q.wn + Q.m, Nat.zero_le _, rfl, by go_num, by omega, Lib.hid rfl⟩
    case round =>
      obtain ⟨rfl, k, q, hk, rfl, rfl, hq, HS⟩ := hrel
      by_cases hlt : k < Q.n
      · by_cases hq12 : q ≤ 1200
        · have hq12i : (q : Int) ≤ 1200 := by omega
          obtain ⟨b, off, eI, hbl, hcs⟩ := HQ.out.rI.spot (by omega)
          have eJ : aI = some ⟨b, off, none⟩ := eI
          rw [eJ] at z0
          clear eI eJ
          obtain ⟨_, ⟨ta, tc, g1, _, _, hty⟩, _, _, _⟩ := hcs k hlt
          have htn := hty.1
          have HS2 := Lib.hid (show q + (Q.it k).tn = Q.n + Q.wn + Q.m + sumK (fun j => (Q.it j).tn) (k + 1) by rw [sumK_succ, HS.out]; omega)
          obtain ⟨tn, ht⟩ : ∃ t, (Q.it k).tn = t := ⟨_, rfl⟩
          rw [ht] at g1 htn HS2
          clear hcs hty ht
          go_wp2_with fail
          go_roundw
          case rel => exact ⟨by first | rfl | trivial, k + 1, q + tn, by omega, by go_num, by go_num, by omega, HS2⟩
          case measure => simp [intOf]; omega
        · have hq12i : ¬ ((q : Int) ≤ 1200) := by omega
          go_wp2_with fail
          go_meet
          refine ⟨by first | rfl | trivial, q, by first | rfl | go_num, hq, Lib.hid ⟨?_, fun h => absurd h hq12⟩⟩
          have := sumK_le (fun j => (Q.it j).tn) hk
          rw [HS.out]
          rw [HSI.out] at this
          omega
      · have HKN := Lib.hid (show k = Q.n by omega)
        go_wp2_with fail
        go_meet
        refine ⟨by first | rfl | trivial, q, by first | rfl | go_num, hq, Lib.hid ?_⟩
        have := HS.out
        rw [HKN.out, HSI.out] at this
        exact ⟨by omega, fun _ => this⟩
  case rest =>
  obtain ⟨rfl, q0, rfl, hq0, HS0⟩ := hcut
  go_wp2_with fail
  go_loopw [3, 5] (fun v i wr => wr = wc ∧ ∃ k q : Nat, k ≤ Q.m ∧ i = .int .i64 k ∧ v = .int .i64 (q : Int) ∧ q ≤ 199999999999999 ∧ Hid (q = q0 + sumK Q.ln k)) (fun _ i _ => Q.m - (intOf i).toNat)
  case atStart => exact ⟨rfl, 0, q0, Nat.zero_le _, rfl, rfl, by omega, Lib.hid rfl⟩
  case round =>
    obtain ⟨rfl, k, q, hk, rfl, rfl, hq, HS⟩ := hrel
    by_cases hlt : k < Q.m
    · by_cases hq12 : q ≤ 1200
      · have hq12i : (q : Int) ≤ 1200 := by omega
        obtain ⟨b, off, eI, hbl, hcs⟩ := HQ.out.rR.spot (by omega)
        have eJ : aR = some ⟨b, off, none⟩ := eI
        rw [eJ] at z6
        clear eI eJ
        obtain ⟨ta, tc, g1, _, _, hty⟩ := hcs k hlt
        have htn := hty.small
        have HS2 := Lib.hid (show q + Q.ln k = q0 + sumK Q.ln (k + 1) by rw [sumK_succ, HS.out]; omega)
        obtain ⟨tn, ht⟩ : ∃ t, Q.ln k = t := ⟨_, rfl⟩
        rw [ht] at g1 htn HS2
        clear hcs hty ht
        go_wp2_with fail
        go_roundw
        case rel => exact ⟨by first | rfl | trivial, k + 1, q + tn, by omega, by go_num, by go_num, by omega, HS2⟩
        case measure => simp [intOf]; omega
      · have hq12i : ¬ ((q : Int) ≤ 1200) := by omega
        have HE := Lib.hid (show decide (1200 < bulk5 Q) = true by
          rw [decide_eq_true_eq]
          unfold bulk5
          have h1 := sumK_le Q.ln hk
          have h2 := HS.out
          have h3 := HS0.out.1
          rw [HSI.out, HSR.out]
          rw [HSR.out] at h1
          omega)
        have hg : (1200 : Int) < (q : Int) := by omega
        go_wp2_with fail
        go_ret
        exact ⟨by rw [HE.out]; first | rfl | exact ret_bool (by first | (simp; done) | (simp; omega)), hb0⟩
    · have HKN := Lib.hid (show k = Q.m by omega)
      have HE : Hid (decide (1200 < bulk5 Q) = decide (1200 < q)) := Lib.hid (by
        have h2 := HS.out
        rw [HKN.out, HSR.out] at h2
        have h3 := HS0.out
        unfold bulk5
        rw [HSI.out, HSR.out]
        by_cases hx : 1200 < q
        · rw [decide_eq_true hx, decide_eq_true_eq]; omega
        · rw [decide_eq_false hx, decide_eq_false_iff_not]
          have := h3.2 (by omega)
          omega)
      go_wp2_with fail
      go_ret
      exact ⟨by rw [HE.out]; first | rfl | exact ret_bool (by first | (simp; done) | (simp; omega)), hb0⟩
end Go.Proofs.YtfcdkadblagijaaDoor

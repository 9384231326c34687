/-
  The reference's texts of nodes: level, operand.
-/
import Derived.Test.YtfcdkadblagijaaDoorExprW
set_option linter.unusedSimpArgs false
set_option linter.unusedVariables false
namespace Go.Proofs.YtfcdkadblagijaaDoor
open Go.RowKit Go.ChangeShapes Go.WideShapes Go.ChangeAt Go.Deep Go.Joins
/-- The tokens' text. -/
def jt (P : List Tk) : ByteArray := ⟨(joinB P).toArray⟩
theorem jt_size (P : List Tk) : (jt P).size = (joinB P).length := by simp [jt, ByteArray.size]
theorem bext {a b : ByteArray} (h : a.data.toList = b.data.toList) : a = b := ByteArray.ext (Array.ext' h)
theorem app_list (a b : ByteArray) : (a ++ b).data.toList = a.data.toList ++ b.data.toList := by rw [ByteArray.data_append, Array.toList_append]
theorem jt_list (P : List Tk) : (jt P).data.toList = joinB P := rfl
theorem jt_small {P : List Tk} (h : ∀ t ∈ P, TkOk t) : (jt P).size ≤ 22 * P.length := by
  rw [jt_size]
  exact joinB_len fun t ht => (h t ht).2.2
theorem jt_bracket {P : List Tk} (hP : P ≠ []) : (⟨#[40, 32]⟩ : ByteArray) ++ jt P ++ ⟨#[32, 41]⟩ = jt (mkT 3 :: (P ++ [mkT 4])) := by
  apply bext
  rw [app_list, app_list, jt_list, jt_list, joinB_cons _ (by simp), joinB_append hP (by simp)]
  show [40, 32] ++ joinB P ++ [32, 41] = [40] ++ 32 :: (joinB P ++ 32 :: [41])
  simp
set_option maxRecDepth 100000 in
set_option maxHeartbeats 2000000 in
theorem refLevel_any (o : Int) (h1 : 1 ≤ o) (h2 : o ≤ 26) (w : World) : Calls Tryd.prog 60 #[.int .i64 o] w fun e w' => e = .returned (.int .i64 (lev o)) ∧ w' = w := by
  by_cases hs : o < 12
  · have HE := Lib.hid (show lev o = 8 from if_pos hs)
    have q1 : (o == 26) = false := by rw [beq_eq_false_iff_ne]; omega
    have q2 : (o == 25) = false := by rw [beq_eq_false_iff_ne]; omega
    have q3 : (o == 13) = false := by rw [beq_eq_false_iff_ne]; omega
    have q4 : (o == 14) = false := by rw [beq_eq_false_iff_ne]; omega
    have q5 : (o == 15) = false := by rw [beq_eq_false_iff_ne]; omega
    have q6 : (o == 16) = false := by rw [beq_eq_false_iff_ne]; omega
    have q7 : (o == 17) = false := by rw [beq_eq_false_iff_ne]; omega
    have q8 : (o == 18) = false := by rw [beq_eq_false_iff_ne]; omega
    have q9 : (o == 12) = false := by rw [beq_eq_false_iff_ne]; omega
    go_enter Tryd.func60, Tryd.ntmps60
    go_wp2_with fail
    go_ret
    exact ⟨by rw [HE.out]; rfl, rfl⟩
  · obtain rfl | rfl | rfl | rfl | rfl | rfl | rfl | rfl | rfl | rfl | rfl | rfl | rfl | rfl | rfl : o = 12 ∨ o = 13 ∨ o = 14 ∨ o = 15 ∨ o = 16 ∨ o = 17 ∨ o = 18 ∨ o = 19 ∨ o = 20 ∨ o = 21 ∨ o = 22 ∨ o = 23 ∨ o = 24 ∨ o = 25 ∨ o = 26 := by omega
    all_goals
      go_enter Tryd.func60, Tryd.ntmps60
      go_wp2_with fail
      go_ret
      exact ⟨rfl, rfl⟩
set_option maxRecDepth 100000 in
set_option maxHeartbeats 2000000 in
theorem operand_any (P : List Tk) (hP : P ≠ []) (o : Int) (h1 : 1 ≤ o) (h2 : o ≤ 26) (nn : Int) (dp : Nat) (hs : (jt P).size ≤ 1000000) (hl : P.length ≤ 1000000) (hd : dp ≤ 1000000) (w : World) :
    Calls Tryd.prog 59 #[.agg #[.string (jt P), .int .i64 P.length, .int .i64 dp], .int .i64 o, .int .i64 nn] w fun e w' => e = .returned (.agg #[.string (jt (wrapT (lev o) nn P)), .int .i64 (wrapT (lev o) nn P).length, .int .i64 (wrapD (lev o) nn dp)]) ∧ Below w.heap.size w w' := by
  obtain ⟨n, hn⟩ : ∃ n, P.length = n := ⟨_, rfl⟩
  have HN := Lib.hid hn
  obtain ⟨l, hlv⟩ : ∃ l, lev o = l := ⟨_, rfl⟩
  have HL := Lib.hid hlv
  obtain ⟨s, hsj⟩ : ∃ s, jt P = s := ⟨_, rfl⟩
  have HJ := Lib.hid hsj
  rw [hn] at hl
  rw [hsj] at hs
  rw [hn, hlv, hsj]
  clear hn hlv hsj
  by_cases hc : l < nn
  · have HE := Lib.hid (show (Value.agg #[.string ((⟨#[40, 32]⟩ : ByteArray) ++ s ++ ⟨#[32, 41]⟩), .int .i64 ((n : Int) + 2), .int .i64 ((dp : Int) + 1)]) = .agg #[.string (jt (wrapT l nn P)), .int .i64 ((wrapT l nn P).length : Nat), .int .i64 ((wrapD l nn dp : Nat) : Int)] by
      rw [show wrapT l nn P = mkT 3 :: (P ++ [mkT 4]) from if_pos hc, show wrapD l nn dp = dp + 1 from if_pos hc, ← jt_bracket hP, HJ.out]
      have : ((mkT 3 :: (P ++ [mkT 4])).length : Int) = (n : Int) + 2 := by simp [← HN.out]; omega
      rw [this]
      rfl)
    go_enter Tryd.func59, Tryd.ntmps59
    go_wp2_with fail
    refine (refLevel_any o h1 h2 _).mono ?_
    rw [HL.out]
    rintro e w1 ⟨rfl, rfl⟩
    go_wp2_with fail
    refine bodyPost_ret (v := .agg #[.string ((⟨#[40, 32]⟩ : ByteArray) ++ s ++ ⟨#[32, 41]⟩), .int .i64 ((n : Int) + 2), .int .i64 ((dp : Int) + 1)]) ?_ rfl ?_
    · simp [results, Tryd.results59, go_sem]
    · exact ⟨by rw [HE.out], bnew (bnew (Below.refl _ _) _) _⟩
  · have HE := Lib.hid (show (Value.agg #[.string s, .int .i64 (n : Int), .int .i64 (dp : Int)]) = .agg #[.string (jt (wrapT l nn P)), .int .i64 ((wrapT l nn P).length : Nat), .int .i64 ((wrapD l nn dp : Nat) : Int)] by
      rw [show wrapT l nn P = P from if_neg hc, show wrapD l nn dp = dp from if_neg hc, HJ.out, HN.out])
    go_enter Tryd.func59, Tryd.ntmps59
    go_wp2_with fail
    refine (refLevel_any o h1 h2 _).mono ?_
    rw [HL.out]
    rintro e w1 ⟨rfl, rfl⟩
    go_wp2_with fail
    refine bodyPost_ret (v := .agg #[.string s, .int .i64 (n : Int), .int .i64 (dp : Int)]) ?_ rfl ?_
    · simp [results, Tryd.results59, go_sem]
    · exact ⟨by rw [HE.out], bnew (bnew (Below.refl _ _) _) _⟩
end Go.Proofs.YtfcdkadblagijaaDoor

/-
  The walks of the reference's leaf, one and two.
-/
import Derived.Test.YtfcdkadblagijaaDoorFields
import Derived.Test.YtfcdkadblagijaaDoorNameRef
set_option linter.unusedSimpArgs false
namespace Go.Proofs.YtfcdkadblagijaaDoor
open Go.RowKit Go.ChangeShapes Go.WideShapes Go.ChangeAt Go.Deep Go.Joins
/-- Is it a node without operands, as it should be? -/
def leafB (x : Nod) : Bool := decide (arity x.op = 0) && fieldsB x && decide (x.a = -1) && decide (x.b = -1)
theorem leaf_ops {x : Nod} (h : ¬ (x.a = -1 ∧ x.b = -1)) : leafB x = false := by
  unfold leafB
  by_cases h1 : x.a = -1
  · have h2 : ¬ x.b = -1 := fun h2 => h ⟨h1, h2⟩
    simp [h2]
  · simp [h1]
theorem leaf_none {x : Nod} (h : arity x.op ≠ 0) : leafB x = false := by simp [leafB, h]
theorem arity_high {o : Int} (h : 11 < o) : arity o ≠ 0 := by
  unfold arity
  rw [if_neg (by omega)]
  split
  · omega
  · split <;> omega
theorem arity_low {o : Int} (h : o < 1) : arity o ≠ 0 := by rw [arity_none (Or.inl h)]; omega
set_option maxRecDepth 100000 in
theorem one5_any (op : Int) (w : World) : Calls Tryd.prog 40 #[.int .i64 op] w fun e w' => e = .returned (.bool (decide (arity op = 1))) ∧ w' = w := by
  by_cases h1 : op = 12
  · subst h1
    go_enter Tryd.func40, Tryd.ntmps40
    go_wp2_with fail
    go_ret
    exact ⟨rfl, rfl⟩
  · by_cases h2 : op = 13
    · subst h2
      go_enter Tryd.func40, Tryd.ntmps40
      go_wp2_with fail
      go_ret
      exact ⟨rfl, rfl⟩
    · have h3 : arity op ≠ 1 := by
        unfold arity
        split
        · omega
        · split
          · omega
          · split <;> omega
      have HE := Lib.hid (show decide (arity op = 1) = false from decide_eq_false h3)
      have q1 : (op == 12) = false := by rw [beq_eq_false_iff_ne]; exact h1
      have q2 : (op == 13) = false := by rw [beq_eq_false_iff_ne]; exact h2
      clear h3
      go_enter Tryd.func40, Tryd.ntmps40
      go_wp2_with fail
      go_ret
      exact ⟨by rw [HE.out]; rfl, rfl⟩
set_option maxRecDepth 100000 in
theorem two5_any (op : Int) (w : World) : Calls Tryd.prog 41 #[.int .i64 op] w fun e w' => e = .returned (.bool (decide (arity op = 2))) ∧ w' = w := by
  by_cases h1 : 14 ≤ op
  · by_cases h2 : op ≤ 26
    · have HE := Lib.hid (show decide (arity op = 2) = true from decide_eq_true (arity_two h1 h2))
      go_enter Tryd.func41, Tryd.ntmps41
      go_wp2_with fail
      go_ret
      exact ⟨by rw [HE.out]; simp [h2], rfl⟩
    · have h3 : arity op ≠ 2 := by rw [arity_none (Or.inr (by omega))]; omega
      have HE := Lib.hid (show decide (arity op = 2) = false from decide_eq_false h3)
      have h2' : 26 < op := by omega
      clear h3
      go_enter Tryd.func41, Tryd.ntmps41
      go_wp2_with fail
      go_ret
      exact ⟨by rw [HE.out]; simp [h2], rfl⟩
  · have h3 : arity op ≠ 2 := by
      unfold arity
      split
      · omega
      · split
        · omega
        · split <;> omega
    have HE := Lib.hid (show decide (arity op = 2) = false from decide_eq_false h3)
    have h1' : op < 14 := by omega
    clear h3
    go_enter Tryd.func41, Tryd.ntmps41
    go_wp2_with fail
    go_ret
    exact ⟨by rw [HE.out]; rfl, rfl⟩
set_option maxRecDepth 100000 in
set_option maxHeartbeats 4000000 in
theorem leaf5_any (x : Nod) (w : World) {tt : TypeId} {fr : Nat × Nat} (hkw : w.heap[2]? = some (.cells kwArr tt fr)) :
    Calls Tryd.prog 39 #[.agg (nodArr x)] w fun e w' => e = .returned (.bool (leafB x)) ∧ Below w.heap.size w w' := by
  obtain ⟨op, nn, vr, at_, a, b⟩ := x
  show Calls _ _ #[.agg #[.int .i64 op, .int .i64 nn, .string vr, .string at_, .int .i64 a, .int .i64 b]] w _
  have HK := Lib.hid hkw
  have HB := bnew (Below.refl w.heap.size w) (.cells #[.int .i64 op, .int .i64 nn, .string vr, .string at_, .int .i64 a, .int .i64 b] 44)
  clear hkw
  by_cases hab : a = -1 ∧ b = -1
  · obtain ⟨rfl, rfl⟩ := hab
    have hc : op = 1 ∨ op = 2 ∨ op = 3 ∨ op = 4 ∨ op = 5 ∨ op = 6 ∨ op = 7 ∨ op = 8 ∨ op = 9 ∨ op = 10 ∨ op = 11 ∨ op < 1 ∨ 11 < op := by omega
    rcases hc with rfl | rfl | rfl | rfl | rfl | rfl | rfl | rfl | rfl | rfl | rfl | h1 | h1
    · go_enter Tryd.func39, Tryd.ntmps39
      go_wp2_with fail
      all_goals go_ret
      all_goals refine ⟨ret_bool ?_, HB⟩
      all_goals (go_light; simp_all [leafB, arity, fieldsB, numB, varB, attB] <;> (try intros) <;> (try omega))
    · by_cases hn : nn = 0
      · subst hn
        go_enter Tryd.func39, Tryd.ntmps39
        go_wp2_with fail
        all_goals go_ret
        all_goals refine ⟨ret_bool ?_, HB⟩
        all_goals (go_light; simp_all [leafB, arity, fieldsB, numB, varB, attB])
      · have hn' : (nn == 0) = false := by rw [beq_eq_false_iff_ne]; exact hn
        have HN := Lib.hid hn
        clear hn
        go_enter Tryd.func39, Tryd.ntmps39
        go_wp2_with fail
        go_ret
        exact ⟨ret_bool (by simp [leafB, fieldsB, numB, HN.out]), HB⟩
    · by_cases hn : nn = 0
      · subst hn
        go_enter Tryd.func39, Tryd.ntmps39
        go_wp2_with fail
        all_goals go_ret
        all_goals refine ⟨ret_bool ?_, HB⟩
        all_goals (go_light; simp_all [leafB, arity, fieldsB, numB, varB, attB])
      · have hn' : (nn == 0) = false := by rw [beq_eq_false_iff_ne]; exact hn
        have HN := Lib.hid hn
        clear hn
        go_enter Tryd.func39, Tryd.ntmps39
        go_wp2_with fail
        go_ret
        exact ⟨ret_bool (by simp [leafB, fieldsB, numB, HN.out]), HB⟩
    · by_cases hn : nn = 0
      · subst hn
        cases hv : nameB vr
        all_goals
          have HV := Lib.hid hv
          clear hv
          go_enter Tryd.func39, Tryd.ntmps39
          go_wp2_with fail
          refine (refIsName_any vr _ (block_below HK.out HB)).mono ?_
          rintro e w3 ⟨rfl, rfl⟩
          rw [HV.out]
          go_wp2_with fail
        · go_ret
          exact ⟨ret_bool (by simp [leafB, fieldsB, numB, varB, attB, HV.out]), HB⟩
        · refine (refIsName_any at_ _ (block_below HK.out HB)).mono ?_
          rintro e w4 ⟨rfl, rfl⟩
          go_wp2_with fail
          go_ret
          exact ⟨ret_bool (by simp [leafB, arity, fieldsB, numB, varB, attB, HV.out]), HB⟩
      · have hn' : (nn == 0) = false := by rw [beq_eq_false_iff_ne]; exact hn
        have HN := Lib.hid hn
        clear hn
        go_enter Tryd.func39, Tryd.ntmps39
        go_wp2_with fail
        go_ret
        exact ⟨ret_bool (by simp [leafB, fieldsB, numB, HN.out]), HB⟩
    · by_cases hn : nn = 0
      · subst hn
        cases hv : nameB vr
        all_goals
          have HV := Lib.hid hv
          clear hv
          go_enter Tryd.func39, Tryd.ntmps39
          go_wp2_with fail
          refine (refIsName_any vr _ (block_below HK.out HB)).mono ?_
          rintro e w3 ⟨rfl, rfl⟩
          rw [HV.out]
          go_wp2_with fail
        · go_ret
          exact ⟨ret_bool (by simp [leafB, fieldsB, numB, varB, attB, HV.out]), HB⟩
        · go_ret
          exact ⟨ret_bool (by simp [leafB, arity, fieldsB, numB, varB, attB, HV.out]), HB⟩
      · have hn' : (nn == 0) = false := by rw [beq_eq_false_iff_ne]; exact hn
        have HN := Lib.hid hn
        clear hn
        go_enter Tryd.func39, Tryd.ntmps39
        go_wp2_with fail
        go_ret
        exact ⟨ret_bool (by simp [leafB, fieldsB, numB, HN.out]), HB⟩
    · by_cases hn : nn = 0
      · subst hn
        cases hv : nameB vr
        all_goals
          have HV := Lib.hid hv
          clear hv
          go_enter Tryd.func39, Tryd.ntmps39
          go_wp2_with fail
          refine (refIsName_any vr _ (block_below HK.out HB)).mono ?_
          rintro e w3 ⟨rfl, rfl⟩
          rw [HV.out]
          go_wp2_with fail
        · go_ret
          exact ⟨ret_bool (by simp [leafB, fieldsB, numB, varB, attB, HV.out]), HB⟩
        · refine (refIsName_any at_ _ (block_below HK.out HB)).mono ?_
          rintro e w4 ⟨rfl, rfl⟩
          go_wp2_with fail
          go_ret
          exact ⟨ret_bool (by simp [leafB, arity, fieldsB, numB, varB, attB, HV.out]), HB⟩
      · have hn' : (nn == 0) = false := by rw [beq_eq_false_iff_ne]; exact hn
        have HN := Lib.hid hn
        clear hn
        go_enter Tryd.func39, Tryd.ntmps39
        go_wp2_with fail
        go_ret
        exact ⟨ret_bool (by simp [leafB, fieldsB, numB, HN.out]), HB⟩
    · by_cases hn : nn = 0
      · subst hn
        cases hv : nameB vr
        all_goals
          have HV := Lib.hid hv
          clear hv
          go_enter Tryd.func39, Tryd.ntmps39
          go_wp2_with fail
          refine (refIsName_any vr _ (block_below HK.out HB)).mono ?_
          rintro e w3 ⟨rfl, rfl⟩
          rw [HV.out]
          go_wp2_with fail
        · go_ret
          exact ⟨ret_bool (by simp [leafB, fieldsB, numB, varB, attB, HV.out]), HB⟩
        · refine (refIsName_any at_ _ (block_below HK.out HB)).mono ?_
          rintro e w4 ⟨rfl, rfl⟩
          go_wp2_with fail
          go_ret
          exact ⟨ret_bool (by simp [leafB, arity, fieldsB, numB, varB, attB, HV.out]), HB⟩
      · have hn' : (nn == 0) = false := by rw [beq_eq_false_iff_ne]; exact hn
        have HN := Lib.hid hn
        clear hn
        go_enter Tryd.func39, Tryd.ntmps39
        go_wp2_with fail
        go_ret
        exact ⟨ret_bool (by simp [leafB, fieldsB, numB, HN.out]), HB⟩
    · by_cases hn : nn = 0
      · subst hn
        cases hv : nameB vr
        all_goals
          have HV := Lib.hid hv
          clear hv
          go_enter Tryd.func39, Tryd.ntmps39
          go_wp2_with fail
          refine (refIsName_any vr _ (block_below HK.out HB)).mono ?_
          rintro e w3 ⟨rfl, rfl⟩
          rw [HV.out]
          go_wp2_with fail
        · go_ret
          exact ⟨ret_bool (by simp [leafB, fieldsB, numB, varB, attB, HV.out]), HB⟩
        · refine (refIsName_any at_ _ (block_below HK.out HB)).mono ?_
          rintro e w4 ⟨rfl, rfl⟩
          go_wp2_with fail
          go_ret
          exact ⟨ret_bool (by simp [leafB, arity, fieldsB, numB, varB, attB, HV.out]), HB⟩
      · have hn' : (nn == 0) = false := by rw [beq_eq_false_iff_ne]; exact hn
        have HN := Lib.hid hn
        clear hn
        go_enter Tryd.func39, Tryd.ntmps39
        go_wp2_with fail
        go_ret
        exact ⟨ret_bool (by simp [leafB, fieldsB, numB, HN.out]), HB⟩
    · by_cases hn : nn = 0
      · subst hn
        cases hv : nameB vr
        all_goals
          have HV := Lib.hid hv
          clear hv
          go_enter Tryd.func39, Tryd.ntmps39
          go_wp2_with fail
          refine (refIsName_any vr _ (block_below HK.out HB)).mono ?_
          rintro e w3 ⟨rfl, rfl⟩
          rw [HV.out]
          go_wp2_with fail
        · go_ret
          exact ⟨ret_bool (by simp [leafB, fieldsB, numB, varB, attB, HV.out]), HB⟩
        · refine (refIsName_any at_ _ (block_below HK.out HB)).mono ?_
          rintro e w4 ⟨rfl, rfl⟩
          go_wp2_with fail
          go_ret
          exact ⟨ret_bool (by simp [leafB, arity, fieldsB, numB, varB, attB, HV.out]), HB⟩
      · have hn' : (nn == 0) = false := by rw [beq_eq_false_iff_ne]; exact hn
        have HN := Lib.hid hn
        clear hn
        go_enter Tryd.func39, Tryd.ntmps39
        go_wp2_with fail
        go_ret
        exact ⟨ret_bool (by simp [leafB, fieldsB, numB, HN.out]), HB⟩
    · by_cases hn : nn = 0
      · subst hn
        cases hv : nameB vr
        all_goals
          have HV := Lib.hid hv
          clear hv
          go_enter Tryd.func39, Tryd.ntmps39
          go_wp2_with fail
          refine (refIsName_any vr _ (block_below HK.out HB)).mono ?_
          rintro e w3 ⟨rfl, rfl⟩
          rw [HV.out]
          go_wp2_with fail
        · go_ret
          exact ⟨ret_bool (by simp [leafB, fieldsB, numB, varB, attB, HV.out]), HB⟩
        · refine (refIsName_any at_ _ (block_below HK.out HB)).mono ?_
          rintro e w4 ⟨rfl, rfl⟩
          go_wp2_with fail
          go_ret
          exact ⟨ret_bool (by simp [leafB, arity, fieldsB, numB, varB, attB, HV.out]), HB⟩
      · have hn' : (nn == 0) = false := by rw [beq_eq_false_iff_ne]; exact hn
        have HN := Lib.hid hn
        clear hn
        go_enter Tryd.func39, Tryd.ntmps39
        go_wp2_with fail
        go_ret
        exact ⟨ret_bool (by simp [leafB, fieldsB, numB, HN.out]), HB⟩
    · by_cases hn : nn = 0
      · subst hn
        cases hv : nameB vr
        all_goals
          have HV := Lib.hid hv
          clear hv
          go_enter Tryd.func39, Tryd.ntmps39
          go_wp2_with fail
          refine (refIsName_any vr _ (block_below HK.out HB)).mono ?_
          rintro e w3 ⟨rfl, rfl⟩
          rw [HV.out]
          go_wp2_with fail
        · go_ret
          exact ⟨ret_bool (by simp [leafB, fieldsB, numB, varB, attB, HV.out]), HB⟩
        · refine (refIsName_any at_ _ (block_below HK.out HB)).mono ?_
          rintro e w4 ⟨rfl, rfl⟩
          go_wp2_with fail
          go_ret
          exact ⟨ret_bool (by simp [leafB, arity, fieldsB, numB, varB, attB, HV.out]), HB⟩
      · have hn' : (nn == 0) = false := by rw [beq_eq_false_iff_ne]; exact hn
        have HN := Lib.hid hn
        clear hn
        go_enter Tryd.func39, Tryd.ntmps39
        go_wp2_with fail
        go_ret
        exact ⟨ret_bool (by simp [leafB, fieldsB, numB, HN.out]), HB⟩
    · have HE := Lib.hid (leaf_none (x := ⟨op, nn, vr, at_, -1, -1⟩) (arity_low h1))
      have q1 : (op == 1) = false := by rw [beq_eq_false_iff_ne]; omega
      have q2 : (op == 2) = false := by rw [beq_eq_false_iff_ne]; omega
      have q3 : (op == 3) = false := by rw [beq_eq_false_iff_ne]; omega
      have q4 : (op == 4) = false := by rw [beq_eq_false_iff_ne]; omega
      have q5 : (op == 5) = false := by rw [beq_eq_false_iff_ne]; omega
      have q6 : (op == 6) = false := by rw [beq_eq_false_iff_ne]; omega
      have q7 : (op == 7) = false := by rw [beq_eq_false_iff_ne]; omega
      have q8 : (op == 8) = false := by rw [beq_eq_false_iff_ne]; omega
      have q9 : (op == 9) = false := by rw [beq_eq_false_iff_ne]; omega
      have q10 : (op == 10) = false := by rw [beq_eq_false_iff_ne]; omega
      have q11 : (op == 11) = false := by rw [beq_eq_false_iff_ne]; omega
      go_enter Tryd.func39, Tryd.ntmps39
      go_wp2_with fail
      go_ret
      exact ⟨by rw [HE.out]; rfl, HB⟩
    · have HE := Lib.hid (leaf_none (x := ⟨op, nn, vr, at_, -1, -1⟩) (arity_high h1))
      have q1 : (op == 1) = false := by rw [beq_eq_false_iff_ne]; omega
      have q2 : (op == 2) = false := by rw [beq_eq_false_iff_ne]; omega
      have q3 : (op == 3) = false := by rw [beq_eq_false_iff_ne]; omega
      have q4 : (op == 4) = false := by rw [beq_eq_false_iff_ne]; omega
      have q5 : (op == 5) = false := by rw [beq_eq_false_iff_ne]; omega
      have q6 : (op == 6) = false := by rw [beq_eq_false_iff_ne]; omega
      have q7 : (op == 7) = false := by rw [beq_eq_false_iff_ne]; omega
      have q8 : (op == 8) = false := by rw [beq_eq_false_iff_ne]; omega
      have q9 : (op == 9) = false := by rw [beq_eq_false_iff_ne]; omega
      have q10 : (op == 10) = false := by rw [beq_eq_false_iff_ne]; omega
      have q11 : (op == 11) = false := by rw [beq_eq_false_iff_ne]; omega
      go_enter Tryd.func39, Tryd.ntmps39
      go_wp2_with fail
      go_ret
      exact ⟨by rw [HE.out]; rfl, HB⟩
  · have HE := Lib.hid (leaf_ops (x := ⟨op, nn, vr, at_, a, b⟩) hab)
    by_cases h1 : a = -1
    · have h2 : (b != -1) = true := by rw [bne_iff_ne]; exact fun h2 => hab ⟨h1, h2⟩
      subst h1
      clear hab
      go_enter Tryd.func39, Tryd.ntmps39
      go_wp2_with fail
      go_ret
      exact ⟨by rw [HE.out]; rfl, HB⟩
    · have h1 : (a != -1) = true := by rw [bne_iff_ne]; exact h1
      clear hab
      go_enter Tryd.func39, Tryd.ntmps39
      go_wp2_with fail
      go_ret
      exact ⟨by rw [HE.out]; rfl, HB⟩
end Go.Proofs.YtfcdkadblagijaaDoor

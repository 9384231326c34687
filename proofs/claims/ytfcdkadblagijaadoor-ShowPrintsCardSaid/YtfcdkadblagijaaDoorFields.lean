/-
  The walks of show.operands and show.fields.
-/
import Derived.Test.YtfcdkadblagijaaDoorShape
import Derived.Test.YtfcdkadblagijaaDoorNameWalk
import Derived.Test.YtfcdkadblagijaaDoorIntC
import Derived.Test.YtfcdkadblagijaaDoorBlk
import Derived.OwnWalk
import Derived.Handy
import Derived.Deep.QuietTactic
import Derived.BigQuiet
import Derived.Deep.Light
set_option linter.unusedSimpArgs false
namespace Go.Proofs.YtfcdkadblagijaaDoor
open Go.RowKit Go.ChangeShapes Go.WideShapes Go.ChangeAt Go.Deep Go.Joins
theorem arity_zero {o : Int} (h : 1 ≤ o) (h2 : o ≤ 11) : arity o = 0 := if_pos ⟨h, h2⟩
theorem arity_two {o : Int} (h : 14 ≤ o) (h2 : o ≤ 26) : arity o = 2 := by
  unfold arity
  rw [if_neg (by omega), if_neg (by omega), if_pos ⟨h, h2⟩]
theorem arity_none {o : Int} (h : o < 1 ∨ 26 < o) : arity o = -1 := by
  unfold arity
  rw [if_neg (by omega), if_neg (by omega), if_neg (by omega)]
set_option maxRecDepth 100000 in
theorem operands_any (o : Int) (w : World) : Calls Tryd.prog 18 #[.int .i64 o] w fun e w' => e = .returned (.int .i64 (arity o)) ∧ w' = w := by
  have hc : (1 ≤ o ∧ o ≤ 11) ∨ o = 12 ∨ o = 13 ∨ (14 ≤ o ∧ o ≤ 26) ∨ o < 1 ∨ 26 < o := by omega
  rcases hc with ⟨h1, h2⟩ | rfl | rfl | ⟨h1, h2⟩ | h1 | h1
  · have HE := Lib.hid (arity_zero h1 h2)
    go_enter Tryd.func18, Tryd.ntmps18
    go_wp2_with fail
    go_ret
    exact ⟨by rw [HE.out]; rfl, rfl⟩
  · go_enter Tryd.func18, Tryd.ntmps18
    go_wp2_with fail
    go_ret
    exact ⟨rfl, rfl⟩
  · go_enter Tryd.func18, Tryd.ntmps18
    go_wp2_with fail
    go_ret
    exact ⟨rfl, rfl⟩
  · have HE := Lib.hid (arity_two h1 h2)
    have q1 : (11 : Int) < o := by omega
    have q2 : (o == 12) = false := by rw [beq_eq_false_iff_ne]; omega
    have q3 : (o == 13) = false := by rw [beq_eq_false_iff_ne]; omega
    go_enter Tryd.func18, Tryd.ntmps18
    go_wp2_with fail
    go_ret
    exact ⟨by rw [HE.out]; rfl, rfl⟩
  · have HE := Lib.hid (arity_none (Or.inl h1))
    have q2 : (o == 12) = false := by rw [beq_eq_false_iff_ne]; omega
    have q3 : (o == 13) = false := by rw [beq_eq_false_iff_ne]; omega
    have q4 : o < 14 := by omega
    go_enter Tryd.func18, Tryd.ntmps18
    go_wp2_with fail
    go_ret
    exact ⟨by rw [HE.out]; rfl, rfl⟩
  · have HE := Lib.hid (arity_none (Or.inr h1))
    have q1 : (11 : Int) < o := by omega
    have q2 : (o == 12) = false := by rw [beq_eq_false_iff_ne]; omega
    have q3 : (o == 13) = false := by rw [beq_eq_false_iff_ne]; omega
    go_enter Tryd.func18, Tryd.ntmps18
    go_wp2_with fail
    go_ret
    exact ⟨by rw [HE.out]; rfl, rfl⟩
theorem fields_bare {op nn a b : Int} {vr at_ : ByteArray} (h : op < 1 ∨ 11 < op) : fieldsB ⟨op, nn, vr, at_, a, b⟩ = (decide (nn = 0) && vr.toList.isEmpty && at_.toList.isEmpty) := by
  have h1 : ¬ op = 1 := by omega
  have h2 : ¬ (4 ≤ op ∧ op ≤ 11) := by omega
  have h3 : ¬ (4 ≤ op ∧ op ≤ 11 ∧ op ≠ 5) := by omega
  simp only [fieldsB, numB, varB, attB, if_neg h1, if_neg h2, if_neg h3]
set_option maxRecDepth 100000 in
set_option maxHeartbeats 2000000 in
theorem fields_any (x : Nod) (w : World) {tt : TypeId} {fr : Nat × Nat} (hkw : w.heap[2]? = some (.cells kwArr tt fr)) :
    Calls Tryd.prog 19 #[.agg (nodArr x)] w fun e w' => e = .returned (.bool (fieldsB x)) ∧ Below w.heap.size w w' := by
  obtain ⟨op, nn, vr, at_, a, b⟩ := x
  show Calls _ _ #[.agg #[.int .i64 op, .int .i64 nn, .string vr, .string at_, .int .i64 a, .int .i64 b]] w _
  have HK := Lib.hid hkw
  clear hkw
  have hc : op = 1 ∨ op = 2 ∨ op = 3 ∨ op = 4 ∨ op = 5 ∨ op = 6 ∨ op = 7 ∨ op = 8 ∨ op = 9 ∨ op = 10 ∨ op = 11 ∨ op < 1 ∨ 11 < op := by omega
  have HB := bnew (Below.refl w.heap.size w) (.cells #[.int .i64 op, .int .i64 nn, .string vr, .string at_, .int .i64 a, .int .i64 b] 44)
  rcases hc with rfl | rfl | rfl | rfl | rfl | rfl | rfl | rfl | rfl | rfl | rfl | h1 | h1
  · go_enter Tryd.func19, Tryd.ntmps19
    go_wp2_with fail
    go_quiet (fail)
    go_wp2_with fail
    all_goals go_ret
    all_goals refine ⟨ret_bool ?_, bdrewN HB nq⟩
    all_goals (go_light; simp_all [fieldsB, numB, varB, attB] <;> (try intros) <;> (try omega))
  · go_enter Tryd.func19, Tryd.ntmps19
    go_wp2_with fail
    go_quiet (fail)
    go_wp2_with fail
    all_goals go_ret
    all_goals refine ⟨ret_bool ?_, bdrewN HB nq⟩
    all_goals (go_light; simp_all [fieldsB, numB, varB, attB] <;> (try intros) <;> (try omega))
  · go_enter Tryd.func19, Tryd.ntmps19
    go_wp2_with fail
    go_quiet (fail)
    go_wp2_with fail
    all_goals go_ret
    all_goals refine ⟨ret_bool ?_, bdrewN HB nq⟩
    all_goals (go_light; simp_all [fieldsB, numB, varB, attB] <;> (try intros) <;> (try omega))
  · by_cases hn : nn = 0
    · subst hn
      cases hv : nameB vr
      · have HV := Lib.hid hv
        clear hv
        go_enter Tryd.func19, Tryd.ntmps19
        go_wp2_with fail
        go_quiet (fail)
        go_wp2_with fail
        refine (isName_any vr _ (block_below HK.out (bdrewN HB nq))).mono ?_
        rintro e w3 ⟨rfl, hb3⟩
        rw [HV.out]
        go_wp2_with fail
        go_ret
        exact ⟨ret_bool (by simp [fieldsB, numB, varB, attB, HV.out]), bcall (bdrewN HB nq) hb3⟩
      · have HV := Lib.hid hv
        clear hv
        go_enter Tryd.func19, Tryd.ntmps19
        go_wp2_with fail
        go_quiet (fail)
        go_wp2_with fail
        refine (isName_any vr _ (block_below HK.out (bdrewN HB nq))).mono ?_
        rintro e w3 ⟨rfl, hb3⟩
        rw [HV.out]
        have hb3' := bcall (bdrewN HB nq) hb3
        have x5 := blk_cell (blk_below (w := (w.alloc (.cells #[.int .i64 4, .int .i64 0, .string vr, .string at_, .int .i64 a, .int .i64 b] 44)).drewN nq) (blk_new w #[.int .i64 4, .int .i64 0, .string vr, .string at_, .int .i64 a, .int .i64 b] 44) hb3) (j := 3) rfl
        go_wp2_with fail
        refine (isName_any at_ _ (block_below HK.out hb3')).mono ?_
        rintro e w4 ⟨rfl, hb4⟩
        have x6 := blk_cell (blk_below (blk_below (w := (w.alloc (.cells #[.int .i64 4, .int .i64 0, .string vr, .string at_, .int .i64 a, .int .i64 b] 44)).drewN nq) (blk_new w #[.int .i64 4, .int .i64 0, .string vr, .string at_, .int .i64 a, .int .i64 b] 44) hb3) hb4) (j := 3) rfl
        cases ha : nameB at_
        all_goals
          have HA := Lib.hid ha
          clear ha
          try rw [HA.out]
          go_wp2_with fail
          go_ret
          exact ⟨ret_bool (by simp [fieldsB, numB, varB, attB, HV.out, HA.out]), bcall hb3' hb4⟩
    · have hn' : (nn != 0) = true := by rw [bne_iff_ne]; exact hn
      have HN := Lib.hid hn
      clear hn
      go_enter Tryd.func19, Tryd.ntmps19
      go_wp2_with fail
      go_quiet (fail)
      go_wp2_with fail
      go_ret
      exact ⟨ret_bool (by simp [fieldsB, numB, HN.out]), bdrewN HB nq⟩
  · by_cases hn : nn = 0
    · subst hn
      cases hv : nameB vr
      · have HV := Lib.hid hv
        clear hv
        go_enter Tryd.func19, Tryd.ntmps19
        go_wp2_with fail
        go_quiet (fail)
        go_wp2_with fail
        refine (isName_any vr _ (block_below HK.out (bdrewN HB nq))).mono ?_
        rintro e w3 ⟨rfl, hb3⟩
        rw [HV.out]
        go_wp2_with fail
        go_ret
        exact ⟨ret_bool (by simp [fieldsB, numB, varB, attB, HV.out]), bcall (bdrewN HB nq) hb3⟩
      · have HV := Lib.hid hv
        clear hv
        go_enter Tryd.func19, Tryd.ntmps19
        go_wp2_with fail
        go_quiet (fail)
        go_wp2_with fail
        refine (isName_any vr _ (block_below HK.out (bdrewN HB nq))).mono ?_
        rintro e w3 ⟨rfl, hb3⟩
        rw [HV.out]
        have hb3' := bcall (bdrewN HB nq) hb3
        have x5 := blk_cell (blk_below (w := (w.alloc (.cells #[.int .i64 5, .int .i64 0, .string vr, .string at_, .int .i64 a, .int .i64 b] 44)).drewN nq) (blk_new w #[.int .i64 5, .int .i64 0, .string vr, .string at_, .int .i64 a, .int .i64 b] 44) hb3) (j := 3) rfl
        go_wp2_with fail
        all_goals go_ret
        all_goals exact ⟨ret_bool (by simp [fieldsB, numB, varB, attB, HV.out]), hb3'⟩
    · have hn' : (nn != 0) = true := by rw [bne_iff_ne]; exact hn
      have HN := Lib.hid hn
      clear hn
      go_enter Tryd.func19, Tryd.ntmps19
      go_wp2_with fail
      go_quiet (fail)
      go_wp2_with fail
      go_ret
      exact ⟨ret_bool (by simp [fieldsB, numB, HN.out]), bdrewN HB nq⟩
  · by_cases hn : nn = 0
    · subst hn
      cases hv : nameB vr
      · have HV := Lib.hid hv
        clear hv
        go_enter Tryd.func19, Tryd.ntmps19
        go_wp2_with fail
        go_quiet (fail)
        go_wp2_with fail
        refine (isName_any vr _ (block_below HK.out (bdrewN HB nq))).mono ?_
        rintro e w3 ⟨rfl, hb3⟩
        rw [HV.out]
        go_wp2_with fail
        go_ret
        exact ⟨ret_bool (by simp [fieldsB, numB, varB, attB, HV.out]), bcall (bdrewN HB nq) hb3⟩
      · have HV := Lib.hid hv
        clear hv
        go_enter Tryd.func19, Tryd.ntmps19
        go_wp2_with fail
        go_quiet (fail)
        go_wp2_with fail
        refine (isName_any vr _ (block_below HK.out (bdrewN HB nq))).mono ?_
        rintro e w3 ⟨rfl, hb3⟩
        rw [HV.out]
        have hb3' := bcall (bdrewN HB nq) hb3
        have x5 := blk_cell (blk_below (w := (w.alloc (.cells #[.int .i64 6, .int .i64 0, .string vr, .string at_, .int .i64 a, .int .i64 b] 44)).drewN nq) (blk_new w #[.int .i64 6, .int .i64 0, .string vr, .string at_, .int .i64 a, .int .i64 b] 44) hb3) (j := 3) rfl
        go_wp2_with fail
        refine (isName_any at_ _ (block_below HK.out hb3')).mono ?_
        rintro e w4 ⟨rfl, hb4⟩
        have x6 := blk_cell (blk_below (blk_below (w := (w.alloc (.cells #[.int .i64 6, .int .i64 0, .string vr, .string at_, .int .i64 a, .int .i64 b] 44)).drewN nq) (blk_new w #[.int .i64 6, .int .i64 0, .string vr, .string at_, .int .i64 a, .int .i64 b] 44) hb3) hb4) (j := 3) rfl
        cases ha : nameB at_
        all_goals
          have HA := Lib.hid ha
          clear ha
          try rw [HA.out]
          go_wp2_with fail
          go_ret
          exact ⟨ret_bool (by simp [fieldsB, numB, varB, attB, HV.out, HA.out]), bcall hb3' hb4⟩
    · have hn' : (nn != 0) = true := by rw [bne_iff_ne]; exact hn
      have HN := Lib.hid hn
      clear hn
      go_enter Tryd.func19, Tryd.ntmps19
      go_wp2_with fail
      go_quiet (fail)
      go_wp2_with fail
      go_ret
      exact ⟨ret_bool (by simp [fieldsB, numB, HN.out]), bdrewN HB nq⟩
  · by_cases hn : nn = 0
    · subst hn
      cases hv : nameB vr
      · have HV := Lib.hid hv
        clear hv
        go_enter Tryd.func19, Tryd.ntmps19
        go_wp2_with fail
        go_quiet (fail)
        go_wp2_with fail
        refine (isName_any vr _ (block_below HK.out (bdrewN HB nq))).mono ?_
        rintro e w3 ⟨rfl, hb3⟩
        rw [HV.out]
        go_wp2_with fail
        go_ret
        exact ⟨ret_bool (by simp [fieldsB, numB, varB, attB, HV.out]), bcall (bdrewN HB nq) hb3⟩
      · have HV := Lib.hid hv
        clear hv
        go_enter Tryd.func19, Tryd.ntmps19
        go_wp2_with fail
        go_quiet (fail)
        go_wp2_with fail
        refine (isName_any vr _ (block_below HK.out (bdrewN HB nq))).mono ?_
        rintro e w3 ⟨rfl, hb3⟩
        rw [HV.out]
        have hb3' := bcall (bdrewN HB nq) hb3
        have x5 := blk_cell (blk_below (w := (w.alloc (.cells #[.int .i64 7, .int .i64 0, .string vr, .string at_, .int .i64 a, .int .i64 b] 44)).drewN nq) (blk_new w #[.int .i64 7, .int .i64 0, .string vr, .string at_, .int .i64 a, .int .i64 b] 44) hb3) (j := 3) rfl
        go_wp2_with fail
        refine (isName_any at_ _ (block_below HK.out hb3')).mono ?_
        rintro e w4 ⟨rfl, hb4⟩
        have x6 := blk_cell (blk_below (blk_below (w := (w.alloc (.cells #[.int .i64 7, .int .i64 0, .string vr, .string at_, .int .i64 a, .int .i64 b] 44)).drewN nq) (blk_new w #[.int .i64 7, .int .i64 0, .string vr, .string at_, .int .i64 a, .int .i64 b] 44) hb3) hb4) (j := 3) rfl
        cases ha : nameB at_
        all_goals
          have HA := Lib.hid ha
          clear ha
          try rw [HA.out]
          go_wp2_with fail
          go_ret
          exact ⟨ret_bool (by simp [fieldsB, numB, varB, attB, HV.out, HA.out]), bcall hb3' hb4⟩
    · have hn' : (nn != 0) = true := by rw [bne_iff_ne]; exact hn
      have HN := Lib.hid hn
      clear hn
      go_enter Tryd.func19, Tryd.ntmps19
      go_wp2_with fail
      go_quiet (fail)
      go_wp2_with fail
      go_ret
      exact ⟨ret_bool (by simp [fieldsB, numB, HN.out]), bdrewN HB nq⟩
  · by_cases hn : nn = 0
    · subst hn
      cases hv : nameB vr
      · have HV := Lib.hid hv
        clear hv
        go_enter Tryd.func19, Tryd.ntmps19
        go_wp2_with fail
        go_quiet (fail)
        go_wp2_with fail
        refine (isName_any vr _ (block_below HK.out (bdrewN HB nq))).mono ?_
        rintro e w3 ⟨rfl, hb3⟩
        rw [HV.out]
        go_wp2_with fail
        go_ret
        exact ⟨ret_bool (by simp [fieldsB, numB, varB, attB, HV.out]), bcall (bdrewN HB nq) hb3⟩
      · have HV := Lib.hid hv
        clear hv
        go_enter Tryd.func19, Tryd.ntmps19
        go_wp2_with fail
        go_quiet (fail)
        go_wp2_with fail
        refine (isName_any vr _ (block_below HK.out (bdrewN HB nq))).mono ?_
        rintro e w3 ⟨rfl, hb3⟩
        rw [HV.out]
        have hb3' := bcall (bdrewN HB nq) hb3
        have x5 := blk_cell (blk_below (w := (w.alloc (.cells #[.int .i64 8, .int .i64 0, .string vr, .string at_, .int .i64 a, .int .i64 b] 44)).drewN nq) (blk_new w #[.int .i64 8, .int .i64 0, .string vr, .string at_, .int .i64 a, .int .i64 b] 44) hb3) (j := 3) rfl
        go_wp2_with fail
        refine (isName_any at_ _ (block_below HK.out hb3')).mono ?_
        rintro e w4 ⟨rfl, hb4⟩
        have x6 := blk_cell (blk_below (blk_below (w := (w.alloc (.cells #[.int .i64 8, .int .i64 0, .string vr, .string at_, .int .i64 a, .int .i64 b] 44)).drewN nq) (blk_new w #[.int .i64 8, .int .i64 0, .string vr, .string at_, .int .i64 a, .int .i64 b] 44) hb3) hb4) (j := 3) rfl
        cases ha : nameB at_
        all_goals
          have HA := Lib.hid ha
          clear ha
          try rw [HA.out]
          go_wp2_with fail
          go_ret
          exact ⟨ret_bool (by simp [fieldsB, numB, varB, attB, HV.out, HA.out]), bcall hb3' hb4⟩
    · have hn' : (nn != 0) = true := by rw [bne_iff_ne]; exact hn
      have HN := Lib.hid hn
      clear hn
      go_enter Tryd.func19, Tryd.ntmps19
      go_wp2_with fail
      go_quiet (fail)
      go_wp2_with fail
      go_ret
      exact ⟨ret_bool (by simp [fieldsB, numB, HN.out]), bdrewN HB nq⟩
  · by_cases hn : nn = 0
    · subst hn
      cases hv : nameB vr
      · have HV := Lib.hid hv
        clear hv
        go_enter Tryd.func19, Tryd.ntmps19
        go_wp2_with fail
        go_quiet (fail)
        go_wp2_with fail
        refine (isName_any vr _ (block_below HK.out (bdrewN HB nq))).mono ?_
        rintro e w3 ⟨rfl, hb3⟩
        rw [HV.out]
        go_wp2_with fail
        go_ret
        exact ⟨ret_bool (by simp [fieldsB, numB, varB, attB, HV.out]), bcall (bdrewN HB nq) hb3⟩
      · have HV := Lib.hid hv
        clear hv
        go_enter Tryd.func19, Tryd.ntmps19
        go_wp2_with fail
        go_quiet (fail)
        go_wp2_with fail
        refine (isName_any vr _ (block_below HK.out (bdrewN HB nq))).mono ?_
        rintro e w3 ⟨rfl, hb3⟩
        rw [HV.out]
        have hb3' := bcall (bdrewN HB nq) hb3
        have x5 := blk_cell (blk_below (w := (w.alloc (.cells #[.int .i64 9, .int .i64 0, .string vr, .string at_, .int .i64 a, .int .i64 b] 44)).drewN nq) (blk_new w #[.int .i64 9, .int .i64 0, .string vr, .string at_, .int .i64 a, .int .i64 b] 44) hb3) (j := 3) rfl
        go_wp2_with fail
        refine (isName_any at_ _ (block_below HK.out hb3')).mono ?_
        rintro e w4 ⟨rfl, hb4⟩
        have x6 := blk_cell (blk_below (blk_below (w := (w.alloc (.cells #[.int .i64 9, .int .i64 0, .string vr, .string at_, .int .i64 a, .int .i64 b] 44)).drewN nq) (blk_new w #[.int .i64 9, .int .i64 0, .string vr, .string at_, .int .i64 a, .int .i64 b] 44) hb3) hb4) (j := 3) rfl
        cases ha : nameB at_
        all_goals
          have HA := Lib.hid ha
          clear ha
          try rw [HA.out]
          go_wp2_with fail
          go_ret
          exact ⟨ret_bool (by simp [fieldsB, numB, varB, attB, HV.out, HA.out]), bcall hb3' hb4⟩
    · have hn' : (nn != 0) = true := by rw [bne_iff_ne]; exact hn
      have HN := Lib.hid hn
      clear hn
      go_enter Tryd.func19, Tryd.ntmps19
      go_wp2_with fail
      go_quiet (fail)
      go_wp2_with fail
      go_ret
      exact ⟨ret_bool (by simp [fieldsB, numB, HN.out]), bdrewN HB nq⟩
  · by_cases hn : nn = 0
    · subst hn
      cases hv : nameB vr
      · have HV := Lib.hid hv
        clear hv
        go_enter Tryd.func19, Tryd.ntmps19
        go_wp2_with fail
        go_quiet (fail)
        go_wp2_with fail
        refine (isName_any vr _ (block_below HK.out (bdrewN HB nq))).mono ?_
        rintro e w3 ⟨rfl, hb3⟩
        rw [HV.out]
        go_wp2_with fail
        go_ret
        exact ⟨ret_bool (by simp [fieldsB, numB, varB, attB, HV.out]), bcall (bdrewN HB nq) hb3⟩
      · have HV := Lib.hid hv
        clear hv
        go_enter Tryd.func19, Tryd.ntmps19
        go_wp2_with fail
        go_quiet (fail)
        go_wp2_with fail
        refine (isName_any vr _ (block_below HK.out (bdrewN HB nq))).mono ?_
        rintro e w3 ⟨rfl, hb3⟩
        rw [HV.out]
        have hb3' := bcall (bdrewN HB nq) hb3
        have x5 := blk_cell (blk_below (w := (w.alloc (.cells #[.int .i64 10, .int .i64 0, .string vr, .string at_, .int .i64 a, .int .i64 b] 44)).drewN nq) (blk_new w #[.int .i64 10, .int .i64 0, .string vr, .string at_, .int .i64 a, .int .i64 b] 44) hb3) (j := 3) rfl
        go_wp2_with fail
        refine (isName_any at_ _ (block_below HK.out hb3')).mono ?_
        rintro e w4 ⟨rfl, hb4⟩
        have x6 := blk_cell (blk_below (blk_below (w := (w.alloc (.cells #[.int .i64 10, .int .i64 0, .string vr, .string at_, .int .i64 a, .int .i64 b] 44)).drewN nq) (blk_new w #[.int .i64 10, .int .i64 0, .string vr, .string at_, .int .i64 a, .int .i64 b] 44) hb3) hb4) (j := 3) rfl
        cases ha : nameB at_
        all_goals
          have HA := Lib.hid ha
          clear ha
          try rw [HA.out]
          go_wp2_with fail
          go_ret
          exact ⟨ret_bool (by simp [fieldsB, numB, varB, attB, HV.out, HA.out]), bcall hb3' hb4⟩
    · have hn' : (nn != 0) = true := by rw [bne_iff_ne]; exact hn
      have HN := Lib.hid hn
      clear hn
      go_enter Tryd.func19, Tryd.ntmps19
      go_wp2_with fail
      go_quiet (fail)
      go_wp2_with fail
      go_ret
      exact ⟨ret_bool (by simp [fieldsB, numB, HN.out]), bdrewN HB nq⟩
  · by_cases hn : nn = 0
    · subst hn
      cases hv : nameB vr
      · have HV := Lib.hid hv
        clear hv
        go_enter Tryd.func19, Tryd.ntmps19
        go_wp2_with fail
        go_quiet (fail)
        go_wp2_with fail
        refine (isName_any vr _ (block_below HK.out (bdrewN HB nq))).mono ?_
        rintro e w3 ⟨rfl, hb3⟩
        rw [HV.out]
        go_wp2_with fail
        go_ret
        exact ⟨ret_bool (by simp [fieldsB, numB, varB, attB, HV.out]), bcall (bdrewN HB nq) hb3⟩
      · have HV := Lib.hid hv
        clear hv
        go_enter Tryd.func19, Tryd.ntmps19
        go_wp2_with fail
        go_quiet (fail)
        go_wp2_with fail
        refine (isName_any vr _ (block_below HK.out (bdrewN HB nq))).mono ?_
        rintro e w3 ⟨rfl, hb3⟩
        rw [HV.out]
        have hb3' := bcall (bdrewN HB nq) hb3
        have x5 := blk_cell (blk_below (w := (w.alloc (.cells #[.int .i64 11, .int .i64 0, .string vr, .string at_, .int .i64 a, .int .i64 b] 44)).drewN nq) (blk_new w #[.int .i64 11, .int .i64 0, .string vr, .string at_, .int .i64 a, .int .i64 b] 44) hb3) (j := 3) rfl
        go_wp2_with fail
        refine (isName_any at_ _ (block_below HK.out hb3')).mono ?_
        rintro e w4 ⟨rfl, hb4⟩
        have x6 := blk_cell (blk_below (blk_below (w := (w.alloc (.cells #[.int .i64 11, .int .i64 0, .string vr, .string at_, .int .i64 a, .int .i64 b] 44)).drewN nq) (blk_new w #[.int .i64 11, .int .i64 0, .string vr, .string at_, .int .i64 a, .int .i64 b] 44) hb3) hb4) (j := 3) rfl
        cases ha : nameB at_
        all_goals
          have HA := Lib.hid ha
          clear ha
          try rw [HA.out]
          go_wp2_with fail
          go_ret
          exact ⟨ret_bool (by simp [fieldsB, numB, varB, attB, HV.out, HA.out]), bcall hb3' hb4⟩
    · have hn' : (nn != 0) = true := by rw [bne_iff_ne]; exact hn
      have HN := Lib.hid hn
      clear hn
      go_enter Tryd.func19, Tryd.ntmps19
      go_wp2_with fail
      go_quiet (fail)
      go_wp2_with fail
      go_ret
      exact ⟨ret_bool (by simp [fieldsB, numB, HN.out]), bdrewN HB nq⟩
  · have HE := Lib.hid (fields_bare (nn := nn) (a := a) (b := b) (vr := vr) (at_ := at_) (Or.inl h1))
    have q1 : (op == 1) = false := by rw [beq_eq_false_iff_ne]; omega
    have q2 : op < 4 := by omega
    have q3 : ¬ op = 1 := by omega
    have q4 : ¬ 4 ≤ op := by omega
    have q5 : decide (4 ≤ op) = false := by rw [decide_eq_false_iff_not]; omega
    go_enter Tryd.func19, Tryd.ntmps19
    go_wp2_with fail
    go_quiet (fail)
    go_wp2_with fail
    all_goals go_ret
    all_goals refine ⟨ret_bool ?_, bdrewN HB nq⟩
    all_goals (rw [HE.out]; go_light; simp_all)
  · have HE := Lib.hid (fields_bare (nn := nn) (a := a) (b := b) (vr := vr) (at_ := at_) (Or.inr h1))
    have q1 : (op == 1) = false := by rw [beq_eq_false_iff_ne]; omega
    have q2 : ¬ op ≤ 11 := by omega
    have q3 : ¬ op = 1 := by omega
    have q4 : 4 ≤ op := by omega
    have q5 : decide (op ≤ 11) = false := by rw [decide_eq_false_iff_not]; omega
    go_enter Tryd.func19, Tryd.ntmps19
    go_wp2_with fail
    go_quiet (fail)
    go_wp2_with fail
    all_goals go_ret
    all_goals refine ⟨ret_bool ?_, bdrewN HB nq⟩
    all_goals (rw [HE.out]; go_light; simp_all)
end Go.Proofs.YtfcdkadblagijaaDoor

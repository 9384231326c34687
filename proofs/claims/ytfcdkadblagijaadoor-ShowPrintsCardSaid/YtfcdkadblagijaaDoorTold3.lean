/-
  The reference's told, of one operand and of two.
-/
import Derived.Test.YtfcdkadblagijaaDoorTold2
set_option linter.unusedSimpArgs false
set_option linter.unusedVariables false
namespace Go.Proofs.YtfcdkadblagijaaDoor
open Go.RowKit Go.ChangeShapes Go.WideShapes Go.ChangeAt Go.Deep Go.Joins
theorem sgr_kw {j : Nat} (hj : j < 13) : (spB (mkT (sgn (14 + (j : Int))))).data.toList = sgrL.getD j [] := by
  obtain rfl | rfl | rfl | rfl | rfl | rfl | rfl | rfl | rfl | rfl | rfl | rfl | rfl : j = 0 ∨ j = 1 ∨ j = 2 ∨ j = 3 ∨ j = 4 ∨ j = 5 ∨ j = 6 ∨ j = 7 ∨ j = 8 ∨ j = 9 ∨ j = 10 ∨ j = 11 ∨ j = 12 := by omega
  all_goals rfl
theorem sgr_size {j : Nat} (hj : j < 13) : (⟨(sgrL.getD j []).toArray⟩ : ByteArray).size ≤ 5 := by
  have : ∀ j, j < 13 → (sgrL.getD j []).length ≤ 5 := by decide
  simpa [ByteArray.size] using this j hj
theorem keep3 {w : World} {rb b i : Nat} {v u0 u1 u2 : Value} (h : w.cell? ⟨b, i, none⟩ = some v) (hne : b ≠ rb) : (((w.setCell ⟨rb, 0, none⟩ u0).setCell ⟨rb, 1, none⟩ u1).setCell ⟨rb, 2, none⟩ u2).cell? ⟨b, i, none⟩ = some v := by
  have e : ∀ j, (⟨rb, j, none⟩ : Addr) ≠ ⟨b, i, none⟩ := fun j e => by
    injection e with e
    exact hne e.symm
  rw [World.cell?_setCell_other _ _ _ _ (e 2), World.cell?_setCell_other _ _ _ _ (e 1), World.cell?_setCell_other _ _ _ _ (e 0)]
  exact h
theorem wrapT_ne {l least : Int} {P : List Tk} (h : P ≠ []) : wrapT l least P ≠ [] := by
  unfold wrapT
  split
  · simp
  · exact h
set_option maxRecDepth 100000 in
set_option maxHeartbeats 4000000 in
theorem told_un (op nn a b : Int) (vr at_ : ByteArray) (h12 : op = 12 ∨ op = 13) (P : List Tk) (hP : P ≠ []) (da : Nat) (o : Int) (ho1 : 1 ≤ o) (ho2 : o ≤ 26) (hok : ∀ t ∈ P, TkOk t) (hpl : P.length ≤ 20000) (hda : da ≤ 20000) (s2 : ByteArray) (t2 d2 o2 : Int) (w : World) :
    Calls Tryd.prog 47 #[.agg #[.int .i64 op, .int .i64 nn, .string vr, .string at_, .int .i64 a, .int .i64 b], tdV P da, .int .i64 o, .agg #[.string s2, .int .i64 t2, .int .i64 d2], .int .i64 o2] w fun e w' =>
      e = .returned (tdV (mkT (sgn op) :: wrapT (lev o) (lev op) P) (wrapD (lev o) (lev op) da + 1)) ∧ Below w.heap.size w w' := by
  have hsz := jt_small hok
  have hOP := fun (nn : Int) (w : World) => operand_any P hP o ho1 ho2 nn da (by omega) (by omega) (by omega) w
  have HOK := Lib.hid (fun least : Int => (tkOk_wrap (l := lev o) (least := least) hok))
  have HWL := Lib.hid (fun least : Int => wrapT_len (lev o) least P)
  have HWD := Lib.hid (fun least : Int => wrapD_len (lev o) least da)
  have HNE := Lib.hid (fun least : Int => wrapT_ne (l := lev o) (least := least) hP)
  unfold tdV
  obtain ⟨na, hna⟩ : ∃ n, P.length = n := ⟨_, rfl⟩
  obtain ⟨sa, hsa⟩ : ∃ s, jt P = s := ⟨_, rfl⟩
  rw [hsa, hna] at hOP
  rw [hsa, hna]
  have HOP := Lib.hid hOP
  clear hOP
  have hb4 := bnew (bnew (bnew (bnew (Below.refl w.heap.size w) (.cells #[.int .i64 op, .int .i64 nn, .string vr, .string at_, .int .i64 a, .int .i64 b] 44)) (.cells #[.string sa, .int .i64 (na : Int), .int .i64 (da : Int)] 57)) (.cells #[.string s2, .int .i64 t2, .int .i64 d2] 57)) (.cells #[.string ⟨#[]⟩, .int .i64 0, .int .i64 0] 57)
  have RB := Lib.hid (blk_new4 w (.cells #[.int .i64 op, .int .i64 nn, .string vr, .string at_, .int .i64 a, .int .i64 b] 44) (.cells #[.string sa, .int .i64 (na : Int), .int .i64 (da : Int)] 57) (.cells #[.string s2, .int .i64 t2, .int .i64 d2] 57) #[.string ⟨#[]⟩, .int .i64 0, .int .i64 0] 57)
  have NB := Lib.hid (blk_alloc (blk_alloc (blk_alloc (blk_new w #[.int .i64 op, .int .i64 nn, .string vr, .string at_, .int .i64 a, .int .i64 b] 44) (.cells #[.string sa, .int .i64 (na : Int), .int .i64 (da : Int)] 57)) (.cells #[.string s2, .int .i64 t2, .int .i64 d2] 57)) (.cells #[.string ⟨#[]⟩, .int .i64 0, .int .i64 0] 57))
  have AB : Hid (((((w.alloc (.cells #[.int .i64 op, .int .i64 nn, .string vr, .string at_, .int .i64 a, .int .i64 b] 44)).alloc (.cells #[.string sa, .int .i64 (na : Int), .int .i64 (da : Int)] 57)).alloc (.cells #[.string s2, .int .i64 t2, .int .i64 d2] 57)).alloc (.cells #[.string ⟨#[]⟩, .int .i64 0, .int .i64 0] 57)).heap[w.heap.size + 1]? = some (.cells #[.string sa, .int .i64 (na : Int), .int .i64 (da : Int)] 57 (0, 0))) := Lib.hid (by
    have h := blk_new (w.alloc (.cells #[.int .i64 op, .int .i64 nn, .string vr, .string at_, .int .i64 a, .int .i64 b] 44)) #[.string sa, .int .i64 (na : Int), .int .i64 (da : Int)] 57
    rw [World.size_alloc] at h
    exact blk_alloc (blk_alloc h _) _)
  have BB : Hid (((((w.alloc (.cells #[.int .i64 op, .int .i64 nn, .string vr, .string at_, .int .i64 a, .int .i64 b] 44)).alloc (.cells #[.string sa, .int .i64 (na : Int), .int .i64 (da : Int)] 57)).alloc (.cells #[.string s2, .int .i64 t2, .int .i64 d2] 57)).alloc (.cells #[.string ⟨#[]⟩, .int .i64 0, .int .i64 0] 57)).heap[w.heap.size + 1 + 1]? = some (.cells #[.string s2, .int .i64 t2, .int .i64 d2] 57 (0, 0))) := Lib.hid (by
    have h := blk_new ((w.alloc (.cells #[.int .i64 op, .int .i64 nn, .string vr, .string at_, .int .i64 a, .int .i64 b] 44)).alloc (.cells #[.string sa, .int .i64 (na : Int), .int .i64 (da : Int)] 57)) #[.string s2, .int .i64 t2, .int .i64 d2] 57
    rw [World.size_alloc, World.size_alloc] at h
    exact blk_alloc h _)
  rcases h12 with rfl | rfl
  · go_enter Tryd.func47, Tryd.ntmps47
    go_upto_region 12 with fail
    obtain ⟨rb, hrb⟩ : ∃ rb, w.heap.size + 1 + 1 + 1 = rb := ⟨_, rfl⟩
    obtain ⟨bb, hbb⟩ : ∃ rb, w.heap.size + 1 + 1 = rb := ⟨_, rfl⟩
    obtain ⟨ab, hab⟩ : ∃ rb, w.heap.size + 1 = rb := ⟨_, rfl⟩
    obtain ⟨nb, hnb⟩ : ∃ rb, w.heap.size = rb := ⟨_, rfl⟩
    have hrl : w.heap.size ≤ rb := by omega
    rw [hrb] at RB
    rw [hbb] at BB
    rw [hab] at AB
    rw [hnb] at NB
    rw [hrb, hbb, hab, hnb]
    clear hrb hbb hab hnb
    generalize World.alloc _ (.cells #[.string ⟨#[]⟩, .int .i64 0, .int .i64 0] 57) = w0 at *
    have n0 : w0.cell? ⟨nb, 0, none⟩ = some (.int .i64 12) := blk_cell NB.out rfl
    have m0 : w0.cell? ⟨ab, 0, none⟩ = some (.string sa) := blk_cell AB.out rfl
    have m1 : w0.cell? ⟨ab, 1, none⟩ = some (.int .i64 (na : Int)) := blk_cell AB.out rfl
    have m2 : w0.cell? ⟨ab, 2, none⟩ = some (.int .i64 (da : Int)) := blk_cell AB.out rfl
    go_wp2_with fail
    refine (HOP.out 7 _).mono ?_
    have hl1 := HWL.out 7
    have hd1 := HWD.out 7
    have hk1 := jt_small (HOK.out 7)
    have HE := Lib.hid (show (Value.agg #[.string ((⟨#[45, 32]⟩ : ByteArray) ++ jt (wrapT (lev o) 7 P)), .int .i64 (((wrapT (lev o) 7 P).length : Nat) + 1), .int .i64 (((wrapD (lev o) 7 da : Nat) : Int) + 1)]) = tdV (mkT (sgn 12) :: wrapT (lev o) (lev 12) P) (wrapD (lev o) (lev 12) da + 1) from
      tdV_of (by rw [app_list, jt_list]; rw [joinB_cons _ (HNE.out _)]; show _ = _; first | rfl | simp [spB, sgn, sgnL, mkT, spelAt, spelL, kwAt, kwList, lev, levL]) (by rw [List.length_cons]; rfl) rfl)
    obtain ⟨W, hW⟩ : ∃ W, wrapT (lev o) 7 P = W := ⟨_, rfl⟩
    rw [hW] at hl1 hk1 HE
    rw [hW]
    obtain ⟨dw, hdw⟩ : ∃ d, wrapD (lev o) 7 da = d := ⟨_, rfl⟩
    rw [hdw] at hd1 HE
    rw [hdw]
    obtain ⟨sw, hsw⟩ : ∃ s, jt W = s := ⟨_, rfl⟩
    rw [hsw] at hk1 HE
    rw [hsw]
    obtain ⟨nw, hnw⟩ : ∃ n, W.length = n := ⟨_, rfl⟩
    rw [hnw] at hl1 hk1 HE
    rw [hnw]
    clear hW hdw hsw hnw
    rintro e w1 ⟨rfl, hb1⟩
    have hb2 := bnew hb1 (.cells #[.string sw, .int .i64 (nw : Int), .int .i64 (dw : Int)] 57)
    have R2 := Lib.hid (blk_below RB.out hb2)
    have hbf := bcall hb4 hb2
    clear n0 m0 m1 m2
    go_upto_region 13 with fail
    have x0 : (w1.alloc (.cells #[.string sw, .int .i64 (nw : Int), .int .i64 (dw : Int)] 57)).cell? ⟨w1.heap.size, 0, none⟩ = some (.string sw) := by simp [go_sem]
    have x1 : (w1.alloc (.cells #[.string sw, .int .i64 (nw : Int), .int .i64 (dw : Int)] 57)).cell? ⟨w1.heap.size, 1, none⟩ = some (.int .i64 (nw : Int)) := by simp [go_sem]
    have x2 : (w1.alloc (.cells #[.string sw, .int .i64 (nw : Int), .int .i64 (dw : Int)] 57)).cell? ⟨w1.heap.size, 2, none⟩ = some (.int .i64 (dw : Int)) := by simp [go_sem]
    generalize w1.heap.size = xb at *
    generalize w1.alloc _ = w2 at *
    have r0 : w2.cell? ⟨rb, 0, none⟩ = some (.string ⟨#[]⟩) := blk_cell R2.out rfl
    have r1 : w2.cell? ⟨rb, 1, none⟩ = some (.int .i64 0) := blk_cell R2.out rfl
    have r2 : w2.cell? ⟨rb, 2, none⟩ = some (.int .i64 0) := blk_cell R2.out rfl
    have g0 : w2.frozen? ⟨rb, 0, none⟩ = false := blk_free R2.out _
    have g1 : w2.frozen? ⟨rb, 1, none⟩ = false := blk_free R2.out _
    have g2 : w2.frozen? ⟨rb, 2, none⟩ = false := blk_free R2.out _
    have RF := blk_set (blk_set (blk_set R2.out 0 (.string ((⟨#[45, 32]⟩ : ByteArray) ++ sw))) 1 (.int .i64 ((nw : Int) + 1))) 2 (.int .i64 ((dw : Int) + 1))
    have q0 := blk_cell RF (j := 0) (v := .string ((⟨#[45, 32]⟩ : ByteArray) ++ sw)) rfl
    have q1 := blk_cell RF (j := 1) (v := .int .i64 ((nw : Int) + 1)) rfl
    have q2 := blk_cell RF (j := 2) (v := .int .i64 ((dw : Int) + 1)) rfl
    have hbf3 := bset (bset (bset hbf (p := ⟨rb, 0, none⟩) (by show w.heap.size ≤ rb; omega) (.string ((⟨#[45, 32]⟩ : ByteArray) ++ sw))) (p := ⟨rb, 1, none⟩) (by show w.heap.size ≤ rb; omega) (.int .i64 ((nw : Int) + 1))) (p := ⟨rb, 2, none⟩) (by show w.heap.size ≤ rb; omega) (.int .i64 ((dw : Int) + 1))
    clear RF
    go_wp2_with fail
    refine bodyPost_ret (v := .agg #[.string ((⟨#[45, 32]⟩ : ByteArray) ++ sw), .int .i64 ((nw : Int) + 1), .int .i64 ((dw : Int) + 1)]) ?_ rfl ?_
    · simp [results, Tryd.results47, go_sem, q0, q1, q2]
    · exact ⟨by rw [HE.out]; rfl, hbf3⟩
  · go_enter Tryd.func47, Tryd.ntmps47
    go_upto_region 15 with fail
    obtain ⟨rb, hrb⟩ : ∃ rb, w.heap.size + 1 + 1 + 1 = rb := ⟨_, rfl⟩
    obtain ⟨bb, hbb⟩ : ∃ rb, w.heap.size + 1 + 1 = rb := ⟨_, rfl⟩
    obtain ⟨ab, hab⟩ : ∃ rb, w.heap.size + 1 = rb := ⟨_, rfl⟩
    obtain ⟨nb, hnb⟩ : ∃ rb, w.heap.size = rb := ⟨_, rfl⟩
    have hrl : w.heap.size ≤ rb := by omega
    rw [hrb] at RB
    rw [hbb] at BB
    rw [hab] at AB
    rw [hnb] at NB
    rw [hrb, hbb, hab, hnb]
    clear hrb hbb hab hnb
    generalize World.alloc _ (.cells #[.string ⟨#[]⟩, .int .i64 0, .int .i64 0] 57) = w0 at *
    have n0 : w0.cell? ⟨nb, 0, none⟩ = some (.int .i64 13) := blk_cell NB.out rfl
    have m0 : w0.cell? ⟨ab, 0, none⟩ = some (.string sa) := blk_cell AB.out rfl
    have m1 : w0.cell? ⟨ab, 1, none⟩ = some (.int .i64 (na : Int)) := blk_cell AB.out rfl
    have m2 : w0.cell? ⟨ab, 2, none⟩ = some (.int .i64 (da : Int)) := blk_cell AB.out rfl
    go_wp2_with fail
    refine (HOP.out 3 _).mono ?_
    have hl1 := HWL.out 3
    have hd1 := HWD.out 3
    have hk1 := jt_small (HOK.out 3)
    have HE := Lib.hid (show (Value.agg #[.string ((⟨#[78, 79, 84, 32]⟩ : ByteArray) ++ jt (wrapT (lev o) 3 P)), .int .i64 (((wrapT (lev o) 3 P).length : Nat) + 1), .int .i64 (((wrapD (lev o) 3 da : Nat) : Int) + 1)]) = tdV (mkT (sgn 13) :: wrapT (lev o) (lev 13) P) (wrapD (lev o) (lev 13) da + 1) from
      tdV_of (by rw [app_list, jt_list]; rw [joinB_cons _ (HNE.out _)]; show _ = _; first | rfl | simp [spB, sgn, sgnL, mkT, spelAt, spelL, kwAt, kwList, lev, levL]) (by rw [List.length_cons]; rfl) rfl)
    obtain ⟨W, hW⟩ : ∃ W, wrapT (lev o) 3 P = W := ⟨_, rfl⟩
    rw [hW] at hl1 hk1 HE
    rw [hW]
    obtain ⟨dw, hdw⟩ : ∃ d, wrapD (lev o) 3 da = d := ⟨_, rfl⟩
    rw [hdw] at hd1 HE
    rw [hdw]
    obtain ⟨sw, hsw⟩ : ∃ s, jt W = s := ⟨_, rfl⟩
    rw [hsw] at hk1 HE
    rw [hsw]
    obtain ⟨nw, hnw⟩ : ∃ n, W.length = n := ⟨_, rfl⟩
    rw [hnw] at hl1 hk1 HE
    rw [hnw]
    clear hW hdw hsw hnw
    rintro e w1 ⟨rfl, hb1⟩
    have hb2 := bnew hb1 (.cells #[.string sw, .int .i64 (nw : Int), .int .i64 (dw : Int)] 57)
    have R2 := Lib.hid (blk_below RB.out hb2)
    have hbf := bcall hb4 hb2
    clear n0 m0 m1 m2
    go_upto_region 16 with fail
    have x0 : (w1.alloc (.cells #[.string sw, .int .i64 (nw : Int), .int .i64 (dw : Int)] 57)).cell? ⟨w1.heap.size, 0, none⟩ = some (.string sw) := by simp [go_sem]
    have x1 : (w1.alloc (.cells #[.string sw, .int .i64 (nw : Int), .int .i64 (dw : Int)] 57)).cell? ⟨w1.heap.size, 1, none⟩ = some (.int .i64 (nw : Int)) := by simp [go_sem]
    have x2 : (w1.alloc (.cells #[.string sw, .int .i64 (nw : Int), .int .i64 (dw : Int)] 57)).cell? ⟨w1.heap.size, 2, none⟩ = some (.int .i64 (dw : Int)) := by simp [go_sem]
    generalize w1.heap.size = xb at *
    generalize w1.alloc _ = w2 at *
    have r0 : w2.cell? ⟨rb, 0, none⟩ = some (.string ⟨#[]⟩) := blk_cell R2.out rfl
    have r1 : w2.cell? ⟨rb, 1, none⟩ = some (.int .i64 0) := blk_cell R2.out rfl
    have r2 : w2.cell? ⟨rb, 2, none⟩ = some (.int .i64 0) := blk_cell R2.out rfl
    have g0 : w2.frozen? ⟨rb, 0, none⟩ = false := blk_free R2.out _
    have g1 : w2.frozen? ⟨rb, 1, none⟩ = false := blk_free R2.out _
    have g2 : w2.frozen? ⟨rb, 2, none⟩ = false := blk_free R2.out _
    have RF := blk_set (blk_set (blk_set R2.out 0 (.string ((⟨#[78, 79, 84, 32]⟩ : ByteArray) ++ sw))) 1 (.int .i64 ((nw : Int) + 1))) 2 (.int .i64 ((dw : Int) + 1))
    have q0 := blk_cell RF (j := 0) (v := .string ((⟨#[78, 79, 84, 32]⟩ : ByteArray) ++ sw)) rfl
    have q1 := blk_cell RF (j := 1) (v := .int .i64 ((nw : Int) + 1)) rfl
    have q2 := blk_cell RF (j := 2) (v := .int .i64 ((dw : Int) + 1)) rfl
    have hbf3 := bset (bset (bset hbf (p := ⟨rb, 0, none⟩) (by show w.heap.size ≤ rb; omega) (.string ((⟨#[78, 79, 84, 32]⟩ : ByteArray) ++ sw))) (p := ⟨rb, 1, none⟩) (by show w.heap.size ≤ rb; omega) (.int .i64 ((nw : Int) + 1))) (p := ⟨rb, 2, none⟩) (by show w.heap.size ≤ rb; omega) (.int .i64 ((dw : Int) + 1))
    clear RF
    go_wp2_with fail
    refine bodyPost_ret (v := .agg #[.string ((⟨#[78, 79, 84, 32]⟩ : ByteArray) ++ sw), .int .i64 ((nw : Int) + 1), .int .i64 ((dw : Int) + 1)]) ?_ rfl ?_
    · simp [results, Tryd.results47, go_sem, q0, q1, q2]
    · exact ⟨by rw [HE.out]; rfl, hbf3⟩
set_option maxRecDepth 100000 in
set_option maxHeartbeats 4000000 in
theorem told_bi (op nn a b : Int) (vr at_ : ByteArray) (h14 : 14 ≤ op) (h26 : op ≤ 26) (P : List Tk) (hP : P ≠ []) (da : Nat) (o : Int) (ho1 : 1 ≤ o) (ho2 : o ≤ 26) (hok : ∀ t ∈ P, TkOk t) (hpl : P.length ≤ 20000) (hda : da ≤ 20000)
    (P' : List Tk) (hP' : P' ≠ []) (db : Nat) (o' : Int) (ho1' : 1 ≤ o') (ho2' : o' ≤ 26) (hok' : ∀ t ∈ P', TkOk t) (hpl' : P'.length ≤ 20000) (hdb : db ≤ 20000) (w : World) (hsg : SgrV w) :
    Calls Tryd.prog 47 #[.agg #[.int .i64 op, .int .i64 nn, .string vr, .string at_, .int .i64 a, .int .i64 b], tdV P da, .int .i64 o, tdV P' db, .int .i64 o'] w fun e w' =>
      e = .returned (tdV (wrapT (lev o) (leftL op) P ++ mkT (sgn op) :: wrapT (lev o') (lev op + 1) P') (max (wrapD (lev o) (leftL op) da) (wrapD (lev o') (lev op + 1) db))) ∧ Below w.heap.size w w' := by
  have hsz := jt_small hok
  have hsz' := jt_small hok'
  have hOP := fun (nn : Int) (w : World) => operand_any P hP o ho1 ho2 nn da (by omega) (by omega) (by omega) w
  have hOQ := fun (nn : Int) (w : World) => operand_any P' hP' o' ho1' ho2' nn db (by omega) (by omega) (by omega) w
  have HOK := Lib.hid (fun least : Int => (tkOk_wrap (l := lev o) (least := least) hok))
  have HWL := Lib.hid (fun least : Int => wrapT_len (lev o) least P)
  have HWD := Lib.hid (fun least : Int => wrapD_len (lev o) least da)
  have HNE := Lib.hid (fun least : Int => wrapT_ne (l := lev o) (least := least) hP)
  have HOK' := Lib.hid (fun least : Int => (tkOk_wrap (l := lev o') (least := least) hok'))
  have HWL' := Lib.hid (fun least : Int => wrapT_len (lev o') least P')
  have HWD' := Lib.hid (fun least : Int => wrapD_len (lev o') least db)
  have HNE' := Lib.hid (fun least : Int => wrapT_ne (l := lev o') (least := least) hP')
  unfold tdV
  obtain ⟨na, hna⟩ : ∃ n, P.length = n := ⟨_, rfl⟩
  obtain ⟨sa, hsa⟩ : ∃ s, jt P = s := ⟨_, rfl⟩
  obtain ⟨nb', hnb⟩ : ∃ n, P'.length = n := ⟨_, rfl⟩
  obtain ⟨sb, hsb⟩ : ∃ s, jt P' = s := ⟨_, rfl⟩
  rw [hsa, hna] at hOP
  rw [hsb, hnb] at hOQ
  rw [hsa, hna, hsb, hnb]
  have HOP := Lib.hid hOP
  have HOQ := Lib.hid hOQ
  have HPC := Lib.hid hna
  have HSG := Lib.hid hsg
  clear hOP hOQ hna hsa hnb hsb hsg
  have hb4 := bnew (bnew (bnew (bnew (Below.refl w.heap.size w) (.cells #[.int .i64 op, .int .i64 nn, .string vr, .string at_, .int .i64 a, .int .i64 b] 44)) (.cells #[.string sa, .int .i64 (na : Int), .int .i64 (da : Int)] 57)) (.cells #[.string sb, .int .i64 (nb' : Int), .int .i64 (db : Int)] 57)) (.cells #[.string ⟨#[]⟩, .int .i64 0, .int .i64 0] 57)
  have RB := Lib.hid (blk_new4 w (.cells #[.int .i64 op, .int .i64 nn, .string vr, .string at_, .int .i64 a, .int .i64 b] 44) (.cells #[.string sa, .int .i64 (na : Int), .int .i64 (da : Int)] 57) (.cells #[.string sb, .int .i64 (nb' : Int), .int .i64 (db : Int)] 57) #[.string ⟨#[]⟩, .int .i64 0, .int .i64 0] 57)
  have NB := Lib.hid (blk_alloc (blk_alloc (blk_alloc (blk_new w #[.int .i64 op, .int .i64 nn, .string vr, .string at_, .int .i64 a, .int .i64 b] 44) (.cells #[.string sa, .int .i64 (na : Int), .int .i64 (da : Int)] 57)) (.cells #[.string sb, .int .i64 (nb' : Int), .int .i64 (db : Int)] 57)) (.cells #[.string ⟨#[]⟩, .int .i64 0, .int .i64 0] 57))
  have AB : Hid (((((w.alloc (.cells #[.int .i64 op, .int .i64 nn, .string vr, .string at_, .int .i64 a, .int .i64 b] 44)).alloc (.cells #[.string sa, .int .i64 (na : Int), .int .i64 (da : Int)] 57)).alloc (.cells #[.string sb, .int .i64 (nb' : Int), .int .i64 (db : Int)] 57)).alloc (.cells #[.string ⟨#[]⟩, .int .i64 0, .int .i64 0] 57)).heap[w.heap.size + 1]? = some (.cells #[.string sa, .int .i64 (na : Int), .int .i64 (da : Int)] 57 (0, 0))) := Lib.hid (by
    have h := blk_new (w.alloc (.cells #[.int .i64 op, .int .i64 nn, .string vr, .string at_, .int .i64 a, .int .i64 b] 44)) #[.string sa, .int .i64 (na : Int), .int .i64 (da : Int)] 57
    rw [World.size_alloc] at h
    exact blk_alloc (blk_alloc h _) _)
  have BB : Hid (((((w.alloc (.cells #[.int .i64 op, .int .i64 nn, .string vr, .string at_, .int .i64 a, .int .i64 b] 44)).alloc (.cells #[.string sa, .int .i64 (na : Int), .int .i64 (da : Int)] 57)).alloc (.cells #[.string sb, .int .i64 (nb' : Int), .int .i64 (db : Int)] 57)).alloc (.cells #[.string ⟨#[]⟩, .int .i64 0, .int .i64 0] 57)).heap[w.heap.size + 1 + 1]? = some (.cells #[.string sb, .int .i64 (nb' : Int), .int .i64 (db : Int)] 57 (0, 0))) := Lib.hid (by
    have h := blk_new ((w.alloc (.cells #[.int .i64 op, .int .i64 nn, .string vr, .string at_, .int .i64 a, .int .i64 b] 44)).alloc (.cells #[.string sa, .int .i64 (na : Int), .int .i64 (da : Int)] 57)) #[.string sb, .int .i64 (nb' : Int), .int .i64 (db : Int)] 57
    rw [World.size_alloc, World.size_alloc] at h
    exact blk_alloc h _)
  have q1 : (op == 1) = false := by rw [beq_eq_false_iff_ne]; omega
  have q2 : (op == 2) = false := by rw [beq_eq_false_iff_ne]; omega
  have q3 : (op == 3) = false := by rw [beq_eq_false_iff_ne]; omega
  have q4 : (op == 4) = false := by rw [beq_eq_false_iff_ne]; omega
  have q5 : (op == 5) = false := by rw [beq_eq_false_iff_ne]; omega
  have q6 : (op == 12) = false := by rw [beq_eq_false_iff_ne]; omega
  have q7 : (op == 13) = false := by rw [beq_eq_false_iff_ne]; omega
  have hlr := lev_range (show 1 ≤ op by omega) h26
  obtain ⟨j, hj⟩ : ∃ j : Nat, op = 14 + (j : Int) := ⟨(op - 14).toNat, by omega⟩
  have hsub : op - 14 = (j : Int) := by omega
  have HJ := Lib.hid hj
  clear hj
  have hj13 : j < 13 := by omega
  go_enter Tryd.func47, Tryd.ntmps47
  go_upto_region 19 with fail
  obtain ⟨rb, hrb⟩ : ∃ rb, w.heap.size + 1 + 1 + 1 = rb := ⟨_, rfl⟩
  obtain ⟨bb, hbb⟩ : ∃ rb, w.heap.size + 1 + 1 = rb := ⟨_, rfl⟩
  obtain ⟨ab, hab⟩ : ∃ rb, w.heap.size + 1 = rb := ⟨_, rfl⟩
  obtain ⟨nb, hnb⟩ : ∃ rb, w.heap.size = rb := ⟨_, rfl⟩
  have hrl : w.heap.size ≤ rb := by omega
  have hnr : nb ≠ rb := by omega
  have hgr : 5 ≠ rb := by
    obtain ⟨t, fr, hg⟩ := HSG.out
    have := blk_lt hg
    omega
  rw [hrb] at RB
  rw [hbb] at BB
  rw [hab] at AB
  rw [hnb] at NB
  rw [hrb, hbb, hab, hnb]
  clear hrb hbb hab hnb
  generalize World.alloc _ (.cells #[.string ⟨#[]⟩, .int .i64 0, .int .i64 0] 57) = w0 at *
  have n0 : w0.cell? ⟨nb, 0, none⟩ = some (.int .i64 op) := blk_cell NB.out rfl
  have m0 : w0.cell? ⟨ab, 0, none⟩ = some (.string sa) := blk_cell AB.out rfl
  have m1 : w0.cell? ⟨ab, 1, none⟩ = some (.int .i64 (na : Int)) := blk_cell AB.out rfl
  have m2 : w0.cell? ⟨ab, 2, none⟩ = some (.int .i64 (da : Int)) := blk_cell AB.out rfl
  have p0 : w0.cell? ⟨bb, 0, none⟩ = some (.string sb) := blk_cell BB.out rfl
  go_wp2_with fail
  refine (refLevel_any op (by omega) h26 _).mono ?_
  obtain ⟨l, hl⟩ : ∃ l, lev op = l := ⟨_, rfl⟩
  have HL := Lib.hid hl
  rw [hl] at hlr
  rw [hl]
  clear hl
  rintro e w1 ⟨rfl, e1⟩
  obtain rfl := e1.symm
  by_cases h4 : l = 4
  · have hlf : leftL op = 5 := by unfold leftL; rw [HL.out, if_pos h4]
    have HLF := Lib.hid hlf
    have HRG := Lib.hid (show lev op + 1 = 5 by rw [HL.out]; omega)
    clear hlf
    subst h4
    obtain ⟨lft, hlft⟩ : ∃ x : Int, x = 5 := ⟨5, rfl⟩
    subst hlft
    go_wp2_with fail
    have hl1 := HWL.out 5
    have hd1 := HWD.out 5
    have hk1 := jt_small (HOK.out 5)
    have hl2 := HWL'.out 5
    have hd2 := HWD'.out 5
    have hk2 := jt_small (HOK'.out 5)
    refine (HOP.out 5 _).mono ?_
    have HE := Lib.hid (show ∀ dd : Int, dd = max ((wrapD (lev o) 5 da : Nat) : Int) ((wrapD (lev o') 5 db : Nat) : Int) → (Value.agg #[.string (jt (wrapT (lev o) 5 P) ++ ⟨#[32]⟩ ++ ⟨(sgrL.getD j []).toArray⟩ ++ ⟨#[32]⟩ ++ jt (wrapT (lev o') 5 P')), .int .i64 (((wrapT (lev o) 5 P).length : Nat) + 1 + ((wrapT (lev o') 5 P').length : Nat)), .int .i64 dd]) = tdV (wrapT (lev o) (leftL op) P ++ mkT (sgn op) :: wrapT (lev o') (lev op + 1) P') (max (wrapD (lev o) (leftL op) da) (wrapD (lev o') (lev op + 1) db)) from fun dd hdd => by
      rw [HLF.out, HRG.out]
      refine tdV_of ?_ (by rw [List.length_append, List.length_cons]; omega) (by rw [hdd]; omega)
      rw [app_list, app_list, app_list, app_list, jt_list, jt_list, joinB_append (HNE.out _) (by simp), joinB_cons _ (HNE'.out _), HJ.out, sgr_kw hj13]
      simp)
    obtain ⟨W, hW⟩ : ∃ W, wrapT (lev o) 5 P = W := ⟨_, rfl⟩
    rw [hW] at hl1 hk1 HE
    rw [hW]
    obtain ⟨dw, hdw⟩ : ∃ d, wrapD (lev o) 5 da = d := ⟨_, rfl⟩
    rw [hdw] at hd1 HE
    rw [hdw]
    obtain ⟨sw, hsw⟩ : ∃ s, jt W = s := ⟨_, rfl⟩
    rw [hsw] at hk1 HE
    rw [hsw]
    obtain ⟨nw, hnw⟩ : ∃ n, W.length = n := ⟨_, rfl⟩
    rw [hnw] at hl1 hk1 HE
    rw [hnw]
    clear hW hdw hsw hnw
    have HOQR := Lib.hid (HOQ.out 5)
    obtain ⟨W', hW⟩ : ∃ W, wrapT (lev o') 5 P' = W := ⟨_, rfl⟩
    rw [hW] at hl2 hk2 HE HOQR
    obtain ⟨dw', hdw⟩ : ∃ d, wrapD (lev o') 5 db = d := ⟨_, rfl⟩
    rw [hdw] at hd2 HE HOQR
    obtain ⟨sw', hsw⟩ : ∃ s, jt W' = s := ⟨_, rfl⟩
    rw [hsw] at hk2 HE HOQR
    obtain ⟨nw', hnw⟩ : ∃ n, W'.length = n := ⟨_, rfl⟩
    rw [hnw] at hl2 hk2 HE HOQR
    clear hW hdw hsw hnw
    rintro e w1 ⟨rfl, hb1⟩
    have hb2 := bnew hb1 (.cells #[.string sw, .int .i64 (nw : Int), .int .i64 (dw : Int)] 57)
    have R2 := Lib.hid (blk_below RB.out hb2)
    have N2 := Lib.hid (blk_below NB.out hb2)
    have P2 := Lib.hid (blk_below BB.out hb2)
    have X2 := Lib.hid (blk_new w1 #[.string sw, .int .i64 (nw : Int), .int .i64 (dw : Int)] 57)
    clear n0 m0 m1 m2 p0
    go_upto_region 24 with fail
    obtain ⟨xb, hxb⟩ : ∃ xb, w1.heap.size = xb := ⟨_, rfl⟩
    have hxr : xb ≠ rb := by have := blk_lt RB.out; have := hb1.size; omega
    rw [hxb] at X2
    rw [hxb]
    clear hxb
    generalize w1.alloc _ = w2 at *
    have p0 : w2.cell? ⟨bb, 0, none⟩ = some (.string sb) := blk_cell P2.out rfl
    have p1 : w2.cell? ⟨bb, 1, none⟩ = some (.int .i64 (nb' : Int)) := blk_cell P2.out rfl
    have p2 : w2.cell? ⟨bb, 2, none⟩ = some (.int .i64 (db : Int)) := blk_cell P2.out rfl
    go_wp2_with fail
    refine (HOQR.out _).mono ?_
    rintro e w3 ⟨rfl, hb3⟩
    have hb4' := bnew hb3 (.cells #[.string sw', .int .i64 (nw' : Int), .int .i64 (dw' : Int)] 57)
    have R4 := Lib.hid (blk_below R2.out hb4')
    have N4 := Lib.hid (blk_below N2.out hb4')
    have X4 := Lib.hid (blk_below X2.out hb4')
    have Y4 := Lib.hid (blk_new w3 #[.string sw', .int .i64 (nw' : Int), .int .i64 (dw' : Int)] 57)
    have hbf := bcall hb4 (bcall hb2 hb4')
    clear p0 p1 p2
    go_upto_region 25 with fail
    obtain ⟨yb, hyb⟩ : ∃ xb, w3.heap.size = xb := ⟨_, rfl⟩
    have hyr : yb ≠ rb := by have := blk_lt R2.out; have := hb3.size; omega
    rw [hyb] at Y4
    rw [hyb]
    clear hyb
    generalize w3.alloc _ = w4 at *
    have x0 : w4.cell? ⟨xb, 0, none⟩ = some (.string sw) := blk_cell X4.out rfl
    have x1 : w4.cell? ⟨xb, 1, none⟩ = some (.int .i64 (nw : Int)) := blk_cell X4.out rfl
    have x2 : w4.cell? ⟨xb, 2, none⟩ = some (.int .i64 (dw : Int)) := blk_cell X4.out rfl
    have y0 : w4.cell? ⟨yb, 0, none⟩ = some (.string sw') := blk_cell Y4.out rfl
    have y1 : w4.cell? ⟨yb, 1, none⟩ = some (.int .i64 (nw' : Int)) := blk_cell Y4.out rfl
    have y2 : w4.cell? ⟨yb, 2, none⟩ = some (.int .i64 (dw' : Int)) := blk_cell Y4.out rfl
    have n4 : w4.cell? ⟨nb, 0, none⟩ = some (.int .i64 op) := blk_cell N4.out rfl
    have s0 := (HSG.out.later hbf).cell hj13
    have sz0 := sgr_size hj13
    obtain ⟨sg, hsgn⟩ : ∃ s : ByteArray, ⟨(sgrL.getD j []).toArray⟩ = s := ⟨_, rfl⟩
    rw [hsgn] at s0 HE sz0
    clear hsgn
    have ne1 : nb ≠ rb := hnr
    have bs1 : sw.size ≤ 1000000 := by omega
    have bs2 : sw'.size ≤ 1000000 := by omega
    have bn1 : nw ≤ 1000000 := by omega
    have bn2 : nw' ≤ 1000000 := by omega
    have hji : (j : Int) < 13 := by omega
    have hji0 : (0 : Int) ≤ (j : Int) := by omega
    have ns1 : ¬ 9223372036854775807 < sw.size + 1 := by omega
    have ns2 : ¬ 9223372036854775807 < sw.size + 1 + sg.size := by omega
    have ns3 : ¬ 9223372036854775807 < sw.size + 1 + sg.size + 1 := by omega
    have ns4 : ¬ 9223372036854775807 < sw.size + 1 + sg.size + 1 + sw'.size := by omega
    have hw3 : IntKind.i64.wrap (j : Int) = (j : Int) := by rw [IntKind.wrap_i64]; omega
    have hw0 : IntKind.i64.wrap (op - 14) = (j : Int) := by rw [IntKind.wrap_i64]; omega
    have hw1 : IntKind.i64.wrap ((nw : Int) + 1) = (nw : Int) + 1 := by rw [IntKind.wrap_i64]; omega
    have hw2 : IntKind.i64.wrap ((nw : Int) + 1 + (nw' : Int)) = (nw : Int) + 1 + (nw' : Int) := by rw [IntKind.wrap_i64]; omega
    have ne2 : xb ≠ rb := hxr
    have ne3 : yb ≠ rb := hyr
    have ne4 : 5 ≠ rb := hgr
    rcases Nat.lt_or_ge dw dw' with hmx | hmx
    · have hmi : (dw : Int) < (dw' : Int) := by omega
      have HE2 := Lib.hid (HE.out (dw' : Int) (by omega))
      have r0 : w4.cell? ⟨rb, 0, none⟩ = some (.string ⟨#[]⟩) := blk_cell R4.out rfl
      have r1 : w4.cell? ⟨rb, 1, none⟩ = some (.int .i64 0) := blk_cell R4.out rfl
      have r2 : w4.cell? ⟨rb, 2, none⟩ = some (.int .i64 0) := blk_cell R4.out rfl
      have g0 : w4.frozen? ⟨rb, 0, none⟩ = false := blk_free R4.out _
      have g1 : w4.frozen? ⟨rb, 1, none⟩ = false := blk_free R4.out _
      have g2 : w4.frozen? ⟨rb, 2, none⟩ = false := blk_free R4.out _
      have RF := blk_set (blk_set (blk_set R4.out 0 (.string (sw ++ ⟨#[32]⟩ ++ sg ++ ⟨#[32]⟩ ++ sw'))) 1 (.int .i64 ((nw : Int) + 1 + (nw' : Int)))) 2 (.int .i64 (dw' : Int))
      have q0 := blk_cell RF (j := 0) (v := .string (sw ++ ⟨#[32]⟩ ++ sg ++ ⟨#[32]⟩ ++ sw')) rfl
      have q1 := blk_cell RF (j := 1) (v := .int .i64 ((nw : Int) + 1 + (nw' : Int))) rfl
      have q2 := blk_cell RF (j := 2) (v := .int .i64 (dw' : Int)) rfl
      have hbf3 := bset (bset (bset hbf (p := ⟨rb, 0, none⟩) (by show w.heap.size ≤ rb; omega) (.string (sw ++ ⟨#[32]⟩ ++ sg ++ ⟨#[32]⟩ ++ sw'))) (p := ⟨rb, 1, none⟩) (by show w.heap.size ≤ rb; omega) (.int .i64 ((nw : Int) + 1 + (nw' : Int)))) (p := ⟨rb, 2, none⟩) (by show w.heap.size ≤ rb; omega) (.int .i64 (dw' : Int))
      clear RF
      go_upto_region 28 with fail
      go_region_held3 (fun w' => w'.cell? ⟨nb, 0, none⟩ = some (.int .i64 op) ∧ w'.cell? ⟨xb, 0, none⟩ = some (.string sw) ∧ w'.cell? ⟨xb, 1, none⟩ = some (.int .i64 (nw : Int)) ∧ w'.cell? ⟨yb, 0, none⟩ = some (.string sw') ∧ w'.cell? ⟨yb, 1, none⟩ = some (.int .i64 (nw' : Int)) ∧ w'.cell? ⟨5, j, none⟩ = some (.string sg))
        (first
          | exact ⟨n4, x0, x1, y0, y1, s0⟩
          | exact ⟨keep3 n4 ne1, keep3 x0 ne2, keep3 x1 ne2, keep3 y0 ne3, keep3 y1 ne3, keep3 s0 ne4⟩)
        (fail)
      go_split_ands
      go_wp2_with fail
      refine bodyPost_ret (v := .agg #[.string (sw ++ ⟨#[32]⟩ ++ sg ++ ⟨#[32]⟩ ++ sw'), .int .i64 ((nw : Int) + 1 + (nw' : Int)), .int .i64 (dw' : Int)]) ?_ rfl ?_
      · simp [results, Tryd.results47, go_sem, q0, q1, q2]
      · exact ⟨by rw [HE2.out]; rfl, bdrewN hbf3 1⟩
    · have hmi : (dw' : Int) ≤ (dw : Int) := by omega
      have HE2 := Lib.hid (HE.out (dw : Int) (by omega))
      have r0 : w4.cell? ⟨rb, 0, none⟩ = some (.string ⟨#[]⟩) := blk_cell R4.out rfl
      have r1 : w4.cell? ⟨rb, 1, none⟩ = some (.int .i64 0) := blk_cell R4.out rfl
      have r2 : w4.cell? ⟨rb, 2, none⟩ = some (.int .i64 0) := blk_cell R4.out rfl
      have g0 : w4.frozen? ⟨rb, 0, none⟩ = false := blk_free R4.out _
      have g1 : w4.frozen? ⟨rb, 1, none⟩ = false := blk_free R4.out _
      have g2 : w4.frozen? ⟨rb, 2, none⟩ = false := blk_free R4.out _
      have RF := blk_set (blk_set (blk_set R4.out 0 (.string (sw ++ ⟨#[32]⟩ ++ sg ++ ⟨#[32]⟩ ++ sw'))) 1 (.int .i64 ((nw : Int) + 1 + (nw' : Int)))) 2 (.int .i64 (dw : Int))
      have q0 := blk_cell RF (j := 0) (v := .string (sw ++ ⟨#[32]⟩ ++ sg ++ ⟨#[32]⟩ ++ sw')) rfl
      have q1 := blk_cell RF (j := 1) (v := .int .i64 ((nw : Int) + 1 + (nw' : Int))) rfl
      have q2 := blk_cell RF (j := 2) (v := .int .i64 (dw : Int)) rfl
      have hbf3 := bset (bset (bset hbf (p := ⟨rb, 0, none⟩) (by show w.heap.size ≤ rb; omega) (.string (sw ++ ⟨#[32]⟩ ++ sg ++ ⟨#[32]⟩ ++ sw'))) (p := ⟨rb, 1, none⟩) (by show w.heap.size ≤ rb; omega) (.int .i64 ((nw : Int) + 1 + (nw' : Int)))) (p := ⟨rb, 2, none⟩) (by show w.heap.size ≤ rb; omega) (.int .i64 (dw : Int))
      clear RF
      go_upto_region 28 with fail
      go_region_held3 (fun w' => w'.cell? ⟨nb, 0, none⟩ = some (.int .i64 op) ∧ w'.cell? ⟨xb, 0, none⟩ = some (.string sw) ∧ w'.cell? ⟨xb, 1, none⟩ = some (.int .i64 (nw : Int)) ∧ w'.cell? ⟨yb, 0, none⟩ = some (.string sw') ∧ w'.cell? ⟨yb, 1, none⟩ = some (.int .i64 (nw' : Int)) ∧ w'.cell? ⟨5, j, none⟩ = some (.string sg))
        (first
          | exact ⟨n4, x0, x1, y0, y1, s0⟩
          | exact ⟨keep3 n4 ne1, keep3 x0 ne2, keep3 x1 ne2, keep3 y0 ne3, keep3 y1 ne3, keep3 s0 ne4⟩)
        (fail)
      go_split_ands
      go_wp2_with fail
      refine bodyPost_ret (v := .agg #[.string (sw ++ ⟨#[32]⟩ ++ sg ++ ⟨#[32]⟩ ++ sw'), .int .i64 ((nw : Int) + 1 + (nw' : Int)), .int .i64 (dw : Int)]) ?_ rfl ?_
      · simp [results, Tryd.results47, go_sem, q0, q1, q2]
      · exact ⟨by rw [HE2.out]; rfl, bdrewN hbf3 1⟩
  · have hlf : leftL op = l := by unfold leftL; rw [HL.out, if_neg h4]
    have HLF := Lib.hid hlf
    have HRG := Lib.hid (show lev op + 1 = l + 1 by rw [HL.out])
    have h4b : (l == 4) = false := by rw [beq_eq_false_iff_ne]; exact h4
    clear hlf h4
    go_wp2_with fail
    have hl1 := HWL.out l
    have hd1 := HWD.out l
    have hk1 := jt_small (HOK.out l)
    have hl2 := HWL'.out (l + 1)
    have hd2 := HWD'.out (l + 1)
    have hk2 := jt_small (HOK'.out (l + 1))
    refine (HOP.out l _).mono ?_
    have HE := Lib.hid (show ∀ dd : Int, dd = max ((wrapD (lev o) l da : Nat) : Int) ((wrapD (lev o') (l + 1) db : Nat) : Int) → (Value.agg #[.string (jt (wrapT (lev o) l P) ++ ⟨#[32]⟩ ++ ⟨(sgrL.getD j []).toArray⟩ ++ ⟨#[32]⟩ ++ jt (wrapT (lev o') (l + 1) P')), .int .i64 (((wrapT (lev o) l P).length : Nat) + 1 + ((wrapT (lev o') (l + 1) P').length : Nat)), .int .i64 dd]) = tdV (wrapT (lev o) (leftL op) P ++ mkT (sgn op) :: wrapT (lev o') (lev op + 1) P') (max (wrapD (lev o) (leftL op) da) (wrapD (lev o') (lev op + 1) db)) from fun dd hdd => by
      rw [HLF.out, HRG.out]
      refine tdV_of ?_ (by rw [List.length_append, List.length_cons]; omega) (by rw [hdd]; omega)
      rw [app_list, app_list, app_list, app_list, jt_list, jt_list, joinB_append (HNE.out _) (by simp), joinB_cons _ (HNE'.out _), HJ.out, sgr_kw hj13]
      simp)
    obtain ⟨W, hW⟩ : ∃ W, wrapT (lev o) l P = W := ⟨_, rfl⟩
    rw [hW] at hl1 hk1 HE
    rw [hW]
    obtain ⟨dw, hdw⟩ : ∃ d, wrapD (lev o) l da = d := ⟨_, rfl⟩
    rw [hdw] at hd1 HE
    rw [hdw]
    obtain ⟨sw, hsw⟩ : ∃ s, jt W = s := ⟨_, rfl⟩
    rw [hsw] at hk1 HE
    rw [hsw]
    obtain ⟨nw, hnw⟩ : ∃ n, W.length = n := ⟨_, rfl⟩
    rw [hnw] at hl1 hk1 HE
    rw [hnw]
    clear hW hdw hsw hnw
    have HOQR := Lib.hid (HOQ.out (l + 1))
    obtain ⟨W', hW⟩ : ∃ W, wrapT (lev o') (l + 1) P' = W := ⟨_, rfl⟩
    rw [hW] at hl2 hk2 HE HOQR
    obtain ⟨dw', hdw⟩ : ∃ d, wrapD (lev o') (l + 1) db = d := ⟨_, rfl⟩
    rw [hdw] at hd2 HE HOQR
    obtain ⟨sw', hsw⟩ : ∃ s, jt W' = s := ⟨_, rfl⟩
    rw [hsw] at hk2 HE HOQR
    obtain ⟨nw', hnw⟩ : ∃ n, W'.length = n := ⟨_, rfl⟩
    rw [hnw] at hl2 hk2 HE HOQR
    clear hW hdw hsw hnw
    rintro e w1 ⟨rfl, hb1⟩
    have hb2 := bnew hb1 (.cells #[.string sw, .int .i64 (nw : Int), .int .i64 (dw : Int)] 57)
    have R2 := Lib.hid (blk_below RB.out hb2)
    have N2 := Lib.hid (blk_below NB.out hb2)
    have P2 := Lib.hid (blk_below BB.out hb2)
    have X2 := Lib.hid (blk_new w1 #[.string sw, .int .i64 (nw : Int), .int .i64 (dw : Int)] 57)
    clear n0 m0 m1 m2 p0
    go_upto_region 24 with fail
    obtain ⟨xb, hxb⟩ : ∃ xb, w1.heap.size = xb := ⟨_, rfl⟩
    have hxr : xb ≠ rb := by have := blk_lt RB.out; have := hb1.size; omega
    rw [hxb] at X2
    rw [hxb]
    clear hxb
    generalize w1.alloc _ = w2 at *
    have p0 : w2.cell? ⟨bb, 0, none⟩ = some (.string sb) := blk_cell P2.out rfl
    have p1 : w2.cell? ⟨bb, 1, none⟩ = some (.int .i64 (nb' : Int)) := blk_cell P2.out rfl
    have p2 : w2.cell? ⟨bb, 2, none⟩ = some (.int .i64 (db : Int)) := blk_cell P2.out rfl
    go_wp2_with fail
    refine (HOQR.out _).mono ?_
    rintro e w3 ⟨rfl, hb3⟩
    have hb4' := bnew hb3 (.cells #[.string sw', .int .i64 (nw' : Int), .int .i64 (dw' : Int)] 57)
    have R4 := Lib.hid (blk_below R2.out hb4')
    have N4 := Lib.hid (blk_below N2.out hb4')
    have X4 := Lib.hid (blk_below X2.out hb4')
    have Y4 := Lib.hid (blk_new w3 #[.string sw', .int .i64 (nw' : Int), .int .i64 (dw' : Int)] 57)
    have hbf := bcall hb4 (bcall hb2 hb4')
    clear p0 p1 p2
    go_upto_region 25 with fail
    obtain ⟨yb, hyb⟩ : ∃ xb, w3.heap.size = xb := ⟨_, rfl⟩
    have hyr : yb ≠ rb := by have := blk_lt R2.out; have := hb3.size; omega
    rw [hyb] at Y4
    rw [hyb]
    clear hyb
    generalize w3.alloc _ = w4 at *
    have x0 : w4.cell? ⟨xb, 0, none⟩ = some (.string sw) := blk_cell X4.out rfl
    have x1 : w4.cell? ⟨xb, 1, none⟩ = some (.int .i64 (nw : Int)) := blk_cell X4.out rfl
    have x2 : w4.cell? ⟨xb, 2, none⟩ = some (.int .i64 (dw : Int)) := blk_cell X4.out rfl
    have y0 : w4.cell? ⟨yb, 0, none⟩ = some (.string sw') := blk_cell Y4.out rfl
    have y1 : w4.cell? ⟨yb, 1, none⟩ = some (.int .i64 (nw' : Int)) := blk_cell Y4.out rfl
    have y2 : w4.cell? ⟨yb, 2, none⟩ = some (.int .i64 (dw' : Int)) := blk_cell Y4.out rfl
    have n4 : w4.cell? ⟨nb, 0, none⟩ = some (.int .i64 op) := blk_cell N4.out rfl
    have s0 := (HSG.out.later hbf).cell hj13
    have sz0 := sgr_size hj13
    obtain ⟨sg, hsgn⟩ : ∃ s : ByteArray, ⟨(sgrL.getD j []).toArray⟩ = s := ⟨_, rfl⟩
    rw [hsgn] at s0 HE sz0
    clear hsgn
    have ne1 : nb ≠ rb := hnr
    have bs1 : sw.size ≤ 1000000 := by omega
    have bs2 : sw'.size ≤ 1000000 := by omega
    have bn1 : nw ≤ 1000000 := by omega
    have bn2 : nw' ≤ 1000000 := by omega
    have hji : (j : Int) < 13 := by omega
    have hji0 : (0 : Int) ≤ (j : Int) := by omega
    have ns1 : ¬ 9223372036854775807 < sw.size + 1 := by omega
    have ns2 : ¬ 9223372036854775807 < sw.size + 1 + sg.size := by omega
    have ns3 : ¬ 9223372036854775807 < sw.size + 1 + sg.size + 1 := by omega
    have ns4 : ¬ 9223372036854775807 < sw.size + 1 + sg.size + 1 + sw'.size := by omega
    have hw3 : IntKind.i64.wrap (j : Int) = (j : Int) := by rw [IntKind.wrap_i64]; omega
    have hw0 : IntKind.i64.wrap (op - 14) = (j : Int) := by rw [IntKind.wrap_i64]; omega
    have hw1 : IntKind.i64.wrap ((nw : Int) + 1) = (nw : Int) + 1 := by rw [IntKind.wrap_i64]; omega
    have hw2 : IntKind.i64.wrap ((nw : Int) + 1 + (nw' : Int)) = (nw : Int) + 1 + (nw' : Int) := by rw [IntKind.wrap_i64]; omega
    have ne2 : xb ≠ rb := hxr
    have ne3 : yb ≠ rb := hyr
    have ne4 : 5 ≠ rb := hgr
    rcases Nat.lt_or_ge dw dw' with hmx | hmx
    · have hmi : (dw : Int) < (dw' : Int) := by omega
      have HE2 := Lib.hid (HE.out (dw' : Int) (by omega))
      have r0 : w4.cell? ⟨rb, 0, none⟩ = some (.string ⟨#[]⟩) := blk_cell R4.out rfl
      have r1 : w4.cell? ⟨rb, 1, none⟩ = some (.int .i64 0) := blk_cell R4.out rfl
      have r2 : w4.cell? ⟨rb, 2, none⟩ = some (.int .i64 0) := blk_cell R4.out rfl
      have g0 : w4.frozen? ⟨rb, 0, none⟩ = false := blk_free R4.out _
      have g1 : w4.frozen? ⟨rb, 1, none⟩ = false := blk_free R4.out _
      have g2 : w4.frozen? ⟨rb, 2, none⟩ = false := blk_free R4.out _
      have RF := blk_set (blk_set (blk_set R4.out 0 (.string (sw ++ ⟨#[32]⟩ ++ sg ++ ⟨#[32]⟩ ++ sw'))) 1 (.int .i64 ((nw : Int) + 1 + (nw' : Int)))) 2 (.int .i64 (dw' : Int))
      have q0 := blk_cell RF (j := 0) (v := .string (sw ++ ⟨#[32]⟩ ++ sg ++ ⟨#[32]⟩ ++ sw')) rfl
      have q1 := blk_cell RF (j := 1) (v := .int .i64 ((nw : Int) + 1 + (nw' : Int))) rfl
      have q2 := blk_cell RF (j := 2) (v := .int .i64 (dw' : Int)) rfl
      have hbf3 := bset (bset (bset hbf (p := ⟨rb, 0, none⟩) (by show w.heap.size ≤ rb; omega) (.string (sw ++ ⟨#[32]⟩ ++ sg ++ ⟨#[32]⟩ ++ sw'))) (p := ⟨rb, 1, none⟩) (by show w.heap.size ≤ rb; omega) (.int .i64 ((nw : Int) + 1 + (nw' : Int)))) (p := ⟨rb, 2, none⟩) (by show w.heap.size ≤ rb; omega) (.int .i64 (dw' : Int))
      clear RF
      go_upto_region 28 with fail
      go_region_held3 (fun w' => w'.cell? ⟨nb, 0, none⟩ = some (.int .i64 op) ∧ w'.cell? ⟨xb, 0, none⟩ = some (.string sw) ∧ w'.cell? ⟨xb, 1, none⟩ = some (.int .i64 (nw : Int)) ∧ w'.cell? ⟨yb, 0, none⟩ = some (.string sw') ∧ w'.cell? ⟨yb, 1, none⟩ = some (.int .i64 (nw' : Int)) ∧ w'.cell? ⟨5, j, none⟩ = some (.string sg))
        (first
          | exact ⟨n4, x0, x1, y0, y1, s0⟩
          | exact ⟨keep3 n4 ne1, keep3 x0 ne2, keep3 x1 ne2, keep3 y0 ne3, keep3 y1 ne3, keep3 s0 ne4⟩)
        (fail)
      go_split_ands
      go_wp2_with fail
      refine bodyPost_ret (v := .agg #[.string (sw ++ ⟨#[32]⟩ ++ sg ++ ⟨#[32]⟩ ++ sw'), .int .i64 ((nw : Int) + 1 + (nw' : Int)), .int .i64 (dw' : Int)]) ?_ rfl ?_
      · simp [results, Tryd.results47, go_sem, q0, q1, q2]
      · exact ⟨by rw [HE2.out]; rfl, bdrewN hbf3 1⟩
    · have hmi : (dw' : Int) ≤ (dw : Int) := by omega
      have HE2 := Lib.hid (HE.out (dw : Int) (by omega))
      have r0 : w4.cell? ⟨rb, 0, none⟩ = some (.string ⟨#[]⟩) := blk_cell R4.out rfl
      have r1 : w4.cell? ⟨rb, 1, none⟩ = some (.int .i64 0) := blk_cell R4.out rfl
      have r2 : w4.cell? ⟨rb, 2, none⟩ = some (.int .i64 0) := blk_cell R4.out rfl
      have g0 : w4.frozen? ⟨rb, 0, none⟩ = false := blk_free R4.out _
      have g1 : w4.frozen? ⟨rb, 1, none⟩ = false := blk_free R4.out _
      have g2 : w4.frozen? ⟨rb, 2, none⟩ = false := blk_free R4.out _
      have RF := blk_set (blk_set (blk_set R4.out 0 (.string (sw ++ ⟨#[32]⟩ ++ sg ++ ⟨#[32]⟩ ++ sw'))) 1 (.int .i64 ((nw : Int) + 1 + (nw' : Int)))) 2 (.int .i64 (dw : Int))
      have q0 := blk_cell RF (j := 0) (v := .string (sw ++ ⟨#[32]⟩ ++ sg ++ ⟨#[32]⟩ ++ sw')) rfl
      have q1 := blk_cell RF (j := 1) (v := .int .i64 ((nw : Int) + 1 + (nw' : Int))) rfl
      have q2 := blk_cell RF (j := 2) (v := .int .i64 (dw : Int)) rfl
      have hbf3 := bset (bset (bset hbf (p := ⟨rb, 0, none⟩) (by show w.heap.size ≤ rb; omega) (.string (sw ++ ⟨#[32]⟩ ++ sg ++ ⟨#[32]⟩ ++ sw'))) (p := ⟨rb, 1, none⟩) (by show w.heap.size ≤ rb; omega) (.int .i64 ((nw : Int) + 1 + (nw' : Int)))) (p := ⟨rb, 2, none⟩) (by show w.heap.size ≤ rb; omega) (.int .i64 (dw : Int))
      clear RF
      go_upto_region 28 with fail
      go_region_held3 (fun w' => w'.cell? ⟨nb, 0, none⟩ = some (.int .i64 op) ∧ w'.cell? ⟨xb, 0, none⟩ = some (.string sw) ∧ w'.cell? ⟨xb, 1, none⟩ = some (.int .i64 (nw : Int)) ∧ w'.cell? ⟨yb, 0, none⟩ = some (.string sw') ∧ w'.cell? ⟨yb, 1, none⟩ = some (.int .i64 (nw' : Int)) ∧ w'.cell? ⟨5, j, none⟩ = some (.string sg))
        (first
          | exact ⟨n4, x0, x1, y0, y1, s0⟩
          | exact ⟨keep3 n4 ne1, keep3 x0 ne2, keep3 x1 ne2, keep3 y0 ne3, keep3 y1 ne3, keep3 s0 ne4⟩)
        (fail)
      go_split_ands
      go_wp2_with fail
      refine bodyPost_ret (v := .agg #[.string (sw ++ ⟨#[32]⟩ ++ sg ++ ⟨#[32]⟩ ++ sw'), .int .i64 ((nw : Int) + 1 + (nw' : Int)), .int .i64 (dw : Int)]) ?_ rfl ?_
      · simp [results, Tryd.results47, go_sem, q0, q1, q2]
      · exact ⟨by rw [HE2.out]; rfl, bdrewN hbf3 1⟩
end Go.Proofs.YtfcdkadblagijaaDoor

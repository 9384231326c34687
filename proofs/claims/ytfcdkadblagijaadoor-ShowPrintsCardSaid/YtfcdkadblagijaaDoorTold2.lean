/-
  The reference's told, of a leaf.
-/
import Derived.Test.YtfcdkadblagijaaDoorTold
set_option linter.unusedSimpArgs false
set_option linter.unusedVariables false
namespace Go.Proofs.YtfcdkadblagijaaDoor
open Go.RowKit Go.ChangeShapes Go.WideShapes Go.ChangeAt Go.Deep Go.Joins
def sgrL : List (List UInt8) := [[43], [45], [42], [47], [37], [61], [33, 61], [60], [60, 61], [62], [62, 61], [65, 78, 68], [79, 82]]
def calL : List (List UInt8) := [[67, 79, 85, 78, 84], [83, 85, 77], [77, 73, 78], [77, 65, 88], [70, 73, 82, 83, 84], [76, 65, 83, 84], [80, 82, 69, 86]]
def SgrV (w : World) : Prop := ∃ t fr, w.heap[5]? = some (.cells (sgrL.map fun s => Value.string ⟨s.toArray⟩).toArray t fr)
def CalV (w : World) : Prop := ∃ t fr, w.heap[4]? = some (.cells (calL.map fun s => Value.string ⟨s.toArray⟩).toArray t fr)
theorem SgrV.later {w w' : World} (h : SgrV w) (hb : Below w.heap.size w w') : SgrV w' := by obtain ⟨t, fr, h⟩ := h; exact ⟨t, fr, blk_below h hb⟩
theorem CalV.later {w w' : World} (h : CalV w) (hb : Below w.heap.size w w') : CalV w' := by obtain ⟨t, fr, h⟩ := h; exact ⟨t, fr, blk_below h hb⟩
theorem SgrV.cell {w : World} (h : SgrV w) {j : Nat} (hj : j < 13) : w.cell? ⟨5, j, none⟩ = some (.string ⟨(sgrL.getD j []).toArray⟩) := by
  obtain ⟨t, fr, h⟩ := h
  refine blk_cell h ?_
  have : j < sgrL.length := hj
  simp [List.getD_eq_getElem?_getD, this]
theorem CalV.cell {w : World} (h : CalV w) {j : Nat} (hj : j < 7) : w.cell? ⟨4, j, none⟩ = some (.string ⟨(calL.getD j []).toArray⟩) := by
  obtain ⟨t, fr, h⟩ := h
  refine blk_cell h ?_
  have : j < calL.length := hj
  simp [List.getD_eq_getElem?_getD, this]
/-- What is told of tokens. -/
def tdV (P : List Tk) (d : Nat) : Value := .agg #[.string (jt P), .int .i64 (P.length : Nat), .int .i64 (d : Nat)]
theorem tdV_of {P : List Tk} {d : Nat} {s : ByteArray} {n e : Int} (h1 : s.data.toList = joinB P) (h2 : n = (P.length : Nat)) (h3 : e = (d : Nat)) : (Value.agg #[.string s, .int .i64 n, .int .i64 e]) = tdV P d := by
  subst h2 h3
  unfold tdV
  rw [show s = jt P from bext h1]
theorem blk_new4 (w : World) (o1 o2 o3 : Obj) (cs : Array Value) (T : TypeId) : ((((w.alloc o1).alloc o2).alloc o3).alloc (.cells cs T)).heap[w.heap.size + 1 + 1 + 1]? = some (.cells cs T (0, 0)) := by
  have h := blk_new (((w.alloc o1).alloc o2).alloc o3) cs T
  rwa [World.size_alloc, World.size_alloc, World.size_alloc] at h
theorem cal_kw {j : Nat} (hj : j < 7) : (kwAt (16 + j)).data.toList = calL.getD j [] := by
  have : ∀ j, j < 7 → kwList.getD (16 + j) [] = calL.getD j [] := by decide
  show (kwList.getD (16 + j) []) = _
  exact this j hj
theorem cal_size {j : Nat} (hj : j < 7) : (⟨(calL.getD j []).toArray⟩ : ByteArray).size ≤ 5 := by
  have : ∀ j, j < 7 → (calL.getD j []).length ≤ 5 := by decide
  simpa [ByteArray.size] using this j hj
set_option maxRecDepth 100000 in
set_option maxHeartbeats 4000000 in
theorem told_leaf (op nn a b : Int) (vr at_ : ByteArray) (h1 : 1 ≤ op) (h2 : op ≤ 11) (hn : I64 nn) (hv : vr.size ≤ 16) (ha : at_.size ≤ 16) (s1 s2 : ByteArray) (t1 d1 o1 t2 d2 o2 : Int) (w : World) (hp : Pow w) (hc : CalV w) :
    Calls Tryd.prog 47 #[.agg #[.int .i64 op, .int .i64 nn, .string vr, .string at_, .int .i64 a, .int .i64 b], .agg #[.string s1, .int .i64 t1, .int .i64 d1], .int .i64 o1, .agg #[.string s2, .int .i64 t2, .int .i64 d2], .int .i64 o2] w fun e w' =>
      e = .returned (tdV (leafT ⟨op, nn, vr, at_, a, b⟩) 0) ∧ Below w.heap.size w w' := by
  have hb4 := bnew (bnew (bnew (bnew (Below.refl w.heap.size w) (.cells #[.int .i64 op, .int .i64 nn, .string vr, .string at_, .int .i64 a, .int .i64 b] 44)) (.cells #[.string s1, .int .i64 t1, .int .i64 d1] 57)) (.cells #[.string s2, .int .i64 t2, .int .i64 d2] 57)) (.cells #[.string ⟨#[]⟩, .int .i64 0, .int .i64 0] 57)
  have hcs : op = 1 ∨ op = 2 ∨ op = 3 ∨ op = 4 ∨ op = 5 ∨ (6 ≤ op ∧ op ≤ 11) := by omega
  rcases hcs with rfl | rfl | rfl | rfl | rfl | ⟨h6, h11⟩
  · have HP := Lib.hid (hp.later hb4)
    have RB := Lib.hid (blk_new4 w (.cells #[.int .i64 1, .int .i64 nn, .string vr, .string at_, .int .i64 a, .int .i64 b] 44) (.cells #[.string s1, .int .i64 t1, .int .i64 d1] 57) (.cells #[.string s2, .int .i64 t2, .int .i64 d2] 57) #[.string ⟨#[]⟩, .int .i64 0, .int .i64 0] 57)
    clear hp
    have N0 := Lib.hid (blk_new4 w (.cells #[.int .i64 1, .int .i64 nn, .string vr, .string at_, .int .i64 a, .int .i64 b] 44) (.cells #[.string s1, .int .i64 t1, .int .i64 d1] 57) (.cells #[.string s2, .int .i64 t2, .int .i64 d2] 57) #[.string ⟨#[]⟩, .int .i64 0, .int .i64 0] 57)
    have n1 : ((((w.alloc (.cells #[.int .i64 1, .int .i64 nn, .string vr, .string at_, .int .i64 a, .int .i64 b] 44)).alloc (.cells #[.string s1, .int .i64 t1, .int .i64 d1] 57)).alloc (.cells #[.string s2, .int .i64 t2, .int .i64 d2] 57)).alloc (.cells #[.string ⟨#[]⟩, .int .i64 0, .int .i64 0] 57)).cell? ⟨w.heap.size, 1, none⟩ = some (.int .i64 nn) := by simp [go_sem]
    go_enter Tryd.func47, Tryd.ntmps47
    go_upto_region 2 with fail
    obtain ⟨rb, hrb⟩ : ∃ rb, w.heap.size + 1 + 1 + 1 = rb := ⟨_, rfl⟩
    rw [hrb] at RB
    rw [hrb]
    have hrl : w.heap.size ≤ rb := by omega
    clear hrb N0
    generalize World.alloc _ (.cells #[.string ⟨#[]⟩, .int .i64 0, .int .i64 0] 57) = w0 at *
    go_wp2_with fail
    refine (fmtInt_any nn hn.1 hn.2 _ HP.out).mono ?_
    rintro e w1 ⟨rfl, hb1⟩
    have R1 := Lib.hid (blk_below RB.out hb1)
    have hbf := bcall hb4 hb1
    have r0 : w1.cell? ⟨rb, 0, none⟩ = some (.string ⟨#[]⟩) := blk_cell R1.out rfl
    have r1 : w1.cell? ⟨rb, 1, none⟩ = some (.int .i64 0) := blk_cell R1.out rfl
    have r2 : w1.cell? ⟨rb, 2, none⟩ = some (.int .i64 0) := blk_cell R1.out rfl
    have g0 : w1.frozen? ⟨rb, 0, none⟩ = false := blk_free R1.out _
    have g1 : w1.frozen? ⟨rb, 1, none⟩ = false := blk_free R1.out _
    have g2 : w1.frozen? ⟨rb, 2, none⟩ = false := blk_free R1.out _
    obtain ⟨s, hs⟩ : ∃ s : ByteArray, ⟨(Lib.itoa nn).toArray⟩ = s := ⟨_, rfl⟩
    have HE := Lib.hid (show (Value.agg #[.string s, .int .i64 1, .int .i64 0]) = tdV (leafT ⟨1, nn, vr, at_, a, b⟩) 0 from tdV_of (by rw [← hs]; rfl) rfl rfl)
    have RF := blk_set (blk_set (blk_set R1.out 0 (.string s)) 1 (.int .i64 1)) 2 (.int .i64 0)
    have q0 := blk_cell RF (j := 0) (v := .string s) rfl
    have q1 := blk_cell RF (j := 1) (v := .int .i64 1) rfl
    have q2 := blk_cell RF (j := 2) (v := .int .i64 0) rfl
    have hbf3 := bset (bset (bset hbf (p := ⟨rb, 0, none⟩) (by show w.heap.size ≤ rb; omega) (.string s)) (p := ⟨rb, 1, none⟩) (by show w.heap.size ≤ rb; omega) (.int .i64 1)) (p := ⟨rb, 2, none⟩) (by show w.heap.size ≤ rb; omega) (.int .i64 0)
    rw [hs]
    clear hs RF
    go_wp2_with fail
    refine bodyPost_ret (v := .agg #[.string s, .int .i64 1, .int .i64 0]) ?_ rfl ?_
    · simp [results, Tryd.results47, go_sem, q0, q1, q2]
    · exact ⟨by rw [HE.out], hbf3⟩
  · go_enter Tryd.func47, Tryd.ntmps47
    go_wp2_with fail
    refine bodyPost_ret (v := .agg #[.string ⟨#[84, 82, 85, 69]⟩, .int .i64 1, .int .i64 0]) ?_ rfl ?_
    · simp [results, Tryd.results47, go_sem]
    · exact ⟨congrArg Ending.returned (tdV_of (by
        first
          | rfl
          | (simp only [app_list]
             show _ = joinB [mkT 44]
             simp [joinB, spB, nmT, mkT, spelAt, spelL, kwAt, kwList, List.append_assoc])) rfl rfl), by first | exact bnew (bnew (bnew (bnew (Below.refl _ _) _) _) _) _ | exact bdrewN (bnew (bnew (bnew (bnew (Below.refl _ _) _) _) _) _) 1⟩
  · go_enter Tryd.func47, Tryd.ntmps47
    go_wp2_with fail
    refine bodyPost_ret (v := .agg #[.string ⟨#[70, 65, 76, 83, 69]⟩, .int .i64 1, .int .i64 0]) ?_ rfl ?_
    · simp [results, Tryd.results47, go_sem]
    · exact ⟨congrArg Ending.returned (tdV_of (by
        first
          | rfl
          | (simp only [app_list]
             show _ = joinB [mkT 45]
             simp [joinB, spB, nmT, mkT, spelAt, spelL, kwAt, kwList, List.append_assoc])) rfl rfl), by first | exact bnew (bnew (bnew (bnew (Below.refl _ _) _) _) _) _ | exact bdrewN (bnew (bnew (bnew (bnew (Below.refl _ _) _) _) _) _) 1⟩
  · go_enter Tryd.func47, Tryd.ntmps47
    go_wp2_with fail
    refine bodyPost_ret (v := .agg #[.string (vr ++ ⟨#[32, 46, 32]⟩ ++ at_), .int .i64 3, .int .i64 0]) ?_ rfl ?_
    · simp [results, Tryd.results47, go_sem]
    · exact ⟨congrArg Ending.returned (tdV_of (by
        first
          | rfl
          | (simp only [app_list]
             show _ = joinB [nmT vr, mkT 8, nmT at_]
             simp [joinB, spB, nmT, mkT, spelAt, spelL, kwAt, kwList, List.append_assoc])) rfl rfl), by first | exact bnew (bnew (bnew (bnew (Below.refl _ _) _) _) _) _ | exact bdrewN (bnew (bnew (bnew (bnew (Below.refl _ _) _) _) _) _) 1⟩
  · go_enter Tryd.func47, Tryd.ntmps47
    go_wp2_with fail
    refine bodyPost_ret (v := .agg #[.string ((⟨#[67, 79, 85, 78, 84, 32, 40, 32]⟩ : ByteArray) ++ vr ++ ⟨#[32, 41]⟩), .int .i64 4, .int .i64 0]) ?_ rfl ?_
    · simp [results, Tryd.results47, go_sem]
    · exact ⟨congrArg Ending.returned (tdV_of (by
        first
          | rfl
          | (simp only [app_list]
             show _ = joinB [mkT 46, mkT 3, nmT vr, mkT 4]
             simp [joinB, spB, nmT, mkT, spelAt, spelL, kwAt, kwList, List.append_assoc])) rfl rfl), by first | exact bnew (bnew (bnew (bnew (Below.refl _ _) _) _) _) _ | exact bdrewN (bnew (bnew (bnew (bnew (Below.refl _ _) _) _) _) _) 1⟩
  · have q1 : (op == 1) = false := by rw [beq_eq_false_iff_ne]; omega
    have q2 : (op == 2) = false := by rw [beq_eq_false_iff_ne]; omega
    have q3 : (op == 3) = false := by rw [beq_eq_false_iff_ne]; omega
    have q4 : (op == 4) = false := by rw [beq_eq_false_iff_ne]; omega
    have q5 : (op == 5) = false := by rw [beq_eq_false_iff_ne]; omega
    have q6 : (op == 12) = false := by rw [beq_eq_false_iff_ne]; omega
    have q7 : (op == 13) = false := by rw [beq_eq_false_iff_ne]; omega
    obtain ⟨j, hj⟩ : ∃ j : Nat, op - 5 = (j : Int) := ⟨(op - 5).toNat, by omega⟩
    have hj7 : j < 7 := by omega
    have HLF := Lib.hid (show leafT ⟨op, nn, vr, at_, a, b⟩ = [mkT (47 + (op - 6)), mkT 3, nmT vr, mkT 8, nmT at_, mkT 4] by
      unfold leafT
      rw [if_neg (by show ¬ op = 1; omega), if_neg (by show ¬ op = 2; omega), if_neg (by show ¬ op = 3; omega), if_neg (by show ¬ op = 4; omega), if_neg (by show ¬ op = 5; omega)])
    have hsp : (spB (mkT (47 + (op - 6)))).data.toList = calL.getD j [] := by
      rw [← cal_kw hj7]
      show (if 47 + (op - 6) = 1 then (⟨#[]⟩ : ByteArray) else if 47 + (op - 6) = 2 then ⟨(Lib.itoa 0).toArray⟩ else if 47 + (op - 6) ≤ 21 then spelAt (47 + (op - 6)).toNat else kwAt (47 + (op - 6) - 30).toNat).data.toList = _
      rw [if_neg (by omega), if_neg (by omega), if_neg (by omega), show (47 + (op - 6) - 30).toNat = 16 + j by omega]
    have c0 := (hc.later hb4).cell hj7
    have hx5 := cal_size hj7
    obtain ⟨x, hx⟩ : ∃ x : ByteArray, ⟨(calL.getD j []).toArray⟩ = x := ⟨_, rfl⟩
    rw [hx] at c0 hx5
    have HE := Lib.hid (show (Value.agg #[.string (x ++ ⟨#[32, 40, 32]⟩ ++ vr ++ ⟨#[32, 46, 32]⟩ ++ at_ ++ ⟨#[32, 41]⟩), .int .i64 6, .int .i64 0]) = tdV (leafT ⟨op, nn, vr, at_, a, b⟩) 0 by
      refine tdV_of ?_ (by rw [HLF.out]; rfl) rfl
      rw [HLF.out, ← hx]
      simp only [app_list]
      show calL.getD j [] ++ [32, 40, 32] ++ vr.data.toList ++ [32, 46, 32] ++ at_.data.toList ++ [32, 41] = (spB (mkT (47 + (op - 6)))).data.toList ++ 32 :: ([40] ++ 32 :: (vr.data.toList ++ 32 :: ([46] ++ 32 :: (at_.data.toList ++ 32 :: [41]))))
      rw [hsp]
      simp)
    clear hsp hx
    go_enter Tryd.func47, Tryd.ntmps47
    go_wp2_with fail
    go_region
    go_wp2_with fail
    refine bodyPost_ret (v := .agg #[.string (x ++ ⟨#[32, 40, 32]⟩ ++ vr ++ ⟨#[32, 46, 32]⟩ ++ at_ ++ ⟨#[32, 41]⟩), .int .i64 6, .int .i64 0]) ?_ rfl ?_
    · simp [results, Tryd.results47, go_sem]
    · exact ⟨by rw [HE.out], by first | exact bnew (bnew (bnew (bnew (Below.refl _ _) _) _) _) _ | exact bdrewN (bnew (bnew (bnew (bnew (Below.refl _ _) _) _) _) _) 1⟩
end Go.Proofs.YtfcdkadblagijaaDoor

/-
  The walk of leaf.
-/
import Derived.Test.YtfcdkadblagijaaDoorWriter2
set_option linter.unusedSimpArgs false
set_option linter.unusedVariables false
namespace Go.Proofs.YtfcdkadblagijaaDoor
open Go.RowKit Go.ChangeShapes Go.WideShapes Go.ChangeAt Go.Deep Go.Joins
theorem cell_alloc {w : World} {a : Addr} {v : Value} (h : w.cell? a = some v) (o : Obj) : (w.alloc o).cell? a = some v := (World.cell?_alloc_lt w o a (cell_lt h)).trans h
theorem tkRd_blk {w : World} {g : Nat} {cs : Array Value} {M : List Tk} (h : w.heap[g]? = some (.cells cs 62 (0, 0))) (e : cs.toList = tkCells M) : TkRd w (some ⟨g, 0, none⟩) M :=
  Or.inr ⟨_, rfl, by rw [← e]; exact World.news_of_block (cs := cs) (t := 62) (fr := (0, 0)) h⟩
/-- What leaf ends with. -/
def LfEnd (w w' : World) (M : List Tk) (e : Ending) : Prop := ∃ A c, e = .returned (.slice A M.length c) ∧ Below w.heap.size w w' ∧ TkRd w' A M
theorem lf_blk {w w' : World} {M : List Tk} {g n c : Nat} {cs : Array Value} (hn : n = M.length) (hb : Below w.heap.size w w') (h : w'.heap[g]? = some (.cells cs 62 (0, 0))) (e : cs.toList = tkCells M) : LfEnd w w' M (.returned (.slice (some ⟨g, 0, none⟩) n c)) := by
  subst hn
  exact ⟨_, c, rfl, hb, tkRd_blk h e⟩
set_option maxRecDepth 100000 in
set_option maxHeartbeats 4000000 in
theorem leaf_any (op nn a b : Int) (vr at_ : ByteArray) (h1 : 1 ≤ op) (h2 : op ≤ 11) (w : World) :
    Calls Tryd.prog 45 #[.agg #[.int .i64 op, .int .i64 nn, .string vr, .string at_, .int .i64 a, .int .i64 b]] w fun e w' => LfEnd w w' (leafT ⟨op, nn, vr, at_, a, b⟩) e := by
  have hb0 := bnew (Below.refl w.heap.size w) (.cells #[.int .i64 op, .int .i64 nn, .string vr, .string at_, .int .i64 a, .int .i64 b] 44)
  have B0 := Lib.hid (blk_new w #[.int .i64 op, .int .i64 nn, .string vr, .string at_, .int .i64 a, .int .i64 b] 44)
  have hcs : op = 1 ∨ op = 2 ∨ op = 3 ∨ op = 5 ∨ op = 4 ∨ (6 ≤ op ∧ op ≤ 11) := by omega
  rcases hcs with rfl | rfl | rfl | rfl | rfl | ⟨h6, h11⟩
  · go_enter Tryd.func45, Tryd.ntmps45
    go_wp2_with fail
    refine (tokNum_any nn _).mono ?_
    rintro e w1 ⟨rfl, hb1⟩
    have hb2 := bnew (bcall hb0 hb1) (.cells #[.int .i64 2, .string ⟨#[]⟩, .int .i64 nn, .int .i64 0] 62)
    have B2 := Lib.hid (blk_new w1 #[.int .i64 2, .string ⟨#[]⟩, .int .i64 nn, .int .i64 0] 62)
    go_wp2_with fail
    refine (one_any _ _ _ _).mono ?_
    rintro e w2 ⟨rfl, rfl⟩
    go_wp2_with fail
    go_ret
    exact lf_blk rfl hb2 B2.out rfl
  · go_enter Tryd.func45, Tryd.ntmps45
    go_wp2_with fail
    refine (mark_any 44 _).mono ?_
    rintro e w1 ⟨rfl, hb1⟩
    have hb2 := bnew (bcall hb0 hb1) (.cells #[.int .i64 44, .string ⟨#[]⟩, .int .i64 0, .int .i64 0] 62)
    have B2 := Lib.hid (blk_new w1 #[.int .i64 44, .string ⟨#[]⟩, .int .i64 0, .int .i64 0] 62)
    go_wp2_with fail
    refine (one_any _ _ _ _).mono ?_
    rintro e w2 ⟨rfl, rfl⟩
    go_wp2_with fail
    go_ret
    exact lf_blk rfl hb2 B2.out rfl
  · go_enter Tryd.func45, Tryd.ntmps45
    go_wp2_with fail
    refine (mark_any 45 _).mono ?_
    rintro e w1 ⟨rfl, hb1⟩
    have hb2 := bnew (bcall hb0 hb1) (.cells #[.int .i64 45, .string ⟨#[]⟩, .int .i64 0, .int .i64 0] 62)
    have B2 := Lib.hid (blk_new w1 #[.int .i64 45, .string ⟨#[]⟩, .int .i64 0, .int .i64 0] 62)
    go_wp2_with fail
    refine (one_any _ _ _ _).mono ?_
    rintro e w2 ⟨rfl, rfl⟩
    go_wp2_with fail
    go_ret
    exact lf_blk rfl hb2 B2.out rfl
  · have z0 : (w.alloc (.cells #[.int .i64 5, .int .i64 nn, .string vr, .string at_, .int .i64 a, .int .i64 b] 44)).cell? ⟨w.heap.size, 2, none⟩ = some (.string vr) := blk_cell B0.out (j := 2) rfl
    go_enter Tryd.func45, Tryd.ntmps45
    go_upto_region 9 with fail
    generalize w.alloc _ = w0 at *
    go_region_held3 (fun w' => w'.cell? ⟨w.heap.size, 2, none⟩ = some (.string vr) ∧ Below w0.heap.size w0 w')
      (first
        | exact ⟨z0, (Below.refl _ _).drew⟩
        | (go_split_ands; exact ⟨(hbz.cell (p := ⟨w.heap.size, 2, none⟩) (cell_lt (v := .string vr) (by assumption))).trans (by assumption), bcall (by assumption) hbz⟩)
        | (go_split_ands; exact ⟨cell_alloc (by assumption) _, bnew (by assumption) _⟩)
        | (go_split_ands; exact ⟨by assumption, by assumption⟩))
      (first
        | (go_at_call 26; refine (mark_any _ _).mono ?_; rintro e wz ⟨rfl, hbz⟩)
        | (go_at_call 31; refine (tokName_any _ _).mono ?_; rintro e wz ⟨rfl, hbz⟩)
        | (go_at_call 56; refine (one_any _ _ _ _).mono ?_; rintro e wz ⟨rfl, rfl⟩))
    go_split_ands
    have hbx : Below w0.heap.size w0 (wz.alloc (.cells #[.int .i64 46, .string ⟨#[]⟩, .int .i64 0, .int .i64 0, .int .i64 3, .string ⟨#[]⟩, .int .i64 0, .int .i64 0, .int .i64 1, .string vr, .int .i64 0, .int .i64 0, .int .i64 4, .string ⟨#[]⟩, .int .i64 0, .int .i64 0] 62)) := by assumption
    go_wp2_with fail
    go_ret
    exact lf_blk rfl (bcall hb0 hbx) (blk_new wz _ _) rfl
  · have z0 : (w.alloc (.cells #[.int .i64 4, .int .i64 nn, .string vr, .string at_, .int .i64 a, .int .i64 b] 44)).cell? ⟨w.heap.size, 2, none⟩ = some (.string vr) := blk_cell B0.out (j := 2) rfl
    have z1 : (w.alloc (.cells #[.int .i64 4, .int .i64 nn, .string vr, .string at_, .int .i64 a, .int .i64 b] 44)).cell? ⟨w.heap.size, 3, none⟩ = some (.string at_) := blk_cell B0.out (j := 3) rfl
    go_enter Tryd.func45, Tryd.ntmps45
    go_upto_region 10 with fail
    generalize w.alloc _ = w0 at *
    go_region_held3 (fun w' => w'.cell? ⟨w.heap.size, 2, none⟩ = some (.string vr) ∧ w'.cell? ⟨w.heap.size, 3, none⟩ = some (.string at_) ∧ Below w0.heap.size w0 w')
      (first
        | exact ⟨z0, z1, (Below.refl _ _).drew⟩
        | (go_split_ands; exact ⟨(hbz.cell (p := ⟨w.heap.size, 2, none⟩) (cell_lt (v := .string vr) (by assumption))).trans (by assumption), (hbz.cell (p := ⟨w.heap.size, 3, none⟩) (cell_lt (v := .string at_) (by assumption))).trans (by assumption), bcall (by assumption) hbz⟩)
        | (go_split_ands; exact ⟨cell_alloc (by assumption) _, cell_alloc (by assumption) _, bnew (by assumption) _⟩)
        | (go_split_ands; exact ⟨by assumption, by assumption, by assumption⟩))
      (first
        | (go_at_call 26; refine (mark_any _ _).mono ?_; rintro e wz ⟨rfl, hbz⟩)
        | (go_at_call 31; refine (tokName_any _ _).mono ?_; rintro e wz ⟨rfl, hbz⟩)
        | (go_at_call 56; refine (one_any _ _ _ _).mono ?_; rintro e wz ⟨rfl, rfl⟩))
    go_split_ands
    have hbx : Below w0.heap.size w0 (wz.alloc (.cells #[.int .i64 1, .string vr, .int .i64 0, .int .i64 0, .int .i64 8, .string ⟨#[]⟩, .int .i64 0, .int .i64 0, .int .i64 1, .string at_, .int .i64 0, .int .i64 0] 62)) := by assumption
    have o0 := blk_cell (blk_below B0.out hbx) (j := 0) rfl
    go_wp2_with fail
    go_ret
    exact lf_blk rfl (bcall hb0 hbx) (blk_new wz _ _) rfl
  · have z0 : (w.alloc (.cells #[.int .i64 op, .int .i64 nn, .string vr, .string at_, .int .i64 a, .int .i64 b] 44)).cell? ⟨w.heap.size, 2, none⟩ = some (.string vr) := blk_cell B0.out (j := 2) rfl
    have z1 : (w.alloc (.cells #[.int .i64 op, .int .i64 nn, .string vr, .string at_, .int .i64 a, .int .i64 b] 44)).cell? ⟨w.heap.size, 3, none⟩ = some (.string at_) := blk_cell B0.out (j := 3) rfl
    have q1 : (op == 1) = false := by rw [beq_eq_false_iff_ne]; omega
    have q2 : (op == 2) = false := by rw [beq_eq_false_iff_ne]; omega
    have q3 : (op == 3) = false := by rw [beq_eq_false_iff_ne]; omega
    have q4 : (op == 4) = false := by rw [beq_eq_false_iff_ne]; omega
    have q5 : (op == 5) = false := by rw [beq_eq_false_iff_ne]; omega
    have HLF := Lib.hid (show leafT ⟨op, nn, vr, at_, a, b⟩ = [mkT (47 + (op - 6)), mkT 3, nmT vr, mkT 8, nmT at_, mkT 4] by
      unfold leafT
      rw [if_neg (by show ¬ op = 1; omega), if_neg (by show ¬ op = 2; omega), if_neg (by show ¬ op = 3; omega), if_neg (by show ¬ op = 4; omega), if_neg (by show ¬ op = 5; omega)])
    go_enter Tryd.func45, Tryd.ntmps45
    go_upto_region 10 with fail
    generalize w.alloc _ = w0 at *
    go_region_held3 (fun w' => w'.cell? ⟨w.heap.size, 2, none⟩ = some (.string vr) ∧ w'.cell? ⟨w.heap.size, 3, none⟩ = some (.string at_) ∧ Below w0.heap.size w0 w')
      (first
        | exact ⟨z0, z1, (Below.refl _ _).drew⟩
        | (go_split_ands; exact ⟨(hbz.cell (p := ⟨w.heap.size, 2, none⟩) (cell_lt (v := .string vr) (by assumption))).trans (by assumption), (hbz.cell (p := ⟨w.heap.size, 3, none⟩) (cell_lt (v := .string at_) (by assumption))).trans (by assumption), bcall (by assumption) hbz⟩)
        | (go_split_ands; exact ⟨cell_alloc (by assumption) _, cell_alloc (by assumption) _, bnew (by assumption) _⟩)
        | (go_split_ands; exact ⟨by assumption, by assumption, by assumption⟩))
      (first
        | (go_at_call 26; refine (mark_any _ _).mono ?_; rintro e wz ⟨rfl, hbz⟩)
        | (go_at_call 31; refine (tokName_any _ _).mono ?_; rintro e wz ⟨rfl, hbz⟩)
        | (go_at_call 56; refine (one_any _ _ _ _).mono ?_; rintro e wz ⟨rfl, rfl⟩))
    go_split_ands
    have hbx : Below w0.heap.size w0 (wz.alloc (.cells #[.int .i64 1, .string vr, .int .i64 0, .int .i64 0, .int .i64 8, .string ⟨#[]⟩, .int .i64 0, .int .i64 0, .int .i64 1, .string at_, .int .i64 0, .int .i64 0] 62)) := by assumption
    have o0 : (wz.alloc (.cells #[.int .i64 1, .string vr, .int .i64 0, .int .i64 0, .int .i64 8, .string ⟨#[]⟩, .int .i64 0, .int .i64 0, .int .i64 1, .string at_, .int .i64 0, .int .i64 0] 62)).cell? ⟨w.heap.size, 0, none⟩ = some (.int .i64 op) := blk_cell (blk_below B0.out hbx) (j := 0) rfl
    have FB := Lib.hid (blk_new wz #[.int .i64 1, .string vr, .int .i64 0, .int .i64 0, .int .i64 8, .string ⟨#[]⟩, .int .i64 0, .int .i64 0, .int .i64 1, .string at_, .int .i64 0, .int .i64 0] 62)
    obtain ⟨gf, hgf⟩ : ∃ g, wz.heap.size = g := ⟨_, rfl⟩
    rw [hgf] at FB
    have hb1 := bcall hb0 hbx
    clear hbx
    go_upto_region 11 with fail
    try rw [hgf]
    clear hgf
    generalize wz.alloc _ = W at *
    go_wp2_with fail
    refine (mark_any (47 + (op - 6)) _).mono ?_
    rintro e u1 ⟨rfl, d1⟩
    go_wp2_with fail
    refine (mark_any 3 _).mono ?_
    rintro e u2 ⟨rfl, d2⟩
    have d3 := bnew (bcall d1 d2) (.cells #[.int .i64 (47 + (op - 6)), .string ⟨#[]⟩, .int .i64 0, .int .i64 0, .int .i64 3, .string ⟨#[]⟩, .int .i64 0, .int .i64 0] 62)
    have P1 := Lib.hid (blk_new u2 #[.int .i64 (47 + (op - 6)), .string ⟨#[]⟩, .int .i64 0, .int .i64 0, .int .i64 3, .string ⟨#[]⟩, .int .i64 0, .int .i64 0] 62)
    obtain ⟨g1, hg1⟩ : ∃ g, u2.heap.size = g := ⟨_, rfl⟩
    rw [hg1] at P1
    go_wp2_with fail
    refine (one_any _ _ _ _).mono ?_
    rintro e u3 ⟨rfl, rfl⟩
    try rw [hg1]
    clear hg1
    generalize u2.alloc _ = u3 at *
    go_wp2_with fail
    refine (mark_any 4 _).mono ?_
    rintro e u4 ⟨rfl, d4⟩
    have d5 := bnew (bcall d3 d4) (.cells #[.int .i64 4, .string ⟨#[]⟩, .int .i64 0, .int .i64 0] 62)
    have P3 := Lib.hid (blk_new u4 #[.int .i64 4, .string ⟨#[]⟩, .int .i64 0, .int .i64 0] 62)
    replace P1 := Lib.hid (blk_alloc (blk_below P1.out d4) (.cells #[.int .i64 4, .string ⟨#[]⟩, .int .i64 0, .int .i64 0] 62))
    obtain ⟨g3, hg3⟩ : ∃ g, u4.heap.size = g := ⟨_, rfl⟩
    rw [hg3] at P3
    go_wp2_with fail
    refine (one_any _ _ _ _).mono ?_
    rintro e u5 ⟨rfl, rfl⟩
    try rw [hg3]
    clear hg3
    generalize u4.alloc _ = u5 at *
    replace FB := Lib.hid (blk_below FB.out d5)
    have d6 := bnew d5 (.cells #[.slice (some ⟨g1, 0, none⟩) 2 2, .slice (some ⟨gf, 0, none⟩) 3 3, .slice (some ⟨g3, 0, none⟩) 1 1] 51)
    have PL := Lib.hid (blk_new u5 #[.slice (some ⟨g1, 0, none⟩) 2 2, .slice (some ⟨gf, 0, none⟩) 3 3, .slice (some ⟨g3, 0, none⟩) 1 1] 51)
    replace P1 := Lib.hid (blk_alloc P1.out (.cells #[.slice (some ⟨g1, 0, none⟩) 2 2, .slice (some ⟨gf, 0, none⟩) 3 3, .slice (some ⟨g3, 0, none⟩) 1 1] 51))
    replace P3 := Lib.hid (blk_alloc P3.out (.cells #[.slice (some ⟨g1, 0, none⟩) 2 2, .slice (some ⟨gf, 0, none⟩) 3 3, .slice (some ⟨g3, 0, none⟩) 1 1] 51))
    replace FB := Lib.hid (blk_alloc FB.out (.cells #[.slice (some ⟨g1, 0, none⟩) 2 2, .slice (some ⟨gf, 0, none⟩) 3 3, .slice (some ⟨g3, 0, none⟩) 1 1] 51))
    go_wp2_with fail
    refine (glue_any u5.heap.size (fun j => if j = 0 then ⟨g1, 0, none⟩ else if j = 1 then ⟨gf, 0, none⟩ else ⟨g3, 0, none⟩) (fun j => if j = 0 then 2 else if j = 1 then 3 else 1) (fun j => if j = 0 then [mkT (47 + (op - 6)), mkT 3] else if j = 1 then [nmT vr, mkT 8, nmT at_] else [mkT 4]) _ ?_ ?_ ?_ ?_).mono ?_
    · intro j hj
      obtain rfl | rfl | rfl : j = 0 ∨ j = 1 ∨ j = 2 := by omega
      · exact blk_cell PL.out (j := 0) rfl
      · exact blk_cell PL.out (j := 1) rfl
      · exact blk_cell PL.out (j := 2) rfl
    · intro j hj
      obtain rfl | rfl | rfl : j = 0 ∨ j = 1 ∨ j = 2 := by omega
      · exact World.news_of_block (t := 62) (fr := (0, 0)) P1.out
      · exact World.news_of_block (t := 62) (fr := (0, 0)) FB.out
      · exact World.news_of_block (t := 62) (fr := (0, 0)) P3.out
    · intro j hj
      obtain rfl | rfl | rfl : j = 0 ∨ j = 1 ∨ j = 2 := by omega
      · exact Nat.succ_pos _
      · exact Nat.succ_pos _
      · exact Nat.succ_pos _
    · intro j hj
      obtain rfl | rfl | rfl : j = 0 ∨ j = 1 ∨ j = 2 := by omega
      · show (2 : Nat) ≤ 10; omega
      · show (3 : Nat) ≤ 10; omega
      · show (1 : Nat) ≤ 10; omega
    · rintro e u7 ⟨A7, c7, rfl, d7, o7⟩
      have hbf := bcall hb1 (bcall d6 d7)
      have HE := Lib.hid (show LfEnd w u7 (leafT ⟨op, nn, vr, at_, a, b⟩) (.returned (.slice A7 6 c7)) by
        rw [HLF.out]
        refine ⟨A7, c7, rfl, hbf, Or.inr ?_⟩
        obtain ⟨g, cap, hv, _, _⟩ := o7.form (by show 0 < 6; omega)
        injection hv with hA _ hc
        subst hA hc
        refine ⟨_, rfl, ?_⟩
        intro q u hq
        exact o7.cells (g := g) rfl q u hq)
      clear o7
      go_wp2_with fail
      go_ret
      exact HE.out
end Go.Proofs.YtfcdkadblagijaaDoor

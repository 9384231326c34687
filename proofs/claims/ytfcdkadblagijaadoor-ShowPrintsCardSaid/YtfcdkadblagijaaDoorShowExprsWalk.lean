/-
  The walks of the reference's Expr and of the law ShowExprs, and its arguments opened.
-/
import Derived.Test.YtfcdkadblagijaaDoorWhole
import Derived.Test.YtfcdkadblagijaaDoorShowTreesWalk
set_option linter.unusedSimpArgs false
set_option linter.unusedVariables false
namespace Go.Proofs.YtfcdkadblagijaaDoor
open Go.RowKit Go.ChangeShapes Go.WideShapes Go.ChangeAt Go.Deep Go.Joins
set_option maxRecDepth 100000 in
set_option maxHeartbeats 2000000 in
theorem refExpr_any (A : Option Addr) (n c : Nat) (f : Nat → Nod) (T : Nat → Tr) (hT : TreesOk n f T) (w : World) (h : NodRd w w.heap.size A n f) (hw : ∀ i, i < n → NodWf (f i)) (hp : Pow w) (hcl : CalV w) (hsg : SgrV w) {tt : TypeId} {fr : Nat × Nat} (hkw : w.heap[2]? = some (.cells kwArr tt fr)) :
    Calls Tryd.prog 12 #[.slice A n c] w fun e w' => e = .returned (.tuple #[.string (exprOf n f T).1, .int .i64 (exprOf n f T).2]) ∧ Below w.heap.size w w' := by
  have hn := h.small
  have HT := Lib.hid h
  have HTR := Lib.hid hT
  have HW := Lib.hid hw
  have PW := Lib.hid hp
  have CL := Lib.hid hcl
  have SG := Lib.hid hsg
  have HK := Lib.hid hkw
  clear h hT hw hp hcl hsg hkw
  go_enter Tryd.func12, Tryd.ntmps12
  go_wp2_with fail
  refine (refTree_any A n c f _ HT.out HK.out).mono ?_
  rintro e w1 ⟨rfl, hb1⟩
  cases htb : treeB n f
  · have HE := Lib.hid (show exprOf n f T = (⟨#[]⟩, 50) from if_neg (by rw [htb]; simp))
    clear htb
    go_wp2_with fail
    go_ret2
    exact ⟨by rw [HE.out]; rfl, hb1⟩
  · obtain ⟨h0, hall⟩ := HTR.out htb
    by_cases hbig : 400 < n
    · have HE := Lib.hid (show exprOf n f T = (⟨#[]⟩, 51) by unfold exprOf; rw [if_pos htb, if_pos hbig])
      have hbi : (400 : Int) < (n : Int) := by omega
      clear htb hall
      go_wp2_with fail
      go_ret2
      exact ⟨by rw [HE.out]; rfl, hb1⟩
    · have HE := Lib.hid (show exprOf n f T = textRes (T (n - 1)).toks (T (n - 1)).dp by unfold exprOf; rw [if_pos htb, if_neg hbig])
      have hbi : (n : Int) ≤ 400 := by omega
      have HALL := Lib.hid hall
      have hszn := (hall (n - 1) (by omega)).2
      have hkl := toks_len (T (n - 1))
      have hkd := dp_len (T (n - 1))
      clear htb hall
      go_wp2_with fail
      refine (whole_any A n c f T HALL.out HW.out h0 (by omega) _ (HT.out.later hb1) (PW.out.later hb1) (CL.out.later hb1) (SG.out.later hb1)).mono ?_
      unfold tdV
      unfold textRes at HE
      obtain ⟨s, hs⟩ : ∃ s, jt (T (n - 1)).toks = s := ⟨_, rfl⟩
      rw [show (⟨(joinB (T (n - 1)).toks).toArray⟩ : ByteArray) = s from hs] at HE
      obtain ⟨q, hq⟩ : ∃ q, (T (n - 1)).toks.length = q := ⟨_, rfl⟩
      obtain ⟨dq, hdq⟩ : ∃ q, (T (n - 1)).dp = q := ⟨_, rfl⟩
      rw [hs, hq, hdq]
      rw [hq, hdq] at HE
      rw [hq] at hkl
      rw [hdq] at hkd
      clear hs hq hdq
      rintro e w2 ⟨rfl, hb2⟩
      have hb3 := bnew (bcall hb1 hb2) (.cells #[.string s, .int .i64 (q : Int), .int .i64 (dq : Int)] 57)
      by_cases hq4 : 400 < q
      · have hqi : (400 : Int) < (q : Int) := by omega
        have HE2 := Lib.hid (HE.out.trans (if_pos hq4))
        go_wp2_with fail
        go_ret2
        exact ⟨by rw [HE2.out]; rfl, hb3⟩
      · have hqi : (q : Int) ≤ 400 := by omega
        by_cases hd3 : 32 < dq
        · have hdi : (32 : Int) < (dq : Int) := by omega
          have HE2 := Lib.hid (HE.out.trans ((if_neg hq4).trans (if_pos hd3)))
          go_wp2_with fail
          go_ret2
          exact ⟨by rw [HE2.out]; rfl, hb3⟩
        · have hdi : (dq : Int) ≤ 32 := by omega
          have HE2 := Lib.hid (HE.out.trans ((if_neg hq4).trans (if_neg hd3)))
          go_wp2_with fail
          go_ret2
          exact ⟨by rw [HE2.out]; rfl, hb3⟩
set_option maxRecDepth 100000 in
set_option maxHeartbeats 1000000 in
theorem showExprs_walk (A : Option Addr) (n c : Nat) (f : Nat → Nod) (w : World) (h : NodRd w w.heap.size A n f) (hw : ∀ i, i < n → NodWf (f i)) (hlv : LevV w) (hsg : SgnV w) (hp : Pow w) (hs : SplV w) (hcl : CalV w) (hsr : SgrV w) {tt : TypeId} {fr : Nat × Nat} (hkw : w.heap[2]? = some (.cells kwArr tt fr)) :
    Calls Tryd.prog 4 #[.slice A n c] w fun e w' => e = .returned (.bool true) ∧ Below w.heap.size w w' := by
  have hn6 := h.1
  obtain ⟨T, hT⟩ := trees_ok n f
  have HTR := Lib.hid hT
  have HT := Lib.hid h
  have HW := Lib.hid hw
  have LV := Lib.hid hlv
  have SG := Lib.hid hsg
  have PW := Lib.hid hp
  have SP := Lib.hid hs
  have CL := Lib.hid hcl
  have SR := Lib.hid hsr
  have HK := Lib.hid hkw
  clear h hkw hT hw hlv hsg hp hs hcl hsr
  go_enter Tryd.func4, Tryd.ntmps4
  go_wp2_with fail
  refine (beyond_any A n c f _ HT.out).mono ?_
  rintro e w1 ⟨⟨bb, rfl⟩, hb1⟩
  cases bb
  · go_wp2_with fail
    refine (twinTree5_any A n c f _ (HT.out.later hb1)).mono ?_
    rintro e w2 ⟨v2, rfl, hb2, hown2⟩
    obtain ⟨A2, c2, rfl, _⟩ := rowown_shape hown2
    have HR2 := Lib.hid (show NodRd w2 w2.heap.size A2 n f from rowown_rd hown2 hn6)
    have hb2' := bcall hb1 hb2
    clear hown2
    go_wp2_with fail
    refine (showExpr_any A n c f T HTR.out _ (HT.out.later hb2') HW.out (LV.out.later hb2') (SG.out.later hb2') (PW.out.later hb2') (SP.out.later hb2') (block_below HK.out hb2')).mono ?_
    obtain ⟨r, hr⟩ : ∃ r, exprOf n f T = r := ⟨_, rfl⟩
    have HRR := Lib.hid hr
    rw [hr]
    clear hr
    obtain ⟨s, k⟩ := r
    dsimp only
    rintro e w3 ⟨rfl, hb3⟩
    have hb3' := bcall hb2' hb3
    go_wp2_with fail
    refine (refExpr_any A2 n c2 f T HTR.out _ (HR2.out.later hb3) HW.out (PW.out.later hb3') (CL.out.later hb3') (SR.out.later hb3') (block_below HK.out hb3')).mono ?_
    rw [HRR.out]
    dsimp only
    rintro e w4 ⟨rfl, hb4⟩
    have hb4' := bcall hb3' hb4
    have q1 : (s.toList == s.toList) = true := beq_self_eq_true _
    have q2 : (k == k) = true := beq_self_eq_true _
    go_wp2_with fail
    refine (sameTree5_same A A2 n c c2 f _ (HT.out.later hb4') (HR2.out.later (bcall hb3 hb4))).mono ?_
    rintro e w5 ⟨rfl, q, rfl⟩
    go_wp2_with fail
    go_ret
    exact ⟨rfl, bdrewN hb4' q⟩
  · go_wp2_with fail
    go_ret
    exact ⟨rfl, hb1⟩
/-! ### The tables, as the rows list them -/
theorem gLev : Tryd.prog.globalNamed "sluice/show.levels" = some 3 := by kernel_rfl
theorem tLev : (Tryd.prog.globals[3]?).map (·.type) = some 89 := by kernel_rfl
theorem gSgn : Tryd.prog.globalNamed "sluice/show.signs" = some 1 := by kernel_rfl
theorem tSgn : (Tryd.prog.globals[1]?).map (·.type) = some 78 := by kernel_rfl
theorem gSpl : Tryd.prog.globalNamed "sluice/lex.spellings" = some 6 := by kernel_rfl
theorem tSpl : (Tryd.prog.globals[6]?).map (·.type) = some 106 := by kernel_rfl
theorem gSgr : Tryd.prog.globalNamed "sluice/sluiceref5.signs" = some 5 := by kernel_rfl
theorem tSgr : (Tryd.prog.globals[5]?).map (·.type) = some 96 := by kernel_rfl
theorem gCal : Tryd.prog.globalNamed "sluice/sluiceref5.calls" = some 4 := by kernel_rfl
theorem tCal : (Tryd.prog.globals[4]?).map (·.type) = some 95 := by kernel_rfl
theorem levVar {W : World} {laid : List (String × DataW Unit)} (h : laidMet Tryd.prog laid W) (i : Nat) (hi : laid[i]? = some ("sluice/show.levels", Rows.laid_sluice_show_levels)) : LevV W := by
  obtain ⟨cs, fuel, p, hv, hd⟩ := laid_at h i hi gLev tLev
  have hc := Lib.cells_of_tab (zs := levL) (k := .i64) Tryd.underlying89 Tryd.underlying3 (by kernel_rfl) (by kernel_rfl) hd
  obtain ⟨t, fr, hb⟩ := var_block gLev hv
  refine ⟨t, fr, ?_⟩
  rw [hb]
  congr 2
  apply Array.ext'
  rw [List.toList_toArray]
  exact hc
theorem sgnVar {W : World} {laid : List (String × DataW Unit)} (h : laidMet Tryd.prog laid W) (i : Nat) (hi : laid[i]? = some ("sluice/show.signs", Rows.laid_sluice_show_signs)) : SgnV W := by
  obtain ⟨cs, fuel, p, hv, hd⟩ := laid_at h i hi gSgn tSgn
  have hc := Lib.cells_of_tab (zs := sgnL) (k := .i64) Tryd.underlying78 Tryd.underlying60 (by kernel_rfl) (by kernel_rfl) hd
  obtain ⟨t, fr, hb⟩ := var_block gSgn hv
  refine ⟨t, fr, ?_⟩
  rw [hb]
  congr 2
  apply Array.ext'
  rw [List.toList_toArray]
  exact hc
theorem splVar {W : World} {laid : List (String × DataW Unit)} (h : laidMet Tryd.prog laid W) (i : Nat) (hi : laid[i]? = some ("sluice/lex.spellings", Rows.laid_sluice_lex_spellings)) : SplV W := by
  have hv := strTab h i spelL hi gSpl tSpl Tryd.underlying106 Tryd.underlying9 cellsStr (by kernel_rfl)
  obtain ⟨t, fr, hb⟩ := var_block gSpl hv
  exact ⟨t, fr, hb⟩
theorem sgrVar {W : World} {laid : List (String × DataW Unit)} (h : laidMet Tryd.prog laid W) (i : Nat) (hi : laid[i]? = some ("sluice/sluiceref5.signs", Rows.laid_sluice_sluiceref5_signs)) : SgrV W := by
  have hv := strTab h i sgrL hi gSgr tSgr Tryd.underlying96 Tryd.underlying9 cellsStr (by kernel_rfl)
  obtain ⟨t, fr, hb⟩ := var_block gSgr hv
  exact ⟨t, fr, hb⟩
theorem calVar {W : World} {laid : List (String × DataW Unit)} (h : laidMet Tryd.prog laid W) (i : Nat) (hi : laid[i]? = some ("sluice/sluiceref5.calls", Rows.laid_sluice_sluiceref5_calls)) : CalV W := by
  have hv := strTab h i calL hi gCal tCal Tryd.underlying95 Tryd.underlying9 cellsStr (by kernel_rfl)
  obtain ⟨t, fr, hb⟩ := var_block gCal hv
  exact ⟨t, fr, hb⟩
set_option maxRecDepth 8000 in
set_option maxHeartbeats 1000000 in
theorem showExprs_main {H : Type} {enc : TypeId × Value → H} (W : World) (base : Nat) {v0 : Value} {d0 : DataW H} {p0 : List MemPlace} {X C S : Prop}
    (o0 : Value.okWide Tryd.prog W .any base 22 v0) (h0 : DataW.Trod enc Tryd.prog W 0 (fun _ => true) true 22 v0 d0 p0)
    (_ : X) (hz : ReachedAll Tryd.prog ([22] ++ (OpenSpec.ofChange Rows.showExprsSpec).bare.plain.varTypes Tryd.prog) ([d0] ++ [])) (_ : C)
    (h : laidMetH Tryd.prog Rows.showExprsRow.laid W) (_ : S) :
    Calls Tryd.prog 4 #[v0] W fun e W' => e = .returned (.bool true) ∧ Below W.heap.size W W' := by
  have hv0 := kwVar (laid := Rows.showExprsRow.laid) h 3 rfl
  obtain ⟨t0, f0, g0⟩ := var_block gKeywords hv0
  obtain ⟨a, len, cap, rfl⟩ := okWide_slice Tryd.underlying22 o0
  obtain ⟨fuel, hf⟩ := h0
  obtain ⟨A, n, c, f, e, _, _, hR, hW⟩ := rd_nodes (y := (d0, p0)) (by simpa [Value.cells] using hf) (reach_cons hz).1
  rw [e]
  exact showExprs_walk A n c f W hR hW (levVar (laid := Rows.showExprsRow.laid) h 7 rfl) (sgnVar (laid := Rows.showExprsRow.laid) h 8 rfl) (powVar (laid := Rows.showExprsRow.laid) h 2 rfl) (splVar (laid := Rows.showExprsRow.laid) h 4 rfl) (calVar (laid := Rows.showExprsRow.laid) h 6 rfl) (sgrVar (laid := Rows.showExprsRow.laid) h 5 rfl) g0
end Go.Proofs.YtfcdkadblagijaaDoor

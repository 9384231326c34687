/-
  Several texts in one: CheckFlawsWalk.
-/
import Derived.Test.YtagcbljfaflhoaaDoorFlw31
import Derived.Test.YtagcbljfaflhoaaDoorFlw33
import Derived.Test.YtagcbljfaflhoaaDoorFlw34
set_option linter.unusedSimpArgs false
set_option linter.unusedVariables false
/-! ### The walk of the law CheckFlaws; its arguments opened. -/
namespace Go.Proofs.YtagcbljfaflhoaaDoor
open Go.RowKit Go.ChangeShapes Go.WideShapes Go.ChangeAt Go.Deep Go.Joins
set_option maxRecDepth 100000 in
set_option maxHeartbeats 8000000 in
theorem checkFlaws_walk (A : Option Addr) (cap : Nat) (S : Sch) (V : QryV) (Q : Qry) (w : World) (hS : TypRd w w.heap.size A S) (hcp : TypCaps w A S.n) (h : QryRd w w.heap.size V Q) (hwf : QryWf Q) (hqn : Q.n ≤ 1048576) (hwn : Q.wn ≤ 1048576) (hqm : Q.m ≤ 1048576) (hsl : sumN Q.ln Q.m ≤ 1048576) (hsi : sumN (gI Q) Q.n ≤ 2199023255552) {tt : TypeId} {fr : Nat × Nat} (hkw : w.heap[0]? = some (.cells kwArr tt fr)) :
    Calls Tryd.prog 4 #[.agg #[.slice A S.n cap], .agg (qryArr V Q)] w fun e w' => e = .returned (.bool true) ∧ Below w.heap.size w w' := by
  obtain ⟨aI, cI, aW, cW, aR, cR⟩ := V
  show Calls _ _ #[.agg #[.slice A S.n cap], .agg #[.slice aI Q.n cI, .int .i64 Q.mode, .int .i64 Q.after, .slice aW Q.wn cW, .int .i64 Q.within, .string Q.by_, .slice aR Q.m cR]] w _
  have hb0 := bnew (bnew (Below.refl w.heap.size w) (.cells #[.slice A S.n cap] 34)) (.cells #[.slice aI Q.n cI, .int .i64 Q.mode, .int .i64 Q.after, .slice aW Q.wn cW, .int .i64 Q.within, .string Q.by_, .slice aR Q.m cR] 40)
  have s0 := blk_alloc (blk_new w #[.slice A S.n cap] 34) (.cells #[.slice aI Q.n cI, .int .i64 Q.mode, .int .i64 Q.after, .slice aW Q.wn cW, .int .i64 Q.within, .string Q.by_, .slice aR Q.m cR] 40)
  have q0 := blk_new (w.alloc (.cells #[.slice A S.n cap] 34)) #[.slice aI Q.n cI, .int .i64 Q.mode, .int .i64 Q.after, .slice aW Q.wn cW, .int .i64 Q.within, .string Q.by_, .slice aR Q.m cR] 40
  rw [World.size_alloc] at q0
  have S0 := Lib.hid s0
  have Q0 := Lib.hid q0
  have HS := Lib.hid (hS.later hb0)
  have HCP := Lib.hid (hcp.later hS rfl hb0)
  have HQ := Lib.hid (h.later hb0)
  have HK := Lib.hid (block_below hkw hb0)
  have HWF := Lib.hid hwf
  have HSL := Lib.hid hsl
  have HSI := Lib.hid hsi
  clear hS hcp h s0 q0 hkw hwf hsl hsi
  go_enter Tryd.func4, Tryd.ntmps4
  go_upto_region 1 with fail
  generalize (w.alloc _).alloc _ = w0 at *
  obtain ⟨y0, y1, y2, y3, y4, y5, y6⟩ := blk7 Q0.out
  go_wp2_with fail
  refine (queryBeyond_any ⟨aI, cI, aW, cW, aR, cR⟩ Q _ HQ.out).mono ?_
  rintro e w1 ⟨⟨bb, rfl⟩, hb1⟩
  clear y0 y1 y2 y3 y4 y5 y6
  cases bb
  rotate_left 1
  · go_wp2_with fail
    go_ret
    exact ⟨rfl, bcall hb0 hb1⟩
  have x0 := blk_cell (blk_below S0.out hb1) (j := 0) rfl
  go_wp2_with fail
  refine (twin6_any A cap S _ (HS.out.later hb1) (HCP.out.later HS.out rfl hb1)).mono ?_
  rintro e w2 ⟨A', c', rfl, hb2, hT2⟩
  have hb2' := bcall hb1 hb2
  have T3 := Lib.hid (blk_new w2 #[.slice A' S.n c'] 34)
  have hb23 := bnew (Below.refl w2.heap.size w2) (.cells #[.slice A' S.n c'] 34)
  have hb3 := bcall hb2' hb23
  have HT3 := Lib.hid (hT2.later hb23)
  clear x0 hT2
  go_upto_region 4 with fail
  generalize w2.alloc _ = w3 at *
  obtain ⟨y0, y1, y2, y3, y4, y5, y6⟩ := blk7 (blk_below Q0.out hb3)
  go_wp2_with fail
  refine (twinQuery_any ⟨aI, cI, aW, cW, aR, cR⟩ Q _ (HQ.out.later hb3)).mono ?_
  rintro e w4 ⟨⟨bI, dI, bW, dW, bR, dR⟩, rfl, hb4, hQ4⟩
  rw [show qryArr ⟨bI, dI, bW, dW, bR, dR⟩ Q = #[.slice bI Q.n dI, .int .i64 Q.mode, .int .i64 Q.after, .slice bW Q.wn dW, .int .i64 Q.within, .string Q.by_, .slice bR Q.m dR] from rfl]
  have hb4' := bcall hb3 hb4
  have U5 := Lib.hid (blk_new w4 #[.slice bI Q.n dI, .int .i64 Q.mode, .int .i64 Q.after, .slice bW Q.wn dW, .int .i64 Q.within, .string Q.by_, .slice bR Q.m dR] 40)
  have hb45 := bnew (Below.refl w4.heap.size w4) (.cells #[.slice bI Q.n dI, .int .i64 Q.mode, .int .i64 Q.after, .slice bW Q.wn dW, .int .i64 Q.within, .string Q.by_, .slice bR Q.m dR] 40)
  have hb5 := bcall hb4' hb45
  have hb35 := bcall hb4 hb45
  have T5 := Lib.hid (blk_below T3.out hb35)
  have HT5 := Lib.hid (HT3.out.later hb35)
  have HU5 := Lib.hid (hQ4.later hb45)
  clear y0 y1 y2 y3 y4 y5 y6 hQ4 T3 HT3
  go_upto_region 5 with fail
  generalize w4.alloc _ = w5 at *
  obtain ⟨y0, y1, y2, y3, y4, y5, y6⟩ := blk7 (blk_below Q0.out hb5)
  have x0 := blk_cell (blk_below S0.out hb5) (j := 0) rfl
  obtain ⟨⟨fc, fp, fi, fs⟩, hF⟩ : ∃ F, checkF S Q = F := ⟨_, rfl⟩
  have HF := Lib.hid hF
  clear hF
  go_wp2_with fail
  refine (check_any A cap S ⟨aI, cI, aW, cW, aR, cR⟩ Q _ (HS.out.later hb5) (HQ.out.later hb5) HWF.out (block_below HK.out hb5)).mono ?_
  rw [HF.out, show flwArr ⟨fc, fp, fi, fs⟩ = #[.int .i64 fc, .int .i64 fp, .int .i64 fi, .int .i64 fs] from rfl]
  rintro e w6 ⟨rfl, hb6⟩
  have hb67 := bnew hb6 (.cells #[.int .i64 fc, .int .i64 fp, .int .i64 fi, .int .i64 fs] 47)
  have hb7 := bcall hb5 hb67
  have F7 := Lib.hid (blk_new w6 #[.int .i64 fc, .int .i64 fp, .int .i64 fi, .int .i64 fs] 47)
  have T7 := Lib.hid (blk_below T5.out hb67)
  have U7 := Lib.hid (blk_below U5.out hb67)
  have HT7 := Lib.hid (HT5.out.later hb67)
  have HU7 := Lib.hid (HU5.out.later hb67)
  clear y0 y1 y2 y3 y4 y5 y6 x0 T5 U5 HT5 HU5
  go_upto_region 6 with fail
  generalize w6.alloc _ = w7 at *
  obtain ⟨y0, y1, y2, y3, y4, y5, y6⟩ := blk7 U7.out
  have x0 := blk_cell T7.out (j := 0) rfl
  go_wp2_with fail
  refine (refCheck_any A' c' S ⟨bI, dI, bW, dW, bR, dR⟩ Q _ HT7.out HU7.out hqn hwn hqm HSL.out HSI.out (block_below HK.out hb7)).mono ?_
  rw [HF.out, show flwArr ⟨fc, fp, fi, fs⟩ = #[.int .i64 fc, .int .i64 fp, .int .i64 fi, .int .i64 fs] from rfl]
  rintro e w8 ⟨rfl, hb8⟩
  have hb89 := bnew hb8 (.cells #[.int .i64 fc, .int .i64 fp, .int .i64 fi, .int .i64 fs] 47)
  have hb9 := bcall hb7 hb89
  have G9 := Lib.hid (blk_new w8 #[.int .i64 fc, .int .i64 fp, .int .i64 fi, .int .i64 fs] 47)
  have F9 := Lib.hid (blk_below F7.out hb89)
  have T9 := Lib.hid (blk_below T7.out hb89)
  have U9 := Lib.hid (blk_below U7.out hb89)
  have HT9 := Lib.hid (HT7.out.later hb89)
  have HU9 := Lib.hid (HU7.out.later hb89)
  clear y0 y1 y2 y3 y4 y5 y6 x0 T7 U7 HT7 HU7 F7
  go_upto_region 7 with fail
  generalize w8.alloc _ = w9 at *
  have x0 := blk_cell (blk_below S0.out hb9) (j := 0) rfl
  have x1 := blk_cell T9.out (j := 0) rfl
  go_wp2_with fail
  refine (sameSchema6_same A A' cap c' S _ (HS.out.later hb9) HT9.out).mono ?_
  rintro e wa ⟨rfl, hba⟩
  have hba' := bcall hb9 hba
  clear x0 x1
  obtain ⟨y0, y1, y2, y3, y4, y5, y6⟩ := blk7 (blk_below Q0.out hba')
  obtain ⟨z0, z1, z2, z3, z4, z5, z6⟩ := blk7 (blk_below U9.out hba)
  go_wp2_with fail
  refine (sameQuery_same ⟨aI, cI, aW, cW, aR, cR⟩ ⟨bI, dI, bW, dW, bR, dR⟩ Q _ (HQ.out.later hba') (HU9.out.later hba)).mono ?_
  rintro e wb ⟨rfl, hbb⟩
  have hbb' := bcall hba hbb
  clear y0 y1 y2 y3 y4 y5 y6 z0 z1 z2 z3 z4 z5 z6
  obtain ⟨f0, f1, f2, f3⟩ := blk4f (blk_below F9.out hbb')
  obtain ⟨g0, g1, g2, g3⟩ := blk4f (blk_below G9.out hbb')
  go_wp2_with fail
  go_ret
  exact ⟨by first | rfl | simp, bcall hb0 (bcall hb9 hbb')⟩
set_option maxRecDepth 8000 in
theorem checkFlaws_main {H : Type} {enc : TypeId × Value → H} (W : World) (base : Nat) {v0 v1 : Value} {d0 d1 : DataW H} {p0 p1 : List MemPlace} {X Z : Prop}
    (o0 : Value.okWide Tryd.prog W .any base 34 v0) (h0 : DataW.Trod enc Tryd.prog W 0 (fun _ => true) true 34 v0 d0 p0) (o1 : Value.okWide Tryd.prog W .any base 40 v1) (h1 : DataW.Trod enc Tryd.prog W 0 (fun _ => true) true 40 v1 d1 p1)
    (_ : X) (hz : ReachedAll Tryd.prog ([34, 40] ++ (Rows.OpenSpec.upto Rows.checkFlawsSpec).bare.plain.varTypes Tryd.prog) ([d0, d1] ++ [])) (hcond : ∀ k, (Rows.OpenSpec.upto Rows.checkFlawsSpec).cond = some k → k H ([d0, d1] ++ []) = true)
    (h : laidMetH Tryd.prog Rows.checkFlawsUptoRow.laid W) (_ : Z) :
    Calls Tryd.prog 4 #[v0, v1] W fun e W' => e = .returned (.bool true) ∧ Below W.heap.size W W' := by
  have hv0 := kwVar (laid := Rows.checkFlawsUptoRow.laid) h 0 rfl
  obtain ⟨t0, f0, g0⟩ := var_block gKeywords hv0
  have hk := hcond _ rfl
  have z0 := reach_cons hz
  have z1 := reach_cons z0.2
  obtain ⟨A, S, cap, rfl, hS⟩ := open_schema o0 h0 z0.1
  obtain ⟨V, Q, rfl, hQ, hwf⟩ := open_query o1 h1 z1.1
  obtain ⟨b1, b2, b3, b4, b5⟩ := bulk_query h1 hQ (bulk_at hk (by simp))
  exact checkFlaws_walk A cap S V Q W hS (open_caps h0) hQ hwf b1 b2 b3 b4 b5 g0
end Go.Proofs.YtagcbljfaflhoaaDoor

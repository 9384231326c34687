/-
  The walk of the law CheckParted; its arguments opened.
-/
import Derived.Test.YtagcbljfaflhoaaDoorBothWalk
import Derived.Test.YtagcbljfaflhoaaDoorKwVar
import Derived.Test.YtagcbljfaflhoaaDoorBulk
set_option linter.unusedSimpArgs false
set_option linter.unusedVariables false
namespace Go.Proofs.YtagcbljfaflhoaaDoor
open Go.RowKit Go.ChangeShapes Go.WideShapes Go.ChangeAt Go.Deep Go.Joins
theorem both_wf {cn dn : Nat} {cf df : Nat → Nod} (hc : cn ≤ 1048576) (hd : dn ≤ 1048576) (hC : ∀ j, j < cn → NodWf (cf j)) (hD : ∀ j, j < dn → NodWf (df j)) (hs : ∀ j, j < dn → -1 ≤ (df j).a ∧ (df j).a < j ∧ -1 ≤ (df j).b ∧ (df j).b < j) : ∀ j, j < cn + dn + 1 → NodWf (bothF cn cf dn df j) := by
  intro j hj
  rcases Nat.lt_or_ge j cn with h | h
  · rw [both_c h]; exact hC j h
  · rcases Nat.lt_or_ge j (cn + dn) with h2 | h2
    · rw [show j = cn + (j - cn) by omega, both_d (by omega)]
      have hw := hD (j - cn) (by omega)
      have hr := hs (j - cn) (by omega)
      refine ⟨hw.op, hw.n, ?_, ?_, hw.vr, hw.at_⟩
      · show I64 (if 0 ≤ (df (j - cn)).a then (df (j - cn)).a + cn else (df (j - cn)).a)
        unfold I64
        split <;> omega
      · show I64 (if 0 ≤ (df (j - cn)).b then (df (j - cn)).b + cn else (df (j - cn)).b)
        unfold I64
        split <;> omega
    · rw [show j = cn + dn by omega, both_last]
      exact ⟨(show I64 25 from ⟨by decide, by decide⟩), (show I64 0 from ⟨by decide, by decide⟩), by show I64 ((cn : Int) - 1); unfold I64; omega, by show I64 (((cn + dn : Nat) : Int) - 1); unfold I64; omega, (show ByteArray.empty.size ≤ maxLen from Nat.zero_le _), (show ByteArray.empty.size ≤ maxLen from Nat.zero_le _)⟩
set_option maxRecDepth 100000 in
set_option maxHeartbeats 8000000 in
theorem checkParted_walk (A : Option Addr) (cap : Nat) (S : Sch) (V : QryV) (Q : Qry) (aC : Option Addr) (cn cC : Nat) (cf : Nat → Nod) (aD : Option Addr) (dn cD : Nat) (df : Nat → Nod) (w : World) (hS : TypRd w w.heap.size A S) (h : QryRd w w.heap.size V Q) (hwf : QryWf Q)
    (hlC : cn ≤ cC) (hzC : aC = none → cC = 0) (hC : NodRd w w.heap.size aC cn cf) (hwC : ∀ j, j < cn → NodWf (cf j)) (hlD : dn ≤ cD) (hzD : aD = none → cD = 0) (hD : NodRd w w.heap.size aD dn df) (hwD : ∀ j, j < dn → NodWf (df j)) (hc : cn ≤ 1048576) (hd : dn ≤ 1048576) {tt : TypeId} {fr : Nat × Nat} (hkw : w.heap[0]? = some (.cells kwArr tt fr)) :
    Calls Tryd.prog 5 #[.agg #[.slice A S.n cap], .agg (qryArr V Q), .slice aC cn cC, .slice aD dn cD] w fun e w' => e = .returned (.bool true) ∧ Below w.heap.size w w' := by
  obtain ⟨aI, cI, aW, cW, aR, cR⟩ := V
  show Calls _ _ #[.agg #[.slice A S.n cap], .agg #[.slice aI Q.n cI, .int .i64 Q.mode, .int .i64 Q.after, .slice aW Q.wn cW, .int .i64 Q.within, .string Q.by_, .slice aR Q.m cR], _, _] w _
  have hb0 := bnew (bnew (Below.refl w.heap.size w) (.cells #[.slice A S.n cap] 34)) (.cells #[.slice aI Q.n cI, .int .i64 Q.mode, .int .i64 Q.after, .slice aW Q.wn cW, .int .i64 Q.within, .string Q.by_, .slice aR Q.m cR] 40)
  have s0 := blk_alloc (blk_new w #[.slice A S.n cap] 34) (.cells #[.slice aI Q.n cI, .int .i64 Q.mode, .int .i64 Q.after, .slice aW Q.wn cW, .int .i64 Q.within, .string Q.by_, .slice aR Q.m cR] 40)
  have q0 := blk_new (w.alloc (.cells #[.slice A S.n cap] 34)) #[.slice aI Q.n cI, .int .i64 Q.mode, .int .i64 Q.after, .slice aW Q.wn cW, .int .i64 Q.within, .string Q.by_, .slice aR Q.m cR] 40
  rw [World.size_alloc] at q0
  have S0 := Lib.hid s0
  have B0 := Lib.hid q0
  have HQ := Lib.hid h
  have HS := Lib.hid hS
  have HC := Lib.hid hC
  have HD := Lib.hid hD
  have HK := Lib.hid hkw
  have HQ0 := Lib.hid (h.later hb0)
  have HS0 := Lib.hid (TypRd.later hS hb0)
  have HC0 := Lib.hid (hC.later hb0)
  have HD0 := Lib.hid (hD.later hb0)
  have HK0 := Lib.hid (block_below hkw hb0)
  have HWF := Lib.hid hwf
  have HWC := Lib.hid hwC
  have HWD := Lib.hid hwD
  have HZC := Lib.hid hzC
  have HZD := Lib.hid hzD
  have hz1 : w.heap.size ≤ w.heap.size + 1 := by omega
  clear h hS s0 q0 hwf hkw hC hD hwC hwD hzC hzD
  go_enter Tryd.func5, Tryd.ntmps5
  go_upto_region 1 with fail
  generalize (w.alloc _).alloc _ = w0 at *
  go_wp2_with fail
  refine (alive_any _ HK0.out).mono ?_
  rintro e w1 ⟨rfl, d1⟩
  obtain ⟨y0, y1, y2, y3, y4, y5, y6⟩ := blk7 (blk_below B0.out d1)
  go_wp2_with fail
  refine (queryBeyond_any ⟨aI, cI, aW, cW, aR, cR⟩ Q _ (HQ0.out.later d1)).mono ?_
  rintro e w2 ⟨⟨bb, rfl⟩, d2⟩
  have d2 := bcall d1 d2
  clear y0 y1 y2 y3 y4 y5 y6
  cases bb
  · go_wp2_with fail
    refine (beyond_any aC cn cC cf _ (HC0.out.later d2)).mono ?_
    rintro e w3 ⟨⟨bb, rfl⟩, d3⟩
    have d3 := bcall d2 d3
    cases bb
    · go_wp2_with fail
      refine (beyond_any aD dn cD df _ (HD0.out.later d3)).mono ?_
      rintro e w4 ⟨⟨bb, rfl⟩, d4⟩
      have d4 := bcall d3 d4
      cases bb
      · obtain ⟨tc, htc⟩ : ∃ t, treeB cn cf = t := ⟨_, rfl⟩
        obtain ⟨td, htd⟩ : ∃ t, treeB dn df = t := ⟨_, rfl⟩
        have HTC := Lib.hid htc
        have HTD := Lib.hid htd
        clear htc htd
        go_wp2_with fail
        refine (refTree_any aC cn cC cf _ (HC0.out.later d4) (block_below HK0.out d4)).mono ?_
        rw [HTC.out]
        rintro e w5 ⟨rfl, d5⟩
        have d5 := bcall d4 d5
        go_wp2_with fail
        refine (refTree_any aD dn cD df _ (HD0.out.later d5) (block_below HK0.out d5)).mono ?_
        rw [HTD.out]
        rintro e w6 ⟨rfl, d6⟩
        have d6 := bcall d5 d6
        cases tc
        · go_wp2_with fail
          go_ret
          exact ⟨rfl, bcall hb0 d6⟩
        · cases td
          · go_wp2_with fail
            go_ret
            exact ⟨rfl, bcall hb0 d6⟩
          · have hcn := (tree_shp HTC.out).1
            have HSD : Hid (∀ j, j < dn → -1 ≤ (df j).a ∧ (df j).a < j ∧ -1 ≤ (df j).b ∧ (df j).b < j) := Lib.hid (fun j hj => (tree_shp HTD.out).2.1.rng hj)
            have HTT := Lib.hid (both_ok (S := S) (Q := Q) HTC.out HTD.out)
            have hbQ := bcall hb0 d6
            have BQ := Lib.hid (blk_below B0.out d6)
            have SQ := Lib.hid (blk_below S0.out d6)
            have k3 := blk_free BQ.out 3
            have x3 := blk_cell BQ.out (j := 3) rfl
            have BN := Lib.hid (blk_set BQ.out 3 (.slice aC cn cC))
            have SN := Lib.hid (blk_other SQ.out (p := ⟨w.heap.size + 1, 3, none⟩) (by show w.heap.size + 1 ≠ w.heap.size; omega) (.slice aC cn cC))
            have bN := Below.setCell hbQ (p := ⟨w.heap.size + 1, 3, none⟩) hz1 (.slice aC cn cC)
            go_upto_region 10 with fail
            generalize World.setCell _ _ _ = wN at *
            clear k3 x3 BQ SQ hbQ
            obtain ⟨y0, y1, y2, y3, y4, y5, y6⟩ := blk7 BN.out
            have s2 := blk_cell SN.out (j := 0) rfl
            obtain ⟨⟨uc, up, ui, us⟩, hu⟩ : ∃ x, checkF S (withW Q cn cf) = x := ⟨_, rfl⟩
            have Hu := Lib.hid (show uc = 0 ↔ CheckOk S (withW Q cn cf) by rw [← checkF_ok, hu])
            go_wp2_with fail
            refine (check_any A cap S ⟨aI, cI, aC, cC, aR, cR⟩ (withW Q cn cf) _ (TypRd.later HS.out bN) ⟨(HQ.out.later bN).lI, (HQ.out.later bN).zI, (HQ.out.later bN).rI, hlC, HZC.out, HC.out.later bN, (HQ.out.later bN).lR, (HQ.out.later bN).zR, (HQ.out.later bN).rR⟩ ⟨HWF.out.it, HWC.out, HWF.out.rt, HWF.out.within, HWF.out.by_⟩ (block_below HK.out bN)).mono ?_
            rw [hu, show flwArr ⟨uc, up, ui, us⟩ = #[.int .i64 uc, .int .i64 up, .int .i64 ui, .int .i64 us] from rfl]
            clear hu
            rintro e wc ⟨rfl, hq⟩
            clear y0 y1 y2 y3 y4 y5 y6 s2
            have Fu := Lib.hid (blk_new wc #[.int .i64 uc, .int .i64 up, .int .i64 ui, .int .i64 us] 47)
            have ed := bnew hq (.cells #[.int .i64 uc, .int .i64 up, .int .i64 ui, .int .i64 us] 47)
            have hbQ := bnew (bcall bN hq) (.cells #[.int .i64 uc, .int .i64 up, .int .i64 ui, .int .i64 us] 47)
            have BQ := Lib.hid (blk_below BN.out ed)
            have SQ := Lib.hid (blk_below SN.out ed)
            have Fuz : w.heap.size + 1 < wc.heap.size := by have := blk_lt BN.out; have := hq.size; omega
            go_upto_region 11 with fail
            generalize wc.alloc _ = wD at *
            clear BN SN bN ed hq
            have k3 := blk_free BQ.out 3
            have x3 := blk_cell BQ.out (j := 3) rfl
            have BN := Lib.hid (blk_set BQ.out 3 (.slice aD dn cD))
            have SN := Lib.hid (blk_other SQ.out (p := ⟨w.heap.size + 1, 3, none⟩) (by show w.heap.size + 1 ≠ w.heap.size; omega) (.slice aD dn cD))
            have bN := Below.setCell hbQ (p := ⟨w.heap.size + 1, 3, none⟩) hz1 (.slice aD dn cD)
            have Fu := Lib.hid (blk_other Fu.out (p := ⟨w.heap.size + 1, 3, none⟩) (Nat.ne_of_lt Fuz) (.slice aD dn cD))
            go_upto_region 12 with fail
            generalize World.setCell _ _ _ = wN at *
            clear k3 x3 BQ SQ hbQ
            obtain ⟨y0, y1, y2, y3, y4, y5, y6⟩ := blk7 BN.out
            have s2 := blk_cell SN.out (j := 0) rfl
            obtain ⟨⟨vc, vp, vi, vs⟩, hv⟩ : ∃ x, checkF S (withW Q dn df) = x := ⟨_, rfl⟩
            have Hv := Lib.hid (show vc = 0 ↔ CheckOk S (withW Q dn df) by rw [← checkF_ok, hv])
            go_wp2_with fail
            refine (check_any A cap S ⟨aI, cI, aD, cD, aR, cR⟩ (withW Q dn df) _ (TypRd.later HS.out bN) ⟨(HQ.out.later bN).lI, (HQ.out.later bN).zI, (HQ.out.later bN).rI, hlD, HZD.out, HD.out.later bN, (HQ.out.later bN).lR, (HQ.out.later bN).zR, (HQ.out.later bN).rR⟩ ⟨HWF.out.it, HWD.out, HWF.out.rt, HWF.out.within, HWF.out.by_⟩ (block_below HK.out bN)).mono ?_
            rw [hv, show flwArr ⟨vc, vp, vi, vs⟩ = #[.int .i64 vc, .int .i64 vp, .int .i64 vi, .int .i64 vs] from rfl]
            clear hv
            rintro e wc ⟨rfl, hq⟩
            clear y0 y1 y2 y3 y4 y5 y6 s2
            have Fv := Lib.hid (blk_new wc #[.int .i64 vc, .int .i64 vp, .int .i64 vi, .int .i64 vs] 47)
            have ed := bnew hq (.cells #[.int .i64 vc, .int .i64 vp, .int .i64 vi, .int .i64 vs] 47)
            have hbQ := bnew (bcall bN hq) (.cells #[.int .i64 vc, .int .i64 vp, .int .i64 vi, .int .i64 vs] 47)
            have BQ := Lib.hid (blk_below BN.out ed)
            have SQ := Lib.hid (blk_below SN.out ed)
            have Fvz : w.heap.size + 1 < wc.heap.size := by have := blk_lt BN.out; have := hq.size; omega
            have Fu := Lib.hid (blk_below Fu.out ed)
            go_upto_region 13 with fail
            generalize wc.alloc _ = wD at *
            clear BN SN bN ed hq
            go_wp2_with fail
            refine (both_any aC cn cC cf aD dn cD df _ hcn hc hd hlC HZC.out (HC.out.later hbQ) (HD.out.later hbQ) HSD.out).mono ?_
            rintro e w9 ⟨v9, rfl, hq9, hown9⟩
            obtain ⟨A9, c9, rfl, hl9, hz9⟩ := rowown_shape hown9
            have HR9 := Lib.hid (show NodRd w9 w9.heap.size A9 (cn + dn + 1) (bothF cn cf dn df) from rowown_rd hown9 (by omega))
            have HZ9 := Lib.hid hz9
            have hzD := blk_lt BQ.out
            have BQ := Lib.hid (blk_below BQ.out hq9)
            have SQ := Lib.hid (blk_below SQ.out hq9)
            have Fu := Lib.hid (blk_below Fu.out hq9)
            have Fv := Lib.hid (blk_below Fv.out hq9)
            have hbQ := bcall hbQ hq9
            have hown9 := Lib.hid (rowown_far (g := w.heap.size + 1) (i := 3) hown9 (rowown_ne hown9 hzD) (.slice A9 (cn + dn + 1) c9))
            clear hz9 hq9 HR9
            have k3 := blk_free BQ.out 3
            have x3 := blk_cell BQ.out (j := 3) rfl
            have BN := Lib.hid (blk_set BQ.out 3 (.slice A9 (cn + dn + 1) c9))
            have SN := Lib.hid (blk_other SQ.out (p := ⟨w.heap.size + 1, 3, none⟩) (by show w.heap.size + 1 ≠ w.heap.size; omega) (.slice A9 (cn + dn + 1) c9))
            have bN := Below.setCell hbQ (p := ⟨w.heap.size + 1, 3, none⟩) hz1 (.slice A9 (cn + dn + 1) c9)
            have Fu := Lib.hid (blk_other Fu.out (p := ⟨w.heap.size + 1, 3, none⟩) (Nat.ne_of_lt Fuz) (.slice A9 (cn + dn + 1) c9))
            have Fv := Lib.hid (blk_other Fv.out (p := ⟨w.heap.size + 1, 3, none⟩) (Nat.ne_of_lt Fvz) (.slice A9 (cn + dn + 1) c9))
            go_upto_region 14 with fail
            generalize World.setCell _ _ _ = wN at *
            clear k3 x3 BQ SQ hbQ
            have HR9 := Lib.hid (show NodRd wN wN.heap.size A9 (cn + dn + 1) (bothF cn cf dn df) from rowown_rd hown9.out (by omega))
            obtain ⟨y0, y1, y2, y3, y4, y5, y6⟩ := blk7 BN.out
            go_wp2_with fail
            refine (beyond_any A9 (cn + dn + 1) c9 (bothF cn cf dn df) _ HR9.out).mono ?_
            rintro e wE ⟨⟨bb, rfl⟩, hqE⟩
            have BN := Lib.hid (blk_below BN.out hqE)
            have SN := Lib.hid (blk_below SN.out hqE)
            have Fu := Lib.hid (blk_below Fu.out hqE)
            have Fv := Lib.hid (blk_below Fv.out hqE)
            have HR9 := Lib.hid (HR9.out.later hqE)
            have bN := bcall bN hqE
            clear y0 y1 y2 y3 y4 y5 y6 hqE hown9
            cases bb
            · obtain ⟨y0, y1, y2, y3, y4, y5, y6⟩ := blk7 BN.out
              have s2 := blk_cell SN.out (j := 0) rfl
              obtain ⟨⟨xc, xp, xi, xs⟩, hx⟩ : ∃ x, checkF S (withW Q (cn + dn + 1) (bothF cn cf dn df)) = x := ⟨_, rfl⟩
              have Hx := Lib.hid (show xc = 0 ↔ CheckOk S (withW Q (cn + dn + 1) (bothF cn cf dn df)) by rw [← checkF_ok, hx])
              go_wp2_with fail
              refine (check_any A cap S ⟨aI, cI, A9, c9, aR, cR⟩ (withW Q (cn + dn + 1) (bothF cn cf dn df)) _ (TypRd.later HS.out bN) ⟨(HQ.out.later bN).lI, (HQ.out.later bN).zI, (HQ.out.later bN).rI, hl9, HZ9.out, HR9.out, (HQ.out.later bN).lR, (HQ.out.later bN).zR, (HQ.out.later bN).rR⟩ ⟨HWF.out.it, both_wf hc hd HWC.out HWD.out HSD.out, HWF.out.rt, HWF.out.within, HWF.out.by_⟩ (block_below HK.out bN)).mono ?_
              rw [hx, show flwArr ⟨xc, xp, xi, xs⟩ = #[.int .i64 xc, .int .i64 xp, .int .i64 xi, .int .i64 xs] from rfl]
              clear hx
              rintro e wc ⟨rfl, hq⟩
              clear y0 y1 y2 y3 y4 y5 y6 s2
              have Fx := Lib.hid (blk_new wc #[.int .i64 xc, .int .i64 xp, .int .i64 xi, .int .i64 xs] 47)
              have ed := bnew hq (.cells #[.int .i64 xc, .int .i64 xp, .int .i64 xi, .int .i64 xs] 47)
              have hbQ := bnew (bcall bN hq) (.cells #[.int .i64 xc, .int .i64 xp, .int .i64 xi, .int .i64 xs] 47)
              have BQ := Lib.hid (blk_below BN.out ed)
              have SQ := Lib.hid (blk_below SN.out ed)
              have Fxz : w.heap.size + 1 < wc.heap.size := by have := blk_lt BN.out; have := hq.size; omega
              have Fu := Lib.hid (blk_below Fu.out ed)
              have Fv := Lib.hid (blk_below Fv.out ed)
              go_upto_region 17 with fail
              generalize wc.alloc _ = wD at *
              clear BN SN bN ed hq
              have hxx : xc = 0 ↔ uc = 0 ∧ vc = 0 := by rw [Hx.out, Hu.out, Hv.out]; exact HTT.out
              have f0 := blk_cell Fu.out (j := 0) rfl
              have f1 := blk_cell Fv.out (j := 0) rfl
              have f2 := blk_cell Fx.out (j := 0) rfl
              by_cases hu : uc = 0
              · by_cases hv : vc = 0
                · have hx := hxx.2 ⟨hu, hv⟩
                  subst hu hv hx
                  clear hxx
                  go_wp2_with fail
                  go_ret
                  exact ⟨rfl, hbQ⟩
                · have hx : ¬ xc = 0 := fun h => hv (hxx.1 h).2
                  have e1 : (xc == 0) = false := by rw [beq_eq_false_iff_ne]; exact hx
                  have e2 : (vc == 0) = false := by rw [beq_eq_false_iff_ne]; exact hv
                  subst hu
                  clear hxx
                  go_wp2_with fail
                  go_ret
                  exact ⟨rfl, hbQ⟩
              · have hx : ¬ xc = 0 := fun h => hu (hxx.1 h).1
                have e1 : (xc == 0) = false := by rw [beq_eq_false_iff_ne]; exact hx
                have e2 : (uc == 0) = false := by rw [beq_eq_false_iff_ne]; exact hu
                clear hxx
                go_wp2_with fail
                go_ret
                exact ⟨rfl, hbQ⟩
            · go_wp2_with fail
              go_ret
              exact ⟨rfl, bN⟩
      · go_wp2_with fail
        go_ret
        exact ⟨rfl, bcall hb0 d4⟩
    · go_wp2_with fail
      go_ret
      exact ⟨rfl, bcall hb0 d3⟩
  · go_wp2_with fail
    go_ret
    exact ⟨rfl, bcall hb0 d2⟩
set_option maxRecDepth 8000 in
theorem checkParted_main {H : Type} {enc : TypeId × Value → H} (W : World) (base : Nat) {v0 v1 v2 v3 : Value} {d0 d1 d2 d3 : DataW H} {p0 p1 p2 p3 : List MemPlace} {X Z : Prop}
    (o0 : Value.okWide Tryd.prog W .any base 34 v0) (h0 : DataW.Trod enc Tryd.prog W 0 (fun _ => true) true 34 v0 d0 p0) (o1 : Value.okWide Tryd.prog W .any base 40 v1) (h1 : DataW.Trod enc Tryd.prog W 0 (fun _ => true) true 40 v1 d1 p1)
    (o2 : Value.okWide Tryd.prog W .any base 22 v2) (h2 : DataW.Trod enc Tryd.prog W 0 (fun _ => true) true 22 v2 d2 p2) (o3 : Value.okWide Tryd.prog W .any base 22 v3) (h3 : DataW.Trod enc Tryd.prog W 0 (fun _ => true) true 22 v3 d3 p3)
    (_ : X) (hz : ReachedAll Tryd.prog ([34, 40, 22, 22] ++ (Rows.OpenSpec.upto Rows.checkPartedSpec).bare.plain.varTypes Tryd.prog) ([d0, d1, d2, d3] ++ []))
    (hcond : ∀ k, (Rows.OpenSpec.upto Rows.checkPartedSpec).cond = some k → k H ([d0, d1, d2, d3] ++ []) = true)
    (h : laidMetH Tryd.prog Rows.checkPartedUptoRow.laid W) (_ : Z) :
    Calls Tryd.prog 5 #[v0, v1, v2, v3] W fun e W' => e = .returned (.bool true) ∧ Below W.heap.size W W' := by
  have hk := hcond _ rfl
  have hv0 := kwVar (laid := Rows.checkPartedUptoRow.laid) h 0 rfl
  obtain ⟨t0, f0, g0⟩ := var_block gKeywords hv0
  have z0 := reach_cons hz
  have z1 := reach_cons z0.2
  have z2 := reach_cons z1.2
  have z3 := reach_cons z2.2
  obtain ⟨A, S, cap, rfl, hS⟩ := open_schema o0 h0 z0.1
  obtain ⟨V, Q, rfl, hQ, hwf⟩ := open_query o1 h1 z1.1
  obtain ⟨fuel2, hf2⟩ := h2
  obtain ⟨fuel3, hf3⟩ := h3
  obtain ⟨a2, len2, cap2, rfl⟩ := okWide_slice Tryd.underlying22 o2
  obtain ⟨a3, len3, cap3, rfl⟩ := okWide_slice Tryd.underlying22 o3
  have hf2' : DataW.trod enc Tryd.prog W 0 (fun _ => true) true fuel2 22 [.slice a2 len2 cap2] = some (d2, p2) := by simpa [Value.cells] using hf2
  have hf3' : DataW.trod enc Tryd.prog W 0 (fun _ => true) true fuel3 22 [.slice a3 len3 cap3] = some (d3, p3) := by simpa [Value.cells] using hf3
  have b2 := Nat.le_trans (bulk_nodes hf2') (bulk_at hk (show d2 ∈ [d0, d1, d2, d3] ++ [] by simp))
  have b3 := Nat.le_trans (bulk_nodes hf3') (bulk_at hk (show d3 ∈ [d0, d1, d2, d3] ++ [] by simp))
  obtain ⟨A2, n2, c2, f2, e2, l2, m2, r2, u2⟩ := rd_nodes (y := (d2, p2)) hf2' z2.1
  obtain ⟨A3, n3, c3, f3, e3, l3, m3, r3, u3⟩ := rd_nodes (y := (d3, p3)) hf3' z3.1
  injection e2 with e21 e22 e23
  injection e3 with e31 e32 e33
  subst e21 e22 e23 e31 e32 e33
  exact checkParted_walk A cap S V Q a2 len2 cap2 f2 a3 len3 cap3 f3 W hS hQ hwf l2 m2 r2 u2 l3 m3 r3 u3 b2 b3 g0
end Go.Proofs.YtagcbljfaflhoaaDoor

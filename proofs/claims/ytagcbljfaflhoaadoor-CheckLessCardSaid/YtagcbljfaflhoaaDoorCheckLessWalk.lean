/-
  The walk of the law CheckLess; its arguments opened.
-/
import Derived.Test.YtagcbljfaflhoaaDoorCheckOk
import Derived.Test.YtagcbljfaflhoaaDoorKwVar
import Derived.Deep.CutRange
import Derived.Deep.RegionHeld3
set_option linter.unusedSimpArgs false
set_option linter.unusedVariables false
namespace Go.Proofs.YtagcbljfaflhoaaDoor
open Go.RowKit Go.ChangeShapes Go.WideShapes Go.ChangeAt Go.Deep Go.Joins
set_option maxRecDepth 8000 in
theorem int_in {H : Type} {enc : TypeId × Value → H} {w : World} {base b0 : Nat} {sp : Nat → Bool} {held : Bool} {r : Reach} {v : Value} {d : DataW H} {p : List MemPlace} (h : DataW.Trod enc Tryd.prog w base sp held 2 v d p) (o : Value.okWide Tryd.prog w r b0 2 v) : ∃ n : Int, v = .int .i64 n ∧ I64 n := by
  obtain ⟨n, rfl⟩ := okWide_int Tryd.underlying2 o
  obtain ⟨fuel, hf⟩ := h
  obtain ⟨m, e, _, hw⟩ := DataW.trod_int Tryd.underlying2 (show DataW.trod enc Tryd.prog w base sp held fuel 2 [.int .i64 n] = some (d, p) by simpa [Value.cells] using hf)
  injection e with e _
  injection e with _ e
  subst e
  exact ⟨_, rfl, bounds_i64 hw⟩
/-- Four numbers among the four from z on, each another. -/
def Four (z a b c d : Nat) : Prop := True ∧ (z ≤ a ∧ a < z + 4) ∧ (z ≤ b ∧ b < z + 4) ∧ (z ≤ c ∧ c < z + 4) ∧ (z ≤ d ∧ d < z + 4) ∧ a ≠ b ∧ a ≠ c ∧ a ≠ d ∧ b ≠ c ∧ b ≠ d ∧ c ≠ d
theorem alloc4 (w : World) (cs : Array Value) (T : TypeId) : (∀ g, w.heap.size ≤ g → g < w.heap.size + 4 → ((((w.alloc (.cells cs T)).alloc (.cells cs T)).alloc (.cells cs T)).alloc (.cells cs T)).drew.heap[g]? = some (.cells cs T (0, 0))) ∧ Below w.heap.size w ((((w.alloc (.cells cs T)).alloc (.cells cs T)).alloc (.cells cs T)).alloc (.cells cs T)).drew := by
  refine ⟨fun g h1 h2 => ?_, (bnew (bnew (bnew (bnew (Below.refl w.heap.size w) _) _) _) _).drew⟩
  show ((((w.alloc (.cells cs T)).alloc (.cells cs T)).alloc (.cells cs T)).alloc (.cells cs T)).heap[g]? = _
  have e : ∀ (W : World) (o : Obj), (W.alloc o).heap.size = W.heap.size + 1 := fun W o => World.size_alloc W o
  have k1 := blk_new w cs T
  have k2 := blk_new (w.alloc (.cells cs T)) cs T
  have k3 := blk_new ((w.alloc (.cells cs T)).alloc (.cells cs T)) cs T
  have k4 := blk_new (((w.alloc (.cells cs T)).alloc (.cells cs T)).alloc (.cells cs T)) cs T
  simp only [e] at k2 k3 k4
  obtain rfl | rfl | rfl | rfl : g = w.heap.size ∨ g = w.heap.size + 1 ∨ g = w.heap.size + 1 + 1 ∨ g = w.heap.size + 1 + 1 + 1 := by omega
  · exact blk_alloc (blk_alloc (blk_alloc k1 _) _) _
  · exact blk_alloc (blk_alloc k2 _) _
  · exact blk_alloc k3 _
  · exact k4
theorem trees_cut {w : World} {B m m' : Nat} {A : Option Addr} {ln : Nat → Nat} {g : Nat → Nat → Nod} (h : TreesRd w B A m ln g) (hm : m' ≤ m) : TreesRd w B A m' ln g := by
  obtain ⟨V, h1, h2⟩ := h
  exact ⟨V, RowRd.take h1 hm, fun j hj => h2 j (Nat.lt_of_lt_of_le hj hm)⟩
set_option maxRecDepth 100000 in
set_option maxHeartbeats 16000000 in
theorem checkLess_walk (A : Option Addr) (cap : Nat) (S : Sch) (V : QryV) (Q : Qry) (v : Int) (w : World) (hS : TypRd w w.heap.size A S) (h : QryRd w w.heap.size V Q) (hwf : QryWf Q) (hv : I64 v) {tt : TypeId} {fr : Nat × Nat} (hkw : w.heap[0]? = some (.cells kwArr tt fr)) :
    Calls Tryd.prog 9 #[.agg #[.slice A S.n cap], .agg (qryArr V Q), .int .i64 v] w fun e w' => e = .returned (.bool true) ∧ Below w.heap.size w w' := by
  obtain ⟨aI, cI, aW, cW, aR, cR⟩ := V
  show Calls _ _ #[.agg #[.slice A S.n cap], .agg #[.slice aI Q.n cI, .int .i64 Q.mode, .int .i64 Q.after, .slice aW Q.wn cW, .int .i64 Q.within, .string Q.by_, .slice aR Q.m cR], _] w _
  have hnR := h.rR.small
  have hb0 := bnew (bnew (Below.refl w.heap.size w) (.cells #[.slice A S.n cap] 34)) (.cells #[.slice aI Q.n cI, .int .i64 Q.mode, .int .i64 Q.after, .slice aW Q.wn cW, .int .i64 Q.within, .string Q.by_, .slice aR Q.m cR] 40)
  have s0 := blk_alloc (blk_new w #[.slice A S.n cap] 34) (.cells #[.slice aI Q.n cI, .int .i64 Q.mode, .int .i64 Q.after, .slice aW Q.wn cW, .int .i64 Q.within, .string Q.by_, .slice aR Q.m cR] 40)
  have q0 := blk_new (w.alloc (.cells #[.slice A S.n cap] 34)) #[.slice aI Q.n cI, .int .i64 Q.mode, .int .i64 Q.after, .slice aW Q.wn cW, .int .i64 Q.within, .string Q.by_, .slice aR Q.m cR] 40
  rw [World.size_alloc] at q0
  have S0 := Lib.hid s0
  have B0 := Lib.hid q0
  have HQ0 := Lib.hid (h.later hb0)
  have HS0 := Lib.hid (TypRd.later hS hb0)
  have HK0 := Lib.hid (block_below hkw hb0)
  have HWF := Lib.hid hwf
  clear h hS s0 q0 hwf hkw
  go_enter Tryd.func9, Tryd.ntmps9
  go_upto_region 1 with fail
  generalize (w.alloc _).alloc _ = w0 at *
  go_wp2_with fail
  refine (alive_any _ HK0.out).mono ?_
  rintro e w1 ⟨rfl, d1⟩
  have hb1 := bcall hb0 d1
  have B1 := blk_below B0.out d1
  obtain ⟨y0, y1, y2, y3, y4, y5, y6⟩ := blk7 B1
  go_wp2_with fail
  refine (queryBeyond_any ⟨aI, cI, aW, cW, aR, cR⟩ Q _ (HQ0.out.later d1)).mono ?_
  rintro e w2 ⟨⟨bb, rfl⟩, d2⟩
  have d2 := bcall d1 d2
  have hb2 := bcall hb0 d2
  clear y0 y1 y2 y3 y4 y5 y6 B1
  cases bb
  · have B2 := blk_below B0.out d2
    have S2 := blk_below S0.out d2
    obtain ⟨y0, y1, y2, y3, y4, y5, y6⟩ := blk7 B2
    have s2 := blk_cell S2 (j := 0) rfl
    obtain ⟨⟨ec, ep, ei, es⟩, hx⟩ : ∃ x, checkF S Q = x := ⟨_, rfl⟩
    have HX := Lib.hid hx
    clear hx
    go_wp2_with fail
    refine (check_any A cap S ⟨aI, cI, aW, cW, aR, cR⟩ Q _ (HS0.out.later d2) (HQ0.out.later d2) HWF.out (block_below HK0.out d2)).mono ?_
    rw [HX.out, show flwArr ⟨ec, ep, ei, es⟩ = #[.int .i64 ec, .int .i64 ep, .int .i64 ei, .int .i64 es] from rfl]
    rintro e w3 ⟨rfl, d3⟩
    have d3 := bcall d2 d3
    have F4 := blk_new w3 #[.int .i64 ec, .int .i64 ep, .int .i64 ei, .int .i64 es] 47
    have d4 := bnew d3 (.cells #[.int .i64 ec, .int .i64 ep, .int .i64 ei, .int .i64 es] 47)
    have hb4 := bcall hb0 d4
    clear y0 y1 y2 y3 y4 y5 y6 s2 B2 S2
    go_upto_region 6 with fail
    generalize w3.alloc _ = w4 at *
    have f0 := blk_cell F4 (j := 0) rfl
    by_cases hec : ec = 0
    · subst hec
      have HOK := Lib.hid (checkF_ok.1 (show (checkF S Q).code = 0 by rw [HX.out]))
      have B4 := Lib.hid (blk_below B0.out d4)
      obtain ⟨y0, y1, y2, y3, y4, y5, y6⟩ := blk7 B4.out
      have hz4 := blk_lt B4.out
      go_upto_region 8 with fail
      clear f0 F4
      go_cut [8, 9, 10, 11] from 26 to 83 (fun p1 p2 p3 p4 wx => ∃ g1 g2 g3 g4 : Nat, p1 = .pointer (some ⟨g1, 0, none⟩) ∧ p2 = .pointer (some ⟨g2, 0, none⟩) ∧ p3 = .pointer (some ⟨g3, 0, none⟩) ∧ p4 = .pointer (some ⟨g4, 0, none⟩) ∧ Hid (Four w4.heap.size g1 g2 g3 g4) ∧ wx = ((((w4.alloc (.cells #[.slice aI Q.n cI, .int .i64 Q.mode, .int .i64 Q.after, .slice aW Q.wn cW, .int .i64 Q.within, .string Q.by_, .slice aR Q.m cR] 40)).alloc (.cells #[.slice aI Q.n cI, .int .i64 Q.mode, .int .i64 Q.after, .slice aW Q.wn cW, .int .i64 Q.within, .string Q.by_, .slice aR Q.m cR] 40)).alloc (.cells #[.slice aI Q.n cI, .int .i64 Q.mode, .int .i64 Q.after, .slice aW Q.wn cW, .int .i64 Q.within, .string Q.by_, .slice aR Q.m cR] 40)).alloc (.cells #[.slice aI Q.n cI, .int .i64 Q.mode, .int .i64 Q.after, .slice aW Q.wn cW, .int .i64 Q.within, .string Q.by_, .slice aR Q.m cR] 40)).drew)
      case first =>
        go_region_held3 (fun w' => w'.cell? ⟨w.heap.size + 1, 0, none⟩ = some (.slice aI Q.n cI) ∧ w'.cell? ⟨w.heap.size + 1, 1, none⟩ = some (.int .i64 Q.mode) ∧ w'.cell? ⟨w.heap.size + 1, 2, none⟩ = some (.int .i64 Q.after) ∧ w'.cell? ⟨w.heap.size + 1, 3, none⟩ = some (.slice aW Q.wn cW) ∧ w'.cell? ⟨w.heap.size + 1, 4, none⟩ = some (.int .i64 Q.within) ∧ w'.cell? ⟨w.heap.size + 1, 5, none⟩ = some (.string Q.by_) ∧ w'.cell? ⟨w.heap.size + 1, 6, none⟩ = some (.slice aR Q.m cR))
          (first
            | exact ⟨y0, y1, y2, y3, y4, y5, y6⟩
            | (go_split_ands; exact ⟨rd_alloc (by assumption) _, rd_alloc (by assumption) _, rd_alloc (by assumption) _, rd_alloc (by assumption) _, rd_alloc (by assumption) _, rd_alloc (by assumption) _, rd_alloc (by assumption) _⟩)
            | exact ⟨rd_alloc (rd_alloc (rd_alloc (rd_alloc y0 _) _) _) _, rd_alloc (rd_alloc (rd_alloc (rd_alloc y1 _) _) _) _, rd_alloc (rd_alloc (rd_alloc (rd_alloc y2 _) _) _) _, rd_alloc (rd_alloc (rd_alloc (rd_alloc y3 _) _) _) _, rd_alloc (rd_alloc (rd_alloc (rd_alloc y4 _) _) _) _, rd_alloc (rd_alloc (rd_alloc (rd_alloc y5 _) _) _) _, rd_alloc (rd_alloc (rd_alloc (rd_alloc y6 _) _) _) _⟩
            | go_keep)
          (first | fail)
        all_goals
          go_wp2_with fail
          go_meet
          exact ⟨_, _, _, _, rfl, rfl, rfl, rfl, Lib.hid (by refine ⟨trivial, ?_⟩; omega), rfl⟩
      case rest =>
      obtain ⟨g1, g2, g3, g4, rfl, rfl, rfl, rfl, HG, rfl⟩ := hcut
      obtain ⟨hz, h1, h2, h3, h4, n12, n13, n14, n23, n24, n34⟩ := HG.out
      obtain ⟨hA, dA⟩ := alloc4 w4 #[.slice aI Q.n cI, .int .i64 Q.mode, .int .i64 Q.after, .slice aW Q.wn cW, .int .i64 Q.within, .string Q.by_, .slice aR Q.m cR] 40
      have d8 := bcall d4 dA
      have G1 := Lib.hid (hA g1 h1.1 h1.2)
      have G2 := Lib.hid (hA g2 h2.1 h2.2)
      have G3 := Lib.hid (hA g3 h3.1 h3.2)
      have G4 := Lib.hid (hA g4 h4.1 h4.2)
      clear hA dA y0 y1 y2 y3 y4 y5 y6
      generalize World.drew _ = w8 at *
      obtain ⟨z1, hg1⟩ : ∃ z, w4.heap.size = z := ⟨_, rfl⟩
      have HZ4 := Lib.hid (show w0.heap.size ≤ g1 ∧ w0.heap.size ≤ g2 ∧ w0.heap.size ≤ g3 ∧ w0.heap.size ≤ g4 by have := d4.size; omega)
      have k1 := blk_free G1.out 3
      have x3 := blk_cell G1.out (j := 3) rfl
      have d9 := d8.setCell (p := ⟨g1, 3, none⟩) HZ4.out.1 (.slice none 0 0)
      have K1 := Lib.hid (blk_set G1.out 3 (.slice none 0 0))
      have K2 := Lib.hid (blk_other G2.out (p := ⟨g1, 3, none⟩) n12 (.slice none 0 0))
      have K3 := Lib.hid (blk_other G3.out (p := ⟨g1, 3, none⟩) n13 (.slice none 0 0))
      have K4 := Lib.hid (blk_other G4.out (p := ⟨g1, 3, none⟩) n14 (.slice none 0 0))
      go_upto_region 10 with fail
      generalize w8.setCell _ _ = w9 at *
      clear k1 x3 G1 G2 G3 G4
      have k1 := blk_free K2.out 5
      have x3 := blk_cell K2.out (j := 5) rfl
      have d10 := d9.setCell (p := ⟨g2, 5, none⟩) HZ4.out.2.1 (.string ⟨#[]⟩)
      have L1 := Lib.hid (blk_other K1.out (p := ⟨g2, 5, none⟩) (Ne.symm n12) (.string ⟨#[]⟩))
      have L2 := Lib.hid (blk_set K2.out 5 (.string ⟨#[]⟩))
      have L3 := Lib.hid (blk_other K3.out (p := ⟨g2, 5, none⟩) n23 (.string ⟨#[]⟩))
      have L4 := Lib.hid (blk_other K4.out (p := ⟨g2, 5, none⟩) n24 (.string ⟨#[]⟩))
      go_upto_region 11 with fail
      generalize w9.setCell _ _ = w10 at *
      clear k1 x3 K1 K2 K3 K4
      have x6 := blk_cell L3.out (j := 6) rfl
      have hlR : Q.m ≤ cR := HQ0.out.lR
      go_upto_if 35 with fail
      go_cut [] from 26 to 83 (fun wx => Hid (wx.heap[g1]? = some (.cells #[.slice aI Q.n cI, .int .i64 Q.mode, .int .i64 Q.after, .slice none 0 0, .int .i64 Q.within, .string Q.by_, .slice aR Q.m cR] 40 (0, 0))) ∧ Hid (wx.heap[g2]? = some (.cells #[.slice aI Q.n cI, .int .i64 Q.mode, .int .i64 Q.after, .slice aW Q.wn cW, .int .i64 Q.within, .string ⟨#[]⟩, .slice aR Q.m cR] 40 (0, 0))) ∧ Hid (wx.heap[g3]? = some (.cells #[.slice aI Q.n cI, .int .i64 Q.mode, .int .i64 Q.after, .slice aW Q.wn cW, .int .i64 Q.within, .string Q.by_, .slice aR (Q.m - 1) cR] 40 (0, 0))) ∧ Hid (wx.heap[g4]? = some (.cells #[.slice aI Q.n cI, .int .i64 Q.mode, .int .i64 Q.after, .slice aW Q.wn cW, .int .i64 Q.within, .string Q.by_, .slice aR Q.m cR] 40 (0, 0))) ∧ Below w0.heap.size w0 wx)
      case first =>
        by_cases hm : Q.m = 0
        · go_wp2_with fail
          go_meet
          exact ⟨L1, L2, Lib.hid (by rw [L3.out, hm]), L4, d10⟩
        · have k1 := blk_free L3.out 6
          have hm1 : (Q.m : Int) - 1 = ((Q.m - 1 : Nat) : Int) := by omega
          have hm2 : Q.m - 1 ≤ cR := by omega
          go_wp2_with fail
          go_meet
          exact ⟨Lib.hid (blk_other L1.out (p := ⟨g3, 6, none⟩) (Ne.symm n13) _), Lib.hid (blk_other L2.out (p := ⟨g3, 6, none⟩) (Ne.symm n23) _), Lib.hid (blk_set L3.out 6 _), Lib.hid (blk_other L4.out (p := ⟨g3, 6, none⟩) n34 _), d10.setCell (p := ⟨g3, 6, none⟩) HZ4.out.2.2.1 _⟩
      case rest =>
      obtain ⟨M1, M2, M3, M4, d11⟩ := hcut
      obtain ⟨w11, e11⟩ : ∃ w5 : World, w5 = wc := ⟨_, rfl⟩
      subst e11
      clear L1 L2 L3 L4 x6
      have B11 := Lib.hid (blk_below B0.out d11)
      have x4 := blk_cell B11.out (j := 4) rfl
      obtain ⟨wi, hwi⟩ : ∃ wi, (if 0 ≤ v ∧ v < Q.within then v else Q.within) = wi := ⟨_, rfl⟩
      have HWI := Lib.hid hwi
      clear hwi
      go_upto_region 13 with fail
      go_cut [51] from 26 to 83 (fun b wx => b = .bool (decide (0 ≤ v ∧ v < Q.within)) ∧ wx = w11)
      case first =>
        by_cases hv0 : 0 ≤ v
        · by_cases hv1 : v < Q.within
          · go_wp2_with fail
            go_meet
            exact ⟨by rw [decide_eq_true (show 0 ≤ v ∧ v < Q.within by omega)], rfl⟩
          · go_wp2_with fail
            go_meet
            exact ⟨by rw [decide_eq_false (show ¬ (0 ≤ v ∧ v < Q.within) by omega)], rfl⟩
        · go_wp2_with fail
          go_meet
          exact ⟨by rw [decide_eq_false (show ¬ (0 ≤ v ∧ v < Q.within) by omega)], rfl⟩
      case rest =>
      obtain ⟨rfl, rfl⟩ := hcut
      go_upto_if 51 with fail
      go_cut [] from 26 to 83 (fun wx => Hid (wx.heap[g1]? = some (.cells #[.slice aI Q.n cI, .int .i64 Q.mode, .int .i64 Q.after, .slice none 0 0, .int .i64 Q.within, .string Q.by_, .slice aR Q.m cR] 40 (0, 0))) ∧ Hid (wx.heap[g2]? = some (.cells #[.slice aI Q.n cI, .int .i64 Q.mode, .int .i64 Q.after, .slice aW Q.wn cW, .int .i64 Q.within, .string ⟨#[]⟩, .slice aR Q.m cR] 40 (0, 0))) ∧ Hid (wx.heap[g3]? = some (.cells #[.slice aI Q.n cI, .int .i64 Q.mode, .int .i64 Q.after, .slice aW Q.wn cW, .int .i64 Q.within, .string Q.by_, .slice aR (Q.m - 1) cR] 40 (0, 0))) ∧ Hid (wx.heap[g4]? = some (.cells #[.slice aI Q.n cI, .int .i64 Q.mode, .int .i64 Q.after, .slice aW Q.wn cW, .int .i64 wi, .string Q.by_, .slice aR Q.m cR] 40 (0, 0))) ∧ Below w0.heap.size w0 wx)
      case first =>
        by_cases hv0 : 0 ≤ v ∧ v < Q.within
        · have hw : wi = v := by rw [← HWI.out, if_pos hv0]
          subst hw
          have hd0 : decide (0 ≤ wi ∧ wi < Q.within) = true := decide_eq_true hv0
          have k1 := blk_free M4.out 4
          have x5 := blk_cell M4.out (j := 4) rfl
          rw [hd0]
          go_wp2_with fail
          go_meet
          exact ⟨Lib.hid (blk_other M1.out (p := ⟨g4, 4, none⟩) (Ne.symm n14) _), Lib.hid (blk_other M2.out (p := ⟨g4, 4, none⟩) (Ne.symm n24) _), Lib.hid (blk_other M3.out (p := ⟨g4, 4, none⟩) (Ne.symm n34) _), Lib.hid (blk_set M4.out 4 _), d11.setCell (p := ⟨g4, 4, none⟩) HZ4.out.2.2.2 _⟩
        · have hw : wi = Q.within := by rw [← HWI.out, if_neg hv0]
          have hd0 : decide (0 ≤ v ∧ v < Q.within) = false := decide_eq_false hv0
          rw [hd0]
          go_wp2_with fail
          go_meet
          exact ⟨M1, M2, M3, Lib.hid (by rw [M4.out, hw]), d11⟩
      case rest =>
      clear M1 M2 M3 M4 d11 x4 B11
      obtain ⟨M1, M2, M3, M4, d12⟩ := hcut
      obtain ⟨w12, e12⟩ : ∃ w5 : World, w5 = wc := ⟨_, rfl⟩
      subst e12
      have S12 := Lib.hid (blk_below S0.out d12)
      have HS12 := Lib.hid (HS0.out.later d12)
      have HQ12 := Lib.hid (HQ0.out.later d12)
      have HK12 := Lib.hid (block_below HK0.out d12)
      have hb12 := bcall hb0 d12
      have HO1 := Lib.hid (ok_noWhere HOK.out)
      have HO2 := Lib.hid (ok_noBy HOK.out)
      have HO3 := Lib.hid (ok_cut HOK.out (m := Q.m - 1) (Nat.sub_le _ _))
      have HO4 : Hid (CheckOk S { Q with within := wi }) := Lib.hid (by
        have e := HWI.out
        by_cases hv : 0 ≤ v ∧ v < Q.within
        · rw [if_pos hv] at e; subst e; exact ok_less HOK.out hv.1 hv.2
        · rw [if_neg hv] at e; subst e; exact HOK.out)
      have hI : I64 wi := by
        rw [← HWI.out]
        split
        · exact hv
        · exact HWF.out.within
      obtain ⟨⟨uac, uap, uai, uas⟩, ha⟩ : ∃ x, checkF S { Q with wn := 0 } = x := ⟨_, rfl⟩
      obtain rfl : uac = 0 := by have e := checkF_ok.2 HO1.out; rw [ha] at e; exact e
      have Ha := Lib.hid ha
      clear ha
      obtain ⟨y0, y1, y2, y3, y4, y5, y6⟩ := blk7 (blk_below M1.out (Below.refl w12.heap.size w12))
      have s2 := blk_cell (blk_below S12.out (Below.refl w12.heap.size w12)) (j := 0) rfl
      go_wp2_with fail
      refine (check_any A cap S ⟨aI, cI, none, 0, aR, cR⟩ { Q with wn := 0 } _ (HS12.out.later (Below.refl w12.heap.size w12)) ⟨(HQ12.out.later (Below.refl w12.heap.size w12)).lI, (HQ12.out.later (Below.refl w12.heap.size w12)).zI, (HQ12.out.later (Below.refl w12.heap.size w12)).rI, Nat.le_refl _, fun _ => rfl, RowRd.nil .., (HQ12.out.later (Below.refl w12.heap.size w12)).lR, (HQ12.out.later (Below.refl w12.heap.size w12)).zR, (HQ12.out.later (Below.refl w12.heap.size w12)).rR⟩ ⟨HWF.out.it, fun j hj => absurd hj (Nat.not_lt_zero _), HWF.out.rt, HWF.out.within, HWF.out.by_⟩ (block_below HK12.out (Below.refl w12.heap.size w12))).mono ?_
      rw [Ha.out, show flwArr ⟨0, uap, uai, uas⟩ = #[.int .i64 0, .int .i64 uap, .int .i64 uai, .int .i64 uas] from rfl]
      rintro e wqa ⟨rfl, hqa⟩
      clear y0 y1 y2 y3 y4 y5 y6 s2
      have Fa := Lib.hid (blk_new wqa #[.int .i64 0, .int .i64 uap, .int .i64 uai, .int .i64 uas] 47)
      have ea := bnew (bcall (Below.refl w12.heap.size w12) hqa) (.cells #[.int .i64 0, .int .i64 uap, .int .i64 uai, .int .i64 uas] 47)
      have eda := bnew hqa (.cells #[.int .i64 0, .int .i64 uap, .int .i64 uai, .int .i64 uas] 47)
      go_upto_region 16 with fail
      generalize wqa.alloc _ = wra at *
      obtain ⟨⟨ubc, ubp, ubi, ubs⟩, hb⟩ : ∃ x, checkF S { Q with by_ := ⟨#[]⟩ } = x := ⟨_, rfl⟩
      obtain rfl : ubc = 0 := by have e := checkF_ok.2 HO2.out; rw [hb] at e; exact e
      have Hb := Lib.hid hb
      clear hb
      obtain ⟨y0, y1, y2, y3, y4, y5, y6⟩ := blk7 (blk_below M2.out ea)
      have s2 := blk_cell (blk_below S12.out ea) (j := 0) rfl
      go_wp2_with fail
      refine (check_any A cap S ⟨aI, cI, aW, cW, aR, cR⟩ { Q with by_ := ⟨#[]⟩ } _ (HS12.out.later ea) ⟨(HQ12.out.later ea).lI, (HQ12.out.later ea).zI, (HQ12.out.later ea).rI, (HQ12.out.later ea).lW, (HQ12.out.later ea).zW, (HQ12.out.later ea).rW, (HQ12.out.later ea).lR, (HQ12.out.later ea).zR, (HQ12.out.later ea).rR⟩ ⟨HWF.out.it, HWF.out.wh, HWF.out.rt, HWF.out.within, (by decide : (⟨#[]⟩ : ByteArray).size ≤ maxLen)⟩ (block_below HK12.out ea)).mono ?_
      rw [Hb.out, show flwArr ⟨0, ubp, ubi, ubs⟩ = #[.int .i64 0, .int .i64 ubp, .int .i64 ubi, .int .i64 ubs] from rfl]
      rintro e wqb ⟨rfl, hqb⟩
      clear y0 y1 y2 y3 y4 y5 y6 s2
      have Fb := Lib.hid (blk_new wqb #[.int .i64 0, .int .i64 ubp, .int .i64 ubi, .int .i64 ubs] 47)
      have eb := bnew (bcall ea hqb) (.cells #[.int .i64 0, .int .i64 ubp, .int .i64 ubi, .int .i64 ubs] 47)
      have edb := bnew hqb (.cells #[.int .i64 0, .int .i64 ubp, .int .i64 ubi, .int .i64 ubs] 47)
      go_upto_region 17 with fail
      generalize wqb.alloc _ = wrb at *
      have Fa := Lib.hid (blk_below Fa.out edb)
      obtain ⟨⟨ucc, ucp, uci, ucs⟩, hc⟩ : ∃ x, checkF S { Q with m := Q.m - 1 } = x := ⟨_, rfl⟩
      obtain rfl : ucc = 0 := by have e := checkF_ok.2 HO3.out; rw [hc] at e; exact e
      have Hc := Lib.hid hc
      clear hc
      obtain ⟨y0, y1, y2, y3, y4, y5, y6⟩ := blk7 (blk_below M3.out eb)
      have s2 := blk_cell (blk_below S12.out eb) (j := 0) rfl
      go_wp2_with fail
      refine (check_any A cap S ⟨aI, cI, aW, cW, aR, cR⟩ { Q with m := Q.m - 1 } _ (HS12.out.later eb) ⟨(HQ12.out.later eb).lI, (HQ12.out.later eb).zI, (HQ12.out.later eb).rI, (HQ12.out.later eb).lW, (HQ12.out.later eb).zW, (HQ12.out.later eb).rW, Nat.le_trans (Nat.sub_le _ _) (HQ12.out.later eb).lR, (HQ12.out.later eb).zR, trees_cut (HQ12.out.later eb).rR (Nat.sub_le _ _)⟩ ⟨HWF.out.it, HWF.out.wh, fun k hk => HWF.out.rt k (Nat.lt_of_lt_of_le hk (Nat.sub_le _ _)), HWF.out.within, HWF.out.by_⟩ (block_below HK12.out eb)).mono ?_
      rw [Hc.out, show flwArr ⟨0, ucp, uci, ucs⟩ = #[.int .i64 0, .int .i64 ucp, .int .i64 uci, .int .i64 ucs] from rfl]
      rintro e wqc ⟨rfl, hqc⟩
      clear y0 y1 y2 y3 y4 y5 y6 s2
      have Fc := Lib.hid (blk_new wqc #[.int .i64 0, .int .i64 ucp, .int .i64 uci, .int .i64 ucs] 47)
      have uec := bnew (bcall eb hqc) (.cells #[.int .i64 0, .int .i64 ucp, .int .i64 uci, .int .i64 ucs] 47)
      have edc := bnew hqc (.cells #[.int .i64 0, .int .i64 ucp, .int .i64 uci, .int .i64 ucs] 47)
      go_upto_region 18 with fail
      generalize wqc.alloc _ = wrc at *
      have Fa := Lib.hid (blk_below Fa.out edc)
      have Fb := Lib.hid (blk_below Fb.out edc)
      obtain ⟨⟨uec, uep, uei, ues⟩, he⟩ : ∃ x, checkF S { Q with within := wi } = x := ⟨_, rfl⟩
      obtain rfl : uec = 0 := by have e := checkF_ok.2 HO4.out; rw [he] at e; exact e
      have He := Lib.hid he
      clear he
      obtain ⟨y0, y1, y2, y3, y4, y5, y6⟩ := blk7 (blk_below M4.out uec)
      have s2 := blk_cell (blk_below S12.out uec) (j := 0) rfl
      go_wp2_with fail
      refine (check_any A cap S ⟨aI, cI, aW, cW, aR, cR⟩ { Q with within := wi } _ (HS12.out.later uec) ⟨(HQ12.out.later uec).lI, (HQ12.out.later uec).zI, (HQ12.out.later uec).rI, (HQ12.out.later uec).lW, (HQ12.out.later uec).zW, (HQ12.out.later uec).rW, (HQ12.out.later uec).lR, (HQ12.out.later uec).zR, (HQ12.out.later uec).rR⟩ ⟨HWF.out.it, HWF.out.wh, HWF.out.rt, hI, HWF.out.by_⟩ (block_below HK12.out uec)).mono ?_
      rw [He.out, show flwArr ⟨0, uep, uei, ues⟩ = #[.int .i64 0, .int .i64 uep, .int .i64 uei, .int .i64 ues] from rfl]
      rintro e wqe ⟨rfl, hqe⟩
      clear y0 y1 y2 y3 y4 y5 y6 s2
      have Fe := Lib.hid (blk_new wqe #[.int .i64 0, .int .i64 uep, .int .i64 uei, .int .i64 ues] 47)
      have ee := bnew (bcall uec hqe) (.cells #[.int .i64 0, .int .i64 uep, .int .i64 uei, .int .i64 ues] 47)
      have ede := bnew hqe (.cells #[.int .i64 0, .int .i64 uep, .int .i64 uei, .int .i64 ues] 47)
      go_upto_region 19 with fail
      generalize wqe.alloc _ = wre at *
      have Fa := Lib.hid (blk_below Fa.out ede)
      have Fb := Lib.hid (blk_below Fb.out ede)
      have Fc := Lib.hid (blk_below Fc.out ede)
      have fa0 := blk_cell Fa.out (j := 0) rfl
      have fb0 := blk_cell Fb.out (j := 0) rfl
      have fc0 := blk_cell Fc.out (j := 0) rfl
      have fe0 := blk_cell Fe.out (j := 0) rfl
      go_wp2_with fail
      go_ret
      exact ⟨rfl, bcall hb12 ee⟩
    · have hc1 : (ec != 0) = true := by rw [bne_iff_ne]; exact hec
      have hc2 : (ec == 0) = false := by rw [beq_eq_false_iff_ne]; exact hec
      go_wp2_with fail
      go_ret
      exact ⟨rfl, hb4⟩
  · go_wp2_with fail
    go_ret
    exact ⟨rfl, hb2⟩
set_option maxRecDepth 8000 in
theorem checkLess_main {H : Type} {enc : TypeId × Value → H} (W : World) (base : Nat) {v0 v1 v2 : Value} {d0 d1 d2 : DataW H} {p0 p1 p2 : List MemPlace} {X C Z : Prop}
    (o0 : Value.okWide Tryd.prog W .any base 34 v0) (h0 : DataW.Trod enc Tryd.prog W 0 (fun _ => true) true 34 v0 d0 p0) (o1 : Value.okWide Tryd.prog W .any base 40 v1) (h1 : DataW.Trod enc Tryd.prog W 0 (fun _ => true) true 40 v1 d1 p1) (o2 : Value.okWide Tryd.prog W .any base 2 v2) (h2 : DataW.Trod enc Tryd.prog W 0 (fun _ => true) true 2 v2 d2 p2)
    (_ : X) (hz : ReachedAll Tryd.prog ([34, 40, 2] ++ (OpenSpec.ofChange Rows.checkLessSpec).bare.plain.varTypes Tryd.prog) ([d0, d1, d2] ++ [])) (_ : C)
    (h : laidMetH Tryd.prog Rows.checkLessRow.laid W) (_ : Z) :
    Calls Tryd.prog 9 #[v0, v1, v2] W fun e W' => e = .returned (.bool true) ∧ Below W.heap.size W W' := by
  have hv0 := kwVar (laid := Rows.checkLessRow.laid) h 0 rfl
  obtain ⟨t0, f0, g0⟩ := var_block gKeywords hv0
  have z0 := reach_cons hz
  have z1 := reach_cons z0.2
  obtain ⟨A, S, cap, rfl, hS⟩ := open_schema o0 h0 z0.1
  obtain ⟨V, Q, rfl, hQ, hwf⟩ := open_query o1 h1 z1.1
  obtain ⟨n, e2, hn⟩ := int_in h2 o2
  subst e2
  exact checkLess_walk A cap S V Q n W hS hQ hwf hn g0
end Go.Proofs.YtagcbljfaflhoaaDoor

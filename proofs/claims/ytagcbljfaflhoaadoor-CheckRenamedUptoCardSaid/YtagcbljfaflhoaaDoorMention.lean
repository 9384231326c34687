/-
  What is wrong with a node's variable: plain, and the walk of check.mention.
-/
import Derived.Test.YtagcbljfaflhoaaDoorItems
import Derived.Test.YtagcbljfaflhoaaDoorUsesWalk
set_option linter.unusedSimpArgs false
set_option linter.unusedVariables false
namespace Go.Proofs.YtagcbljfaflhoaaDoor
open Go.RowKit Go.ChangeShapes Go.WideShapes Go.ChangeAt Go.Deep Go.Joins
def repB (y : Itm) : Bool := !y.neg && decide (1 < y.hi)
/-- What is wrong with a node's item y. -/
def useE (S : Sch) (r : Bool) (y : Itm) (x : Nod) : Int :=
  if (!(x.op == 5) && !hasB S y x.at_) = true then 69 else if ((aggB x.op && y.neg) || (x.op == 11 && !repB y)) = true then 76 else if (r && bareB x.op && (y.neg || repB y)) = true then 76 else 0
def mentE (S : Sch) (Q : Qry) (r : Bool) (x : Nod) : Int :=
  if (!bareB x.op && !aggB x.op) = true then 0 else if itemI Q.n Q.it x.vr = -1 then 68 else useE S r (Q.it (itemI Q.n Q.it x.vr).toNat) x
set_option maxRecDepth 100000 in
set_option maxHeartbeats 8000000 in
theorem mention_any (A : Option Addr) (cap : Nat) (S : Sch) (V : QryV) (Q : Qry) (bn : Nat) (DN : DataW Unit) (r : Bool) (x : Nod) (w : World) (hS : TypRd w w.heap.size A S) (h : QryRd w w.heap.size V Q) (hO : NmOwn w bn Q.n DN) (hM : NmMap Q.it Q.n DN) (hx : NodWf x) :
    Calls Tryd.prog 58 #[.agg #[.slice A S.n cap], .agg (qryArr V Q), .map (some bn), .agg (nodArr x), .bool r] w fun e w' => e = .returned (.int .i64 (mentE S Q r x)) ∧ Below w.heap.size w w' := by
  obtain ⟨aI, cI, aW, cW, aR, cR⟩ := V
  obtain ⟨op, nn, vr, at_, a, b⟩ := x
  show Calls _ _ #[.agg #[.slice A S.n cap], .agg #[.slice aI Q.n cI, .int .i64 Q.mode, .int .i64 Q.after, .slice aW Q.wn cW, .int .i64 Q.within, .string Q.by_, .slice aR Q.m cR], .map (some bn), .agg #[.int .i64 op, .int .i64 nn, .string vr, .string at_, .int .i64 a, .int .i64 b], .bool r] w _
  have hlen : vr.size ≤ maxLen := hx.vr
  have hnI := h.rI.small
  have hb0 := bnew (bnew (bnew (Below.refl w.heap.size w) (.cells #[.slice A S.n cap] 34)) (.cells #[.slice aI Q.n cI, .int .i64 Q.mode, .int .i64 Q.after, .slice aW Q.wn cW, .int .i64 Q.within, .string Q.by_, .slice aR Q.m cR] 40)) (.cells #[.int .i64 op, .int .i64 nn, .string vr, .string at_, .int .i64 a, .int .i64 b] 60)
  have s0 := blk_alloc (blk_alloc (blk_new w #[.slice A S.n cap] 34) (.cells #[.slice aI Q.n cI, .int .i64 Q.mode, .int .i64 Q.after, .slice aW Q.wn cW, .int .i64 Q.within, .string Q.by_, .slice aR Q.m cR] 40)) (.cells #[.int .i64 op, .int .i64 nn, .string vr, .string at_, .int .i64 a, .int .i64 b] 60)
  have q0 := blk_alloc (blk_new (w.alloc (.cells #[.slice A S.n cap] 34)) #[.slice aI Q.n cI, .int .i64 Q.mode, .int .i64 Q.after, .slice aW Q.wn cW, .int .i64 Q.within, .string Q.by_, .slice aR Q.m cR] 40) (.cells #[.int .i64 op, .int .i64 nn, .string vr, .string at_, .int .i64 a, .int .i64 b] 60)
  have r0 := blk_new ((w.alloc (.cells #[.slice A S.n cap] 34)).alloc (.cells #[.slice aI Q.n cI, .int .i64 Q.mode, .int .i64 Q.after, .slice aW Q.wn cW, .int .i64 Q.within, .string Q.by_, .slice aR Q.m cR] 40)) #[.int .i64 op, .int .i64 nn, .string vr, .string at_, .int .i64 a, .int .i64 b] 60
  have hz0 : w.heap.size + 2 < (((w.alloc (.cells #[.slice A S.n cap] 34)).alloc (.cells #[.slice aI Q.n cI, .int .i64 Q.mode, .int .i64 Q.after, .slice aW Q.wn cW, .int .i64 Q.within, .string Q.by_, .slice aR Q.m cR] 40)).alloc (.cells #[.int .i64 op, .int .i64 nn, .string vr, .string at_, .int .i64 a, .int .i64 b] 60)).heap.size := by simp
  rw [World.size_alloc] at q0
  rw [World.size_alloc, World.size_alloc] at r0
  have hO0 : NmOwn (((w.alloc (.cells #[.slice A S.n cap] 34)).alloc (.cells #[.slice aI Q.n cI, .int .i64 Q.mode, .int .i64 Q.after, .slice aW Q.wn cW, .int .i64 Q.within, .string Q.by_, .slice aR Q.m cR] 40)).alloc (.cells #[.int .i64 op, .int .i64 nn, .string vr, .string at_, .int .i64 a, .int .i64 b] 60)) bn Q.n DN := nmo_below hO hb0 hO.lt
  have HO0 := Lib.hid hO0
  have S0 := Lib.hid s0
  have B0 := Lib.hid q0
  have X0 := Lib.hid r0
  have HQ := Lib.hid h
  have HS := Lib.hid hS
  have HM := Lib.hid hM
  clear h hS s0 q0 r0 hO hM hO0 hx
  go_enter Tryd.func58, Tryd.ntmps58
  go_upto_region 1 with fail
  generalize ((w.alloc _).alloc _).alloc _ = w0 at *
  have t0 := blk_cell X0.out (j := 0) rfl
  have t2 := blk_cell X0.out (j := 2) rfl
  have t3 := blk_cell X0.out (j := 3) rfl
  have x0 := blk_cell B0.out (j := 0) rfl
  have p0 := blk_cell S0.out (j := 0) rfl
  have HS0 := Lib.hid (HS.out.later hb0)
  rcases (by omega : op = 4 ∨ op = 11 ∨ op = 5 ∨ (6 ≤ op ∧ op ≤ 10) ∨ (op ≠ 4 ∧ op ≠ 11 ∧ ¬ (5 ≤ op ∧ op ≤ 10))) with ho | ho | ho | ho | ho
  · subst ho
    have hbare : bareB 4 = true := rfl
    have hagg : aggB 4 = false := rfl
    rcases itemI_or Q.n Q.it vr with hI | ⟨j, hj, hI⟩
    · have hh := HM.out.none vr hI
      have HE := Lib.hid (show mentE S Q r ⟨4, nn, vr, at_, a, b⟩ = 68 by simp only [mentE, hbare, hagg, hI]; rfl)
      clear hI
      go_wp2_with (first | (go_at_call 75; refine (isBare_any 4 _).mono ?_; rw [hbare]; rintro e wq ⟨rfl, hq⟩; have hq := hq.symm; subst hq) | (go_at_call 76; refine (isAgg_any 4 _).mono ?_; rw [hagg]; rintro e wq ⟨rfl, hq⟩; have hq := hq.symm; subst hq) | (at_lookup; refine wpList_lookup_own_ok_int _ rfl _ _ 81 rfl 9 3 .i64 lawTxt Tryd.underlying81 Tryd.underlying3 (zeroInt _) bn Q.n DN rfl HO0.out _ _ rfl (Go.WideMaps.keyOf_string_mk Tryd.underlying9 hlen) ?_; intro c hat hwc; rw [hh]))
      go_ret
      exact ⟨by rw [HE.out]; rfl, hb0⟩
    · obtain ⟨hh, hat0⟩ := HM.out.some vr j hI
      obtain ⟨ib, off, eI, hbl, hcs⟩ := (HQ.out.later hb0).rI.spot (by omega)
      have eI : aI = some ⟨ib, off, none⟩ := eI
      subst eI
      obtain ⟨g0, ⟨ta, tc, g1, _, _, hty⟩, g2, g3, g4⟩ := hcs j hj
      obtain ⟨y, hy⟩ : ∃ y, Q.it j = y := ⟨_, rfl⟩
      rw [hy] at g0 g1 g2 g3 g4 hty
      obtain ⟨ng, tn, ty, vr', lo, hi⟩ := y
      have HE := Lib.hid (show mentE S Q r ⟨4, nn, vr, at_, a, b⟩ = useE S r ⟨ng, tn, ty, vr', lo, hi⟩ ⟨4, nn, vr, at_, a, b⟩ by
        have e1 : itemI Q.n Q.it vr ≠ -1 := by omega
        have e2 : (itemI Q.n Q.it vr).toNat = j := by omega
        simp only [mentE, hbare, hagg, e2, hy, if_neg e1]
        rfl)
      have I4 := Lib.hid (blk_new w0 #[.bool ng, .slice ta tn tc, .string vr', .int .i64 lo, .int .i64 hi] 80)
      have hb4 := bnew (Below.refl w0.heap.size w0) (.cells #[.bool ng, .slice ta tn tc, .string vr', .int .i64 lo, .int .i64 hi] 80)
      have hb4' := bcall hb0 hb4
      have HTY := Lib.hid (RowRd.later hty hb4)
      have S4 := Lib.hid (blk_below S0.out hb4)
      have X4 := Lib.hid (blk_below X0.out hb4)
      clear hcs hy hty hI
      go_upto_region 7 with (first | (go_at_call 75; refine (isBare_any 4 _).mono ?_; rw [hbare]; rintro e wq ⟨rfl, hq⟩; have hq := hq.symm; subst hq) | (go_at_call 76; refine (isAgg_any 4 _).mono ?_; rw [hagg]; rintro e wq ⟨rfl, hq⟩; have hq := hq.symm; subst hq) | (at_lookup; refine wpList_lookup_own_ok_int _ rfl _ _ 81 rfl 9 3 .i64 lawTxt Tryd.underlying81 Tryd.underlying3 (zeroInt _) bn Q.n DN rfl HO0.out _ _ rfl (Go.WideMaps.keyOf_string_mk Tryd.underlying9 hlen) ?_; intro c hat hwc; rw [hh]; rw [hat0] at hat; injection hat with hat; injection hat with _ hat; subst hat))
      generalize w0.alloc _ = w4 at *
      clear g0 g1 g2 g3 g4 t0 t2 t3 x0 p0
      have z0 := blk_cell I4.out (j := 0) rfl
      have z1 := blk_cell I4.out (j := 1) rfl
      have z2 := blk_cell I4.out (j := 2) rfl
      have z3 := blk_cell I4.out (j := 3) rfl
      have z4 := blk_cell I4.out (j := 4) rfl
      have u0 := blk_cell X4.out (j := 0) rfl
      have u3 := blk_cell X4.out (j := 3) rfl
      have v0 := blk_cell S4.out (j := 0) rfl
      obtain ⟨hb, hhb⟩ : ∃ hb, hasB S ⟨ng, tn, ty, vr', lo, hi⟩ at_ = hb := ⟨_, rfl⟩
      have HHB := Lib.hid hhb
      clear hhb
      cases hb
      · have HE2 := Lib.hid (show mentE S Q r ⟨4, nn, vr, at_, a, b⟩ = 69 by rw [HE.out]; simp only [useE, HHB.out]; rfl)
        cases ng
        · by_cases hr : 1 < hi
          all_goals
            go_wp2_with (first | (go_at_call 86; refine (has_any A cap S ⟨false, tn, ty, vr', lo, hi⟩ ta tc at_ _ (HS.out.later hb4') HTY.out).mono ?_; rw [HHB.out]; rintro e w5 ⟨rfl, hb5⟩; have z05 := rd_later (w := w4) z0 hb5; have z45 := rd_later (w := w4) z4 hb5; have u05 := rd_later (w := w4) u0 hb5))
            go_ret
            exact ⟨by rw [HE2.out]; rfl, bcall hb4' hb5⟩
        · by_cases hr : 1 < hi
          all_goals
            go_wp2_with (first | (go_at_call 86; refine (has_any A cap S ⟨true, tn, ty, vr', lo, hi⟩ ta tc at_ _ (HS.out.later hb4') HTY.out).mono ?_; rw [HHB.out]; rintro e w5 ⟨rfl, hb5⟩; have z05 := rd_later (w := w4) z0 hb5; have z45 := rd_later (w := w4) z4 hb5; have u05 := rd_later (w := w4) u0 hb5))
            go_ret
            exact ⟨by rw [HE2.out]; rfl, bcall hb4' hb5⟩
      · have HE2 := Lib.hid (show mentE S Q r ⟨4, nn, vr, at_, a, b⟩ = (if (r && (ng || (!ng && decide (1 < hi)))) = true then 76 else 0) by rw [HE.out]; simp [useE, hbare, hagg, repB, HHB.out])
        cases ng
        · by_cases hr : 1 < hi
          all_goals cases r
          all_goals
            go_wp2_with (first | (go_at_call 86; refine (has_any A cap S ⟨false, tn, ty, vr', lo, hi⟩ ta tc at_ _ (HS.out.later hb4') HTY.out).mono ?_; rw [HHB.out]; rintro e w5 ⟨rfl, hb5⟩; have z05 := rd_later (w := w4) z0 hb5; have z45 := rd_later (w := w4) z4 hb5; have u05 := rd_later (w := w4) u0 hb5) | (go_at_call 75; refine (isBare_any 4 _).mono ?_; rw [hbare]; rintro e wq ⟨rfl, hq⟩; have hq := hq.symm; subst hq) | (go_at_call 76; refine (isAgg_any 4 _).mono ?_; rw [hagg]; rintro e wq ⟨rfl, hq⟩; have hq := hq.symm; subst hq))
            go_ret
            exact ⟨by rw [HE2.out]; simp [hr], bcall hb4' hb5⟩
        · by_cases hr : 1 < hi
          all_goals cases r
          all_goals
            go_wp2_with (first | (go_at_call 86; refine (has_any A cap S ⟨true, tn, ty, vr', lo, hi⟩ ta tc at_ _ (HS.out.later hb4') HTY.out).mono ?_; rw [HHB.out]; rintro e w5 ⟨rfl, hb5⟩; have z05 := rd_later (w := w4) z0 hb5; have z45 := rd_later (w := w4) z4 hb5; have u05 := rd_later (w := w4) u0 hb5) | (go_at_call 75; refine (isBare_any 4 _).mono ?_; rw [hbare]; rintro e wq ⟨rfl, hq⟩; have hq := hq.symm; subst hq) | (go_at_call 76; refine (isAgg_any 4 _).mono ?_; rw [hagg]; rintro e wq ⟨rfl, hq⟩; have hq := hq.symm; subst hq))
            go_ret
            exact ⟨by rw [HE2.out]; simp [hr], bcall hb4' hb5⟩
  · subst ho
    have hbare : bareB 11 = true := rfl
    have hagg : aggB 11 = false := rfl
    rcases itemI_or Q.n Q.it vr with hI | ⟨j, hj, hI⟩
    · have hh := HM.out.none vr hI
      have HE := Lib.hid (show mentE S Q r ⟨11, nn, vr, at_, a, b⟩ = 68 by simp only [mentE, hbare, hagg, hI]; rfl)
      clear hI
      go_wp2_with (first | (go_at_call 75; refine (isBare_any 11 _).mono ?_; rw [hbare]; rintro e wq ⟨rfl, hq⟩; have hq := hq.symm; subst hq) | (go_at_call 76; refine (isAgg_any 11 _).mono ?_; rw [hagg]; rintro e wq ⟨rfl, hq⟩; have hq := hq.symm; subst hq) | (at_lookup; refine wpList_lookup_own_ok_int _ rfl _ _ 81 rfl 9 3 .i64 lawTxt Tryd.underlying81 Tryd.underlying3 (zeroInt _) bn Q.n DN rfl HO0.out _ _ rfl (Go.WideMaps.keyOf_string_mk Tryd.underlying9 hlen) ?_; intro c hat hwc; rw [hh]))
      go_ret
      exact ⟨by rw [HE.out]; rfl, hb0⟩
    · obtain ⟨hh, hat0⟩ := HM.out.some vr j hI
      obtain ⟨ib, off, eI, hbl, hcs⟩ := (HQ.out.later hb0).rI.spot (by omega)
      have eI : aI = some ⟨ib, off, none⟩ := eI
      subst eI
      obtain ⟨g0, ⟨ta, tc, g1, _, _, hty⟩, g2, g3, g4⟩ := hcs j hj
      obtain ⟨y, hy⟩ : ∃ y, Q.it j = y := ⟨_, rfl⟩
      rw [hy] at g0 g1 g2 g3 g4 hty
      obtain ⟨ng, tn, ty, vr', lo, hi⟩ := y
      have HE := Lib.hid (show mentE S Q r ⟨11, nn, vr, at_, a, b⟩ = useE S r ⟨ng, tn, ty, vr', lo, hi⟩ ⟨11, nn, vr, at_, a, b⟩ by
        have e1 : itemI Q.n Q.it vr ≠ -1 := by omega
        have e2 : (itemI Q.n Q.it vr).toNat = j := by omega
        simp only [mentE, hbare, hagg, e2, hy, if_neg e1]
        rfl)
      have I4 := Lib.hid (blk_new w0 #[.bool ng, .slice ta tn tc, .string vr', .int .i64 lo, .int .i64 hi] 80)
      have hb4 := bnew (Below.refl w0.heap.size w0) (.cells #[.bool ng, .slice ta tn tc, .string vr', .int .i64 lo, .int .i64 hi] 80)
      have hb4' := bcall hb0 hb4
      have HTY := Lib.hid (RowRd.later hty hb4)
      have S4 := Lib.hid (blk_below S0.out hb4)
      have X4 := Lib.hid (blk_below X0.out hb4)
      clear hcs hy hty hI
      go_upto_region 7 with (first | (go_at_call 75; refine (isBare_any 11 _).mono ?_; rw [hbare]; rintro e wq ⟨rfl, hq⟩; have hq := hq.symm; subst hq) | (go_at_call 76; refine (isAgg_any 11 _).mono ?_; rw [hagg]; rintro e wq ⟨rfl, hq⟩; have hq := hq.symm; subst hq) | (at_lookup; refine wpList_lookup_own_ok_int _ rfl _ _ 81 rfl 9 3 .i64 lawTxt Tryd.underlying81 Tryd.underlying3 (zeroInt _) bn Q.n DN rfl HO0.out _ _ rfl (Go.WideMaps.keyOf_string_mk Tryd.underlying9 hlen) ?_; intro c hat hwc; rw [hh]; rw [hat0] at hat; injection hat with hat; injection hat with _ hat; subst hat))
      generalize w0.alloc _ = w4 at *
      clear g0 g1 g2 g3 g4 t0 t2 t3 x0 p0
      have z0 := blk_cell I4.out (j := 0) rfl
      have z1 := blk_cell I4.out (j := 1) rfl
      have z2 := blk_cell I4.out (j := 2) rfl
      have z3 := blk_cell I4.out (j := 3) rfl
      have z4 := blk_cell I4.out (j := 4) rfl
      have u0 := blk_cell X4.out (j := 0) rfl
      have u3 := blk_cell X4.out (j := 3) rfl
      have v0 := blk_cell S4.out (j := 0) rfl
      obtain ⟨hb, hhb⟩ : ∃ hb, hasB S ⟨ng, tn, ty, vr', lo, hi⟩ at_ = hb := ⟨_, rfl⟩
      have HHB := Lib.hid hhb
      clear hhb
      cases hb
      · have HE2 := Lib.hid (show mentE S Q r ⟨11, nn, vr, at_, a, b⟩ = 69 by rw [HE.out]; simp only [useE, HHB.out]; rfl)
        cases ng
        · by_cases hr : 1 < hi
          all_goals
            go_wp2_with (first | (go_at_call 86; refine (has_any A cap S ⟨false, tn, ty, vr', lo, hi⟩ ta tc at_ _ (HS.out.later hb4') HTY.out).mono ?_; rw [HHB.out]; rintro e w5 ⟨rfl, hb5⟩; have z05 := rd_later (w := w4) z0 hb5; have z45 := rd_later (w := w4) z4 hb5; have u05 := rd_later (w := w4) u0 hb5))
            go_ret
            exact ⟨by rw [HE2.out]; rfl, bcall hb4' hb5⟩
        · by_cases hr : 1 < hi
          all_goals
            go_wp2_with (first | (go_at_call 86; refine (has_any A cap S ⟨true, tn, ty, vr', lo, hi⟩ ta tc at_ _ (HS.out.later hb4') HTY.out).mono ?_; rw [HHB.out]; rintro e w5 ⟨rfl, hb5⟩; have z05 := rd_later (w := w4) z0 hb5; have z45 := rd_later (w := w4) z4 hb5; have u05 := rd_later (w := w4) u0 hb5))
            go_ret
            exact ⟨by rw [HE2.out]; rfl, bcall hb4' hb5⟩
      · have HE2 := Lib.hid (show mentE S Q r ⟨11, nn, vr, at_, a, b⟩ = (if (!(!ng && decide (1 < hi))) = true then 76 else if (r && (ng || (!ng && decide (1 < hi)))) = true then 76 else 0) by rw [HE.out]; simp [useE, hbare, hagg, repB, HHB.out])
        cases ng
        · by_cases hr : 1 < hi
          all_goals cases r
          all_goals
            go_wp2_with (first | (go_at_call 86; refine (has_any A cap S ⟨false, tn, ty, vr', lo, hi⟩ ta tc at_ _ (HS.out.later hb4') HTY.out).mono ?_; rw [HHB.out]; rintro e w5 ⟨rfl, hb5⟩; have z05 := rd_later (w := w4) z0 hb5; have z45 := rd_later (w := w4) z4 hb5; have u05 := rd_later (w := w4) u0 hb5) | (go_at_call 75; refine (isBare_any 11 _).mono ?_; rw [hbare]; rintro e wq ⟨rfl, hq⟩; have hq := hq.symm; subst hq) | (go_at_call 76; refine (isAgg_any 11 _).mono ?_; rw [hagg]; rintro e wq ⟨rfl, hq⟩; have hq := hq.symm; subst hq))
            go_ret
            exact ⟨by rw [HE2.out]; simp [hr], bcall hb4' hb5⟩
        · by_cases hr : 1 < hi
          all_goals cases r
          all_goals
            go_wp2_with (first | (go_at_call 86; refine (has_any A cap S ⟨true, tn, ty, vr', lo, hi⟩ ta tc at_ _ (HS.out.later hb4') HTY.out).mono ?_; rw [HHB.out]; rintro e w5 ⟨rfl, hb5⟩; have z05 := rd_later (w := w4) z0 hb5; have z45 := rd_later (w := w4) z4 hb5; have u05 := rd_later (w := w4) u0 hb5) | (go_at_call 75; refine (isBare_any 11 _).mono ?_; rw [hbare]; rintro e wq ⟨rfl, hq⟩; have hq := hq.symm; subst hq) | (go_at_call 76; refine (isAgg_any 11 _).mono ?_; rw [hagg]; rintro e wq ⟨rfl, hq⟩; have hq := hq.symm; subst hq))
            go_ret
            exact ⟨by rw [HE2.out]; simp [hr], bcall hb4' hb5⟩
  · subst ho
    have hbare : bareB 5 = false := rfl
    have hagg : aggB 5 = true := rfl
    rcases itemI_or Q.n Q.it vr with hI | ⟨j, hj, hI⟩
    · have hh := HM.out.none vr hI
      have HE := Lib.hid (show mentE S Q r ⟨5, nn, vr, at_, a, b⟩ = 68 by simp only [mentE, hbare, hagg, hI]; rfl)
      clear hI
      go_wp2_with (first | (go_at_call 75; refine (isBare_any 5 _).mono ?_; rw [hbare]; rintro e wq ⟨rfl, hq⟩; have hq := hq.symm; subst hq) | (go_at_call 76; refine (isAgg_any 5 _).mono ?_; rw [hagg]; rintro e wq ⟨rfl, hq⟩; have hq := hq.symm; subst hq) | (at_lookup; refine wpList_lookup_own_ok_int _ rfl _ _ 81 rfl 9 3 .i64 lawTxt Tryd.underlying81 Tryd.underlying3 (zeroInt _) bn Q.n DN rfl HO0.out _ _ rfl (Go.WideMaps.keyOf_string_mk Tryd.underlying9 hlen) ?_; intro c hat hwc; rw [hh]))
      go_ret
      exact ⟨by rw [HE.out]; rfl, hb0⟩
    · obtain ⟨hh, hat0⟩ := HM.out.some vr j hI
      obtain ⟨ib, off, eI, hbl, hcs⟩ := (HQ.out.later hb0).rI.spot (by omega)
      have eI : aI = some ⟨ib, off, none⟩ := eI
      subst eI
      obtain ⟨g0, ⟨ta, tc, g1, _, _, hty⟩, g2, g3, g4⟩ := hcs j hj
      obtain ⟨y, hy⟩ : ∃ y, Q.it j = y := ⟨_, rfl⟩
      rw [hy] at g0 g1 g2 g3 g4 hty
      obtain ⟨ng, tn, ty, vr', lo, hi⟩ := y
      have HE := Lib.hid (show mentE S Q r ⟨5, nn, vr, at_, a, b⟩ = useE S r ⟨ng, tn, ty, vr', lo, hi⟩ ⟨5, nn, vr, at_, a, b⟩ by
        have e1 : itemI Q.n Q.it vr ≠ -1 := by omega
        have e2 : (itemI Q.n Q.it vr).toNat = j := by omega
        simp only [mentE, hbare, hagg, e2, hy, if_neg e1]
        rfl)
      have I4 := Lib.hid (blk_new w0 #[.bool ng, .slice ta tn tc, .string vr', .int .i64 lo, .int .i64 hi] 80)
      have hb4 := bnew (Below.refl w0.heap.size w0) (.cells #[.bool ng, .slice ta tn tc, .string vr', .int .i64 lo, .int .i64 hi] 80)
      have hb4' := bcall hb0 hb4
      have HTY := Lib.hid (RowRd.later hty hb4)
      have S4 := Lib.hid (blk_below S0.out hb4)
      have X4 := Lib.hid (blk_below X0.out hb4)
      clear hcs hy hty hI
      go_upto_region 7 with (first | (go_at_call 75; refine (isBare_any 5 _).mono ?_; rw [hbare]; rintro e wq ⟨rfl, hq⟩; have hq := hq.symm; subst hq) | (go_at_call 76; refine (isAgg_any 5 _).mono ?_; rw [hagg]; rintro e wq ⟨rfl, hq⟩; have hq := hq.symm; subst hq) | (at_lookup; refine wpList_lookup_own_ok_int _ rfl _ _ 81 rfl 9 3 .i64 lawTxt Tryd.underlying81 Tryd.underlying3 (zeroInt _) bn Q.n DN rfl HO0.out _ _ rfl (Go.WideMaps.keyOf_string_mk Tryd.underlying9 hlen) ?_; intro c hat hwc; rw [hh]; rw [hat0] at hat; injection hat with hat; injection hat with _ hat; subst hat))
      generalize w0.alloc _ = w4 at *
      clear g0 g1 g2 g3 g4 t0 t2 t3 x0 p0
      have z0 := blk_cell I4.out (j := 0) rfl
      have z1 := blk_cell I4.out (j := 1) rfl
      have z2 := blk_cell I4.out (j := 2) rfl
      have z3 := blk_cell I4.out (j := 3) rfl
      have z4 := blk_cell I4.out (j := 4) rfl
      have u0 := blk_cell X4.out (j := 0) rfl
      have HE2 := Lib.hid (show mentE S Q r ⟨5, nn, vr, at_, a, b⟩ = (if ng = true then 76 else 0) by rw [HE.out]; simp [useE, hbare, hagg, repB])
      cases ng
      · by_cases hr : 1 < hi
        all_goals cases r
        all_goals
          go_wp2_with (first | (go_at_call 75; refine (isBare_any 5 _).mono ?_; rw [hbare]; rintro e wq ⟨rfl, hq⟩; have hq := hq.symm; subst hq) | (go_at_call 76; refine (isAgg_any 5 _).mono ?_; rw [hagg]; rintro e wq ⟨rfl, hq⟩; have hq := hq.symm; subst hq))
          go_ret
          exact ⟨by rw [HE2.out]; simp [hr], hb4'⟩
      · by_cases hr : 1 < hi
        all_goals cases r
        all_goals
          go_wp2_with (first | (go_at_call 75; refine (isBare_any 5 _).mono ?_; rw [hbare]; rintro e wq ⟨rfl, hq⟩; have hq := hq.symm; subst hq) | (go_at_call 76; refine (isAgg_any 5 _).mono ?_; rw [hagg]; rintro e wq ⟨rfl, hq⟩; have hq := hq.symm; subst hq))
          go_ret
          exact ⟨by rw [HE2.out]; simp [hr], hb4'⟩
  · have hbare : bareB op = false := by simp [bareB]; omega
    have hagg : aggB op = true := by simp [aggB]; omega
    have h5 : (op == 5) = false := by rw [beq_eq_false_iff_ne]; omega
    have h11 : (op == 11) = false := by rw [beq_eq_false_iff_ne]; omega
    rcases itemI_or Q.n Q.it vr with hI | ⟨j, hj, hI⟩
    · have hh := HM.out.none vr hI
      have HE := Lib.hid (show mentE S Q r ⟨op, nn, vr, at_, a, b⟩ = 68 by simp only [mentE, hbare, hagg, hI]; rfl)
      clear hI
      go_wp2_with (first | (go_at_call 75; refine (isBare_any op _).mono ?_; rw [hbare]; rintro e wq ⟨rfl, hq⟩; have hq := hq.symm; subst hq) | (go_at_call 76; refine (isAgg_any op _).mono ?_; rw [hagg]; rintro e wq ⟨rfl, hq⟩; have hq := hq.symm; subst hq) | (at_lookup; refine wpList_lookup_own_ok_int _ rfl _ _ 81 rfl 9 3 .i64 lawTxt Tryd.underlying81 Tryd.underlying3 (zeroInt _) bn Q.n DN rfl HO0.out _ _ rfl (Go.WideMaps.keyOf_string_mk Tryd.underlying9 hlen) ?_; intro c hat hwc; rw [hh]))
      go_ret
      exact ⟨by rw [HE.out]; rfl, hb0⟩
    · obtain ⟨hh, hat0⟩ := HM.out.some vr j hI
      obtain ⟨ib, off, eI, hbl, hcs⟩ := (HQ.out.later hb0).rI.spot (by omega)
      have eI : aI = some ⟨ib, off, none⟩ := eI
      subst eI
      obtain ⟨g0, ⟨ta, tc, g1, _, _, hty⟩, g2, g3, g4⟩ := hcs j hj
      obtain ⟨y, hy⟩ : ∃ y, Q.it j = y := ⟨_, rfl⟩
      rw [hy] at g0 g1 g2 g3 g4 hty
      obtain ⟨ng, tn, ty, vr', lo, hi⟩ := y
      have HE := Lib.hid (show mentE S Q r ⟨op, nn, vr, at_, a, b⟩ = useE S r ⟨ng, tn, ty, vr', lo, hi⟩ ⟨op, nn, vr, at_, a, b⟩ by
        have e1 : itemI Q.n Q.it vr ≠ -1 := by omega
        have e2 : (itemI Q.n Q.it vr).toNat = j := by omega
        simp only [mentE, hbare, hagg, e2, hy, if_neg e1]
        rfl)
      have I4 := Lib.hid (blk_new w0 #[.bool ng, .slice ta tn tc, .string vr', .int .i64 lo, .int .i64 hi] 80)
      have hb4 := bnew (Below.refl w0.heap.size w0) (.cells #[.bool ng, .slice ta tn tc, .string vr', .int .i64 lo, .int .i64 hi] 80)
      have hb4' := bcall hb0 hb4
      have HTY := Lib.hid (RowRd.later hty hb4)
      have S4 := Lib.hid (blk_below S0.out hb4)
      have X4 := Lib.hid (blk_below X0.out hb4)
      clear hcs hy hty hI
      go_upto_region 7 with (first | (go_at_call 75; refine (isBare_any op _).mono ?_; rw [hbare]; rintro e wq ⟨rfl, hq⟩; have hq := hq.symm; subst hq) | (go_at_call 76; refine (isAgg_any op _).mono ?_; rw [hagg]; rintro e wq ⟨rfl, hq⟩; have hq := hq.symm; subst hq) | (at_lookup; refine wpList_lookup_own_ok_int _ rfl _ _ 81 rfl 9 3 .i64 lawTxt Tryd.underlying81 Tryd.underlying3 (zeroInt _) bn Q.n DN rfl HO0.out _ _ rfl (Go.WideMaps.keyOf_string_mk Tryd.underlying9 hlen) ?_; intro c hat hwc; rw [hh]; rw [hat0] at hat; injection hat with hat; injection hat with _ hat; subst hat))
      generalize w0.alloc _ = w4 at *
      clear g0 g1 g2 g3 g4 t0 t2 t3 x0 p0
      have z0 := blk_cell I4.out (j := 0) rfl
      have z1 := blk_cell I4.out (j := 1) rfl
      have z2 := blk_cell I4.out (j := 2) rfl
      have z3 := blk_cell I4.out (j := 3) rfl
      have z4 := blk_cell I4.out (j := 4) rfl
      have u0 := blk_cell X4.out (j := 0) rfl
      have u3 := blk_cell X4.out (j := 3) rfl
      have v0 := blk_cell S4.out (j := 0) rfl
      obtain ⟨hb, hhb⟩ : ∃ hb, hasB S ⟨ng, tn, ty, vr', lo, hi⟩ at_ = hb := ⟨_, rfl⟩
      have HHB := Lib.hid hhb
      clear hhb
      cases hb
      · have HE2 := Lib.hid (show mentE S Q r ⟨op, nn, vr, at_, a, b⟩ = 69 by rw [HE.out]; simp only [useE, HHB.out, h5]; rfl)
        cases ng
        · by_cases hr : 1 < hi
          all_goals
            go_wp2_with (first | (go_at_call 86; refine (has_any A cap S ⟨false, tn, ty, vr', lo, hi⟩ ta tc at_ _ (HS.out.later hb4') HTY.out).mono ?_; rw [HHB.out]; rintro e w5 ⟨rfl, hb5⟩; have z05 := rd_later (w := w4) z0 hb5; have z45 := rd_later (w := w4) z4 hb5; have u05 := rd_later (w := w4) u0 hb5))
            go_ret
            exact ⟨by rw [HE2.out]; rfl, bcall hb4' hb5⟩
        · by_cases hr : 1 < hi
          all_goals
            go_wp2_with (first | (go_at_call 86; refine (has_any A cap S ⟨true, tn, ty, vr', lo, hi⟩ ta tc at_ _ (HS.out.later hb4') HTY.out).mono ?_; rw [HHB.out]; rintro e w5 ⟨rfl, hb5⟩; have z05 := rd_later (w := w4) z0 hb5; have z45 := rd_later (w := w4) z4 hb5; have u05 := rd_later (w := w4) u0 hb5))
            go_ret
            exact ⟨by rw [HE2.out]; rfl, bcall hb4' hb5⟩
      · have HE2 := Lib.hid (show mentE S Q r ⟨op, nn, vr, at_, a, b⟩ = (if ng = true then 76 else 0) by rw [HE.out]; simp [useE, hbare, hagg, repB, HHB.out, h5, h11])
        cases ng
        · by_cases hr : 1 < hi
          all_goals cases r
          all_goals
            go_wp2_with (first | (go_at_call 86; refine (has_any A cap S ⟨false, tn, ty, vr', lo, hi⟩ ta tc at_ _ (HS.out.later hb4') HTY.out).mono ?_; rw [HHB.out]; rintro e w5 ⟨rfl, hb5⟩; have z05 := rd_later (w := w4) z0 hb5; have z45 := rd_later (w := w4) z4 hb5; have u05 := rd_later (w := w4) u0 hb5) | (go_at_call 75; refine (isBare_any op _).mono ?_; rw [hbare]; rintro e wq ⟨rfl, hq⟩; have hq := hq.symm; subst hq) | (go_at_call 76; refine (isAgg_any op _).mono ?_; rw [hagg]; rintro e wq ⟨rfl, hq⟩; have hq := hq.symm; subst hq))
            go_ret
            exact ⟨by rw [HE2.out]; simp [hr], bcall hb4' hb5⟩
        · by_cases hr : 1 < hi
          all_goals cases r
          all_goals
            go_wp2_with (first | (go_at_call 86; refine (has_any A cap S ⟨true, tn, ty, vr', lo, hi⟩ ta tc at_ _ (HS.out.later hb4') HTY.out).mono ?_; rw [HHB.out]; rintro e w5 ⟨rfl, hb5⟩; have z05 := rd_later (w := w4) z0 hb5; have z45 := rd_later (w := w4) z4 hb5; have u05 := rd_later (w := w4) u0 hb5) | (go_at_call 75; refine (isBare_any op _).mono ?_; rw [hbare]; rintro e wq ⟨rfl, hq⟩; have hq := hq.symm; subst hq) | (go_at_call 76; refine (isAgg_any op _).mono ?_; rw [hagg]; rintro e wq ⟨rfl, hq⟩; have hq := hq.symm; subst hq))
            go_ret
            exact ⟨by rw [HE2.out]; simp [hr], bcall hb4' hb5⟩
  · have hbare : bareB op = false := by simp [bareB]; omega
    have hagg : aggB op = false := by simp [aggB]; omega
    have HE := Lib.hid (show mentE S Q r ⟨op, nn, vr, at_, a, b⟩ = 0 by simp only [mentE, hbare, hagg]; rfl)
    go_wp2_with (first | (go_at_call 75; refine (isBare_any op _).mono ?_; rw [hbare]; rintro e wq ⟨rfl, hq⟩; have hq := hq.symm; subst hq) | (go_at_call 76; refine (isAgg_any op _).mono ?_; rw [hagg]; rintro e wq ⟨rfl, hq⟩; have hq := hq.symm; subst hq))
    go_ret
    exact ⟨by rw [HE.out]; rfl, hb0⟩
end Go.Proofs.YtagcbljfaflhoaaDoor

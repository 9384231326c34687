/-
  The walk of check.Uses.
-/
import Derived.Test.YtagcbljfaflhoaaDoorUses
set_option linter.unusedSimpArgs false
set_option linter.unusedVariables false
namespace Go.Proofs.YtagcbljfaflhoaaDoor
open Go.RowKit Go.ChangeShapes Go.WideShapes Go.ChangeAt Go.Deep Go.Joins
open Go.Maps (Keyed IsMap)
/-- Three counting maps, one behind the other. -/
structure Cnt3 (w : World) (b : Nat) (n : Nat) (it : Nat → Itm) (t : Nat → Nod) (k : Nat) (D1 D2 D3 : DataW Unit) : Prop where
  o1 : CnOwn w b k D1
  o2 : CnOwn w (b + 1) k D2
  o3 : CnOwn w (b + 1 + 1) k D3
  c1 : CntMap bareB n it t k D1
  c2 : CntMap prevB n it t k D2
  c3 : CntMap aggB n it t k D3
theorem cn_kept {w w' : World} {b n : Nat} {D : DataW Unit} {row : Option Nat} (h : CnOwn w b n D) (hg : w.grownBy w' row) (hne : row ≠ some b) : CnOwn w' b n D := World.ownsMap.kept h hg (Ne.symm hne)
theorem cn_below {w w' : World} {b n : Nat} {D : DataW Unit} (h : CnOwn w b n D) (hb : Below w.heap.size w w') : CnOwn w' b n D := World.ownsMap.kept h (row := none) ⟨hb.os, hb.tape, hb.output, hb.size, fun i hi _ => hb.block i hi⟩ (by simp)
theorem nmo_below {w w' : World} {b n : Nat} {D : DataW Unit} {B : Nat} (h : NmOwn w b n D) (hb : Below B w w') (hB : b < B) : NmOwn w' b n D := by
  obtain ⟨es, clock, h1, F, h2, h3⟩ := h
  exact ⟨es, clock, (hb.block b hB).trans h1, F, h2, h3⟩
/-- An owned row, the call's base counted from further down. -/
theorem own_wide {w : World} {B B' n sz : Nat} {e : TypeId} {v : Value} {xs : List Value} (h : w.ownsRow B e sz v n xs) (hB : B' ≤ B) : w.ownsRow B' e sz v n xs := by
  refine ⟨h.1, ?_⟩
  rcases h.2 with h1 | ⟨g, cap, cur, e1, h1, h2⟩
  · exact Or.inl h1
  · exact Or.inr ⟨g, cap, cur, e1, by omega, h2⟩
theorem cnt_zero3 (w : World) (n : Nat) (it : Nat → Itm) (t : Nat → Nod) : Cnt3 (((w.alloc (.map #[] 0)).alloc (.map #[] 0)).alloc (.map #[] 0)) w.heap.size n it t 0 (.map []) (.map []) (.map []) := by
  refine ⟨?_, ?_, ?_, cm_zero _ _ _ _, cm_zero _ _ _ _, cm_zero _ _ _ _⟩
  · exact ((World.ownsMap_made w Tryd.prog 3 (plainElem Tryd.prog 3)).alloc _).alloc _
  · have := (World.ownsMap_made (H := Unit) (w.alloc (.map #[] 0)) Tryd.prog 3 (plainElem Tryd.prog 3)).alloc (.map #[] 0)
    rw [World.size_alloc] at this
    exact this
  · have := World.ownsMap_made (H := Unit) ((w.alloc (.map #[] 0)).alloc (.map #[] 0)) Tryd.prog 3 (plainElem Tryd.prog 3)
    rw [World.size_alloc, World.size_alloc] at this
    exact this
theorem run_makeMap_bare {P : Program} {t key elem : TypeId} (hu : P.underlying t = some (.map key elem)) (w : World) : (Instr.makeMap t none).run P w = .ok (.map (some w.heap.size)) (w.alloc (.map #[] 0)) := by
  simp [Instr.makeMap, run_underlying hu, Result.andThen]
set_option maxRecDepth 100000 in
set_option maxHeartbeats 4000000 in
theorem uses_apart (V : QryV) (Q : Qry) (A : Option Addr) (m c : Nat) (t : Nat → Nod) (w : World) (h : QryRd w w.heap.size V Q) (hwf : QryWf Q) (hT : NodRd w w.heap.size A m t) (hN : ∀ j, j < m → NodWf (t j)) :
    Calls Tryd.prog 37 #[.agg (qryArr V Q), .slice A m c] w fun e w' => ∃ v1 v2 v3, e = .returned (.agg #[v1, v2, v3]) ∧ Below w.heap.size w w' ∧
      w'.ownsRow w.heap.size 3 1 v1 (usesL bareB Q.n Q.it t m Q.n).length ((usesL bareB Q.n Q.it t m Q.n).map natV) ∧ w'.ownsRow w.heap.size 3 1 v2 (usesL prevB Q.n Q.it t m Q.n).length ((usesL prevB Q.n Q.it t m Q.n).map natV) ∧ w'.ownsRow w.heap.size 3 1 v3 (usesL aggB Q.n Q.it t m Q.n).length ((usesL aggB Q.n Q.it t m Q.n).map natV) ∧ ∃ z1 z2 : Nat, w.heap.size ≤ z1 ∧ z1 ≤ z2 ∧ (∀ g, v1.ownBlock = some g → g < z1) ∧ (∀ g, v2.ownBlock = some g → z1 ≤ g ∧ g < z2) ∧ (∀ g, v3.ownBlock = some g → z2 ≤ g) := by
  obtain ⟨aI, cI, aW, cW, aR, cR⟩ := V
  show Calls _ _ #[.agg #[.slice aI Q.n cI, .int .i64 Q.mode, .int .i64 Q.after, .slice aW Q.wn cW, .int .i64 Q.within, .string Q.by_, .slice aR Q.m cR], .slice A m c] w _
  have hnI := h.rI.small
  have hnm := hT.small
  have HB := bnew (bnew (Below.refl w.heap.size w) (.cells #[.slice aI Q.n cI, .int .i64 Q.mode, .int .i64 Q.after, .slice aW Q.wn cW, .int .i64 Q.within, .string Q.by_, .slice aR Q.m cR] 40)) (.cells #[.slice none 0 0, .slice none 0 0, .slice none 0 0] 57)
  have B0 := Lib.hid (blk_alloc (blk_new w #[.slice aI Q.n cI, .int .i64 Q.mode, .int .i64 Q.after, .slice aW Q.wn cW, .int .i64 Q.within, .string Q.by_, .slice aR Q.m cR] 40) (.cells #[.slice none 0 0, .slice none 0 0, .slice none 0 0] 57))
  have b1 := blk_new (w.alloc (.cells #[.slice aI Q.n cI, .int .i64 Q.mode, .int .i64 Q.after, .slice aW Q.wn cW, .int .i64 Q.within, .string Q.by_, .slice aR Q.m cR] 40)) #[.slice none 0 0, .slice none 0 0, .slice none 0 0] 57
  rw [World.size_alloc] at b1
  have B1 := Lib.hid b1
  have HQ2 := Lib.hid (h.later HB)
  have HT2 := Lib.hid (hT.later HB)
  have HWF := Lib.hid hwf
  have HN := Lib.hid hN
  have hz2 : ((w.alloc (.cells #[.slice aI Q.n cI, .int .i64 Q.mode, .int .i64 Q.after, .slice aW Q.wn cW, .int .i64 Q.within, .string Q.by_, .slice aR Q.m cR] 40)).alloc (.cells #[.slice none 0 0, .slice none 0 0, .slice none 0 0] 57)).heap.size = w.heap.size + 2 := by simp
  have hmm := @run_makeMap_bare Tryd.prog 102 _ _ Tryd.underlying102
  clear h hwf hT hN b1
  go_enter Tryd.func37, Tryd.ntmps37
  go_upto_region 1 with fail
  generalize (w.alloc _).alloc _ = w2 at *
  go_wp2_with (refine wpList_load_row rfl 40 _ rfl w.heap.size rfl 40 _ (0, 0) _ B0.out Tryd.underlying40 rfl (by kernel_rfl) ?_)
  refine (byName_any ⟨aI, cI, aW, cW, aR, cR⟩ Q _ HQ2.out HWF.out).mono ?_
  rintro e w3 ⟨bn, DN, rfl, hb3, hbn, hno, hnm2⟩
  have HNM := Lib.hid hnm2
  have hbn3 := hno.lt
  have HNO := Lib.hid hno
  have HT3 := Lib.hid (HT2.out.later hb3)
  have HB3 := bcall HB hb3
  have hs3 := hb3.size
  have C0 := Lib.hid (blk_below B0.out hb3)
  have C1 := Lib.hid (blk_below B1.out hb3)
  have HC := Lib.hid (cnt_zero3 w3 Q.n Q.it t)
  have hbm := ((((Below.refl w3.heap.size w3).alloc (Nat.le_refl _) (.map #[] 0)).alloc (by simp) (.map #[] 0)).alloc (by simp; omega) (.map #[] 0))
  have hzm : (((w3.alloc (.map #[] 0)).alloc (.map #[] 0)).alloc (.map #[] 0)).heap.size = w3.heap.size + 3 := by simp
  clear hno hnm2
  go_upto_region 3 with fail
  generalize ((w3.alloc _).alloc _).alloc _ = w4 at *
  go_wp2_with fail
  go_loopw [21] (fun i wr => ∃ (k : Nat) (D1 D2 D3 : DataW Unit), k ≤ m ∧ i = .int .i64 k ∧ Hid (Cnt3 wr w3.heap.size Q.n Q.it t k D1 D2 D3) ∧ Below w3.heap.size w3 wr ∧ w3.heap.size + 3 ≤ wr.heap.size) (fun i _ => m - (intOf i).toNat)
  case atStart => exact ⟨0, _, _, _, Nat.zero_le _, rfl, HC, hbm, by omega⟩
  case round =>
    clear HC hbm hzm
    obtain ⟨k, D1, D2, D3, hk, rfl, HC, hb, hz⟩ := hrel
    obtain ⟨W1, e1⟩ : ∃ W1 : World, W1 = wr := ⟨_, rfl⟩
    subst e1
    by_cases hlt : k < m
    · obtain ⟨b, off, eA, hbl, hcs⟩ := HT3.out.spot (by omega)
      subst eA
      obtain ⟨d0, d1, d2, d3, d4, d5⟩ := hcs k hlt
      have g0 := (hb.cell (p := ⟨b, off + k * 6, none⟩) hbl).trans d0
      have g1 := (hb.cell (p := ⟨b, off + k * 6 + 1, none⟩) hbl).trans d1
      have g2 := (hb.cell (p := ⟨b, off + k * 6 + 2, none⟩) hbl).trans d2
      have g3 := (hb.cell (p := ⟨b, off + k * 6 + 3, none⟩) hbl).trans d3
      have g4 := (hb.cell (p := ⟨b, off + k * 6 + 4, none⟩) hbl).trans d4
      have g5 := (hb.cell (p := ⟨b, off + k * 6 + 5, none⟩) hbl).trans d5
      have hlen := (HN.out k hlt).vr
      obtain ⟨x, hx⟩ : ∃ x, t k = x := ⟨_, rfl⟩
      rw [hx] at g0 g1 g2 g3 g4 g5 hlen
      obtain ⟨op, nn, vr, at_, a, b2⟩ := x
      have HX := Lib.hid hx
      have I4 := Lib.hid (blk_new W1 #[.int .i64 op, .int .i64 nn, .string vr, .string at_, .int .i64 a, .int .i64 b2] 60)
      have hb4 := hb.alloc hb.size (.cells #[.int .i64 op, .int .i64 nn, .string vr, .string at_, .int .i64 a, .int .i64 b2] 60)
      have HO1 := Lib.hid (World.ownsMap.alloc HC.out.o1 (.cells #[.int .i64 op, .int .i64 nn, .string vr, .string at_, .int .i64 a, .int .i64 b2] 60))
      have HO2 := Lib.hid (World.ownsMap.alloc HC.out.o2 (.cells #[.int .i64 op, .int .i64 nn, .string vr, .string at_, .int .i64 a, .int .i64 b2] 60))
      have HO3 := Lib.hid (World.ownsMap.alloc HC.out.o3 (.cells #[.int .i64 op, .int .i64 nn, .string vr, .string at_, .int .i64 a, .int .i64 b2] 60))
      have hz4 : (W1.alloc (.cells #[.int .i64 op, .int .i64 nn, .string vr, .string at_, .int .i64 a, .int .i64 b2] 60)).heap.size = W1.heap.size + 1 := by simp
      clear hcs d0 d1 d2 d3 d4 d5 hx
      go_upto_region 6 with fail
      generalize W1.alloc _ = w5 at *
      clear g0 g1 g2 g3 g4 g5
      have t2 := blk_cell I4.out (j := 2) rfl
      have t0 := blk_cell I4.out (j := 0) rfl
      have HNO5 : Hid (w5.ownsMap Tryd.prog 9 (plainElem (H := Unit) Tryd.prog 3) bn Q.n DN) := Lib.hid (nmo_below HNO.out hb4 hbn3)
      have hc1 : cntU bareB Q.n Q.it t k 0 ≤ k := cnt_le
      have HCL : Hid (∀ P i, cntU P Q.n Q.it t k i ≤ k) := Lib.hid (fun _ _ => cnt_le)
      rcases itemI_or Q.n Q.it vr with hI | ⟨j, hj, hI⟩
      · have hh := HNM.out.none vr hI
        have HI := Lib.hid hI
        clear hI
        go_wp2_with (at_lookup; refine wpList_lookup_own_ok_int _ rfl _ _ 81 rfl 9 3 .i64 lawTxt Tryd.underlying81 Tryd.underlying3 (zeroInt _) bn Q.n DN rfl HNO5.out _ _ rfl (Go.WideMaps.keyOf_string_mk Tryd.underlying9 hlen) ?_; intro c hat hwc; rw [hh])
        go_roundw
        case rel => exact ⟨k + 1, D1, D2, D3, by omega, by go_num, Lib.hid ⟨HO1.out.mono (Nat.le_succ k), HO2.out.mono (Nat.le_succ k), HO3.out.mono (Nat.le_succ k), cm_miss HC.out.c1 (Or.inl (by rw [HX.out]; exact HI.out)), cm_miss HC.out.c2 (Or.inl (by rw [HX.out]; exact HI.out)), cm_miss HC.out.c3 (Or.inl (by rw [HX.out]; exact HI.out))⟩, hb4, by omega⟩
        case measure => simp [intOf]; omega
      · obtain ⟨hh, hat0⟩ := HNM.out.some vr j hI
        have HI := Lib.hid (show itemI Q.n Q.it (t k).vr = j by rw [HX.out]; exact hI)
        have HOP := Lib.hid (show (t k).op = op by rw [HX.out])
        have l1 := HCL.out bareB j
        have l2 := HCL.out prevB j
        have l3 := HCL.out aggB j
        clear hI
        go_upto_region 7 with (at_lookup; refine wpList_lookup_own_ok_int _ rfl _ _ 81 rfl 9 3 .i64 lawTxt Tryd.underlying81 Tryd.underlying3 (zeroInt _) bn Q.n DN rfl HNO5.out _ _ rfl (Go.WideMaps.keyOf_string_mk Tryd.underlying9 hlen) ?_; intro c hat hwc; rw [hh]; rw [hat0] at hat; injection hat with hat; injection hat with _ hat; subst hat)
        go_wp2_with fail
        refine (isBare_any op _).mono ?_
        rintro e wq ⟨rfl, rfl⟩
        rcases (by omega : op = 4 ∨ op = 11 ∨ (5 ≤ op ∧ op ≤ 10) ∨ (op ≠ 4 ∧ op ≠ 11 ∧ ¬ (5 ≤ op ∧ op ≤ 10))) with ho | ho | ho | ho
        · subst ho
          have hp1 : bareB 4 = true := rfl
          have hp2 : ((4 : Int) == 11) = false := rfl
          have hp3 : aggB 4 = false := rfl
          have P1 := Lib.hid (show bareB (t k).op = true by rw [HOP.out]; exact hp1)
          have P2 := Lib.hid (show prevB (t k).op = false by rw [HOP.out]; exact hp2)
          have P3 := Lib.hid (show aggB (t k).op = false by rw [HOP.out]; exact hp3)
          rw [hp1]
          go_upto_region 10 with (first
            | (at_lookup; refine wpList_lookup_own_int _ rfl _ _ 102 rfl 3 3 .i64 lawInt Tryd.underlying102 Tryd.underlying3 (zeroInt _) (w3.heap.size) k D1 rfl HO1.out _ _ rfl (Go.Maps.keyOf_int_mk Tryd.underlying3 (WalkArith.wf_i64 (by omega))) ?_; intro c hat hwc; rw [HC.out.c1.at_ j] at hat; injection hat with hat; injection hat with _ hat; subst hat)
            | (at_mapUpdate; refine wpList_mapUpdate_own _ rfl _ _ _ 102 rfl 3 3 lawInt Tryd.underlying102 _ (w3.heap.size) k _ rfl HO1.out (by unfold maxLen; omega) _ _ _ rfl rfl (Go.Maps.keyOf_int_mk Tryd.underlying3 (WalkArith.wf_i64 (by omega))) _ [] (plainElem_int Tryd.underlying3 (WalkArith.wf_i64 (by omega))) ?_; intro v1 hown1 hgrow1))
          have hbv1 := hb4.grown hgrow1 (by have := hb4.size; omega) (fun x hx => by cases hx; omega)
          have hsv1 := hgrow1.size
          have Iv1 := Lib.hid (blk_grown I4.out hgrow1 (by intro e; injection e with e; omega))
          have K1 := Lib.hid hown1
          have K2v1 := Lib.hid (cn_kept HO2.out hgrow1 (by intro e; injection e with e; omega))
          have K3v1 := Lib.hid (cn_kept HO3.out hgrow1 (by intro e; injection e with e; omega))
          have t0v1 := blk_cell Iv1.out (j := 0) rfl
          clear hown1
          go_wp2_with fail
          refine (isAgg_any 4 _).mono ?_
          rintro e wz ⟨rfl, rfl⟩
          rw [hp3]
          go_wp2_with fail
          go_roundw
          case rel => exact ⟨k + 1, _, _, _, by omega, by go_num, Lib.hid ⟨K1.out, World.ownsMap.mono (K2v1.out) (Nat.le_succ k), World.ownsMap.mono (K3v1.out) (Nat.le_succ k), cm_hit HC.out.c1 HI.out P1.out (HC.out.c1.at_ j) rfl, cm_miss HC.out.c2 (Or.inr P2.out), cm_miss HC.out.c3 (Or.inr P3.out)⟩, hbv1, by omega⟩
          case measure => simp [intOf]; omega
        · subst ho
          have hp1 : bareB 11 = true := rfl
          have hp2 : ((11 : Int) == 11) = true := rfl
          have hp3 : aggB 11 = false := rfl
          have P1 := Lib.hid (show bareB (t k).op = true by rw [HOP.out]; exact hp1)
          have P2 := Lib.hid (show prevB (t k).op = true by rw [HOP.out]; exact hp2)
          have P3 := Lib.hid (show aggB (t k).op = false by rw [HOP.out]; exact hp3)
          rw [hp1]
          go_upto_region 10 with (first
            | (at_lookup; refine wpList_lookup_own_int _ rfl _ _ 102 rfl 3 3 .i64 lawInt Tryd.underlying102 Tryd.underlying3 (zeroInt _) (w3.heap.size) k D1 rfl HO1.out _ _ rfl (Go.Maps.keyOf_int_mk Tryd.underlying3 (WalkArith.wf_i64 (by omega))) ?_; intro c hat hwc; rw [HC.out.c1.at_ j] at hat; injection hat with hat; injection hat with _ hat; subst hat)
            | (at_mapUpdate; refine wpList_mapUpdate_own _ rfl _ _ _ 102 rfl 3 3 lawInt Tryd.underlying102 _ (w3.heap.size) k _ rfl HO1.out (by unfold maxLen; omega) _ _ _ rfl rfl (Go.Maps.keyOf_int_mk Tryd.underlying3 (WalkArith.wf_i64 (by omega))) _ [] (plainElem_int Tryd.underlying3 (WalkArith.wf_i64 (by omega))) ?_; intro v1 hown1 hgrow1))
          have hbv1 := hb4.grown hgrow1 (by have := hb4.size; omega) (fun x hx => by cases hx; omega)
          have hsv1 := hgrow1.size
          have Iv1 := Lib.hid (blk_grown I4.out hgrow1 (by intro e; injection e with e; omega))
          have K1 := Lib.hid hown1
          have K2v1 := Lib.hid (cn_kept HO2.out hgrow1 (by intro e; injection e with e; omega))
          have K3v1 := Lib.hid (cn_kept HO3.out hgrow1 (by intro e; injection e with e; omega))
          have t0v1 := blk_cell Iv1.out (j := 0) rfl
          clear hown1
          go_upto_region 12 with (first
            | (at_lookup; refine wpList_lookup_own_int _ rfl _ _ 102 rfl 3 3 .i64 lawInt Tryd.underlying102 Tryd.underlying3 (zeroInt _) (w3.heap.size + 1) k D2 rfl K2v1.out _ _ rfl (Go.Maps.keyOf_int_mk Tryd.underlying3 (WalkArith.wf_i64 (by omega))) ?_; intro c hat hwc; rw [HC.out.c2.at_ j] at hat; injection hat with hat; injection hat with _ hat; subst hat)
            | (at_mapUpdate; refine wpList_mapUpdate_own _ rfl _ _ _ 102 rfl 3 3 lawInt Tryd.underlying102 _ (w3.heap.size + 1) k _ rfl K2v1.out (by unfold maxLen; omega) _ _ _ rfl rfl (Go.Maps.keyOf_int_mk Tryd.underlying3 (WalkArith.wf_i64 (by omega))) _ [] (plainElem_int Tryd.underlying3 (WalkArith.wf_i64 (by omega))) ?_; intro v2 hown2 hgrow2))
          have hbv2 := hbv1.grown hgrow2 (by have := hbv1.size; omega) (fun x hx => by cases hx; omega)
          have hsv2 := hgrow2.size
          have Iv2 := Lib.hid (blk_grown Iv1.out hgrow2 (by intro e; injection e with e; omega))
          have K2 := Lib.hid hown2
          have K1v2 := Lib.hid (cn_kept K1.out hgrow2 (by intro e; injection e with e; omega))
          have K3v2 := Lib.hid (cn_kept K3v1.out hgrow2 (by intro e; injection e with e; omega))
          have t0v2 := blk_cell Iv2.out (j := 0) rfl
          clear hown2
          go_wp2_with fail
          refine (isAgg_any 11 _).mono ?_
          rintro e wz ⟨rfl, rfl⟩
          rw [hp3]
          go_wp2_with fail
          go_roundw
          case rel => exact ⟨k + 1, _, _, _, by omega, by go_num, Lib.hid ⟨K1v2.out, K2.out, World.ownsMap.mono (K3v2.out) (Nat.le_succ k), cm_hit HC.out.c1 HI.out P1.out (HC.out.c1.at_ j) rfl, cm_hit HC.out.c2 HI.out P2.out (HC.out.c2.at_ j) rfl, cm_miss HC.out.c3 (Or.inr P3.out)⟩, hbv2, by omega⟩
          case measure => simp [intOf]; omega
        · have hp1 : bareB op = false := by simp [bareB]; omega
          have hp2 : (op == 11) = false := by rw [beq_eq_false_iff_ne]; omega
          have hp3 : aggB op = true := by simp [aggB]; omega
          have P1 := Lib.hid (show bareB (t k).op = false by rw [HOP.out]; exact hp1)
          have P2 := Lib.hid (show prevB (t k).op = false by rw [HOP.out]; exact hp2)
          have P3 := Lib.hid (show aggB (t k).op = true by rw [HOP.out]; exact hp3)
          rw [hp1]
          go_wp2_with fail
          refine (isAgg_any op _).mono ?_
          rintro e wz ⟨rfl, rfl⟩
          rw [hp3]
          go_upto_region 14 with (first
            | (at_lookup; refine wpList_lookup_own_int _ rfl _ _ 102 rfl 3 3 .i64 lawInt Tryd.underlying102 Tryd.underlying3 (zeroInt _) (w3.heap.size + 1 + 1) k D3 rfl HO3.out _ _ rfl (Go.Maps.keyOf_int_mk Tryd.underlying3 (WalkArith.wf_i64 (by omega))) ?_; intro c hat hwc; rw [HC.out.c3.at_ j] at hat; injection hat with hat; injection hat with _ hat; subst hat)
            | (at_mapUpdate; refine wpList_mapUpdate_own _ rfl _ _ _ 102 rfl 3 3 lawInt Tryd.underlying102 _ (w3.heap.size + 1 + 1) k _ rfl HO3.out (by unfold maxLen; omega) _ _ _ rfl rfl (Go.Maps.keyOf_int_mk Tryd.underlying3 (WalkArith.wf_i64 (by omega))) _ [] (plainElem_int Tryd.underlying3 (WalkArith.wf_i64 (by omega))) ?_; intro v3 hown3 hgrow3))
          have hbv3 := hb4.grown hgrow3 (by have := hb4.size; omega) (fun x hx => by cases hx; omega)
          have hsv3 := hgrow3.size
          have Iv3 := Lib.hid (blk_grown I4.out hgrow3 (by intro e; injection e with e; omega))
          have K3 := Lib.hid hown3
          have K1v3 := Lib.hid (cn_kept HO1.out hgrow3 (by intro e; injection e with e; omega))
          have K2v3 := Lib.hid (cn_kept HO2.out hgrow3 (by intro e; injection e with e; omega))
          have t0v3 := blk_cell Iv3.out (j := 0) rfl
          clear hown3
          go_wp2_with fail
          go_roundw
          case rel => exact ⟨k + 1, _, _, _, by omega, by go_num, Lib.hid ⟨World.ownsMap.mono (K1v3.out) (Nat.le_succ k), World.ownsMap.mono (K2v3.out) (Nat.le_succ k), K3.out, cm_miss HC.out.c1 (Or.inr P1.out), cm_miss HC.out.c2 (Or.inr P2.out), cm_hit HC.out.c3 HI.out P3.out (HC.out.c3.at_ j) rfl⟩, hbv3, by omega⟩
          case measure => simp [intOf]; omega
        · have hp1 : bareB op = false := by simp [bareB]; omega
          have hp2 : (op == 11) = false := by rw [beq_eq_false_iff_ne]; omega
          have hp3 : aggB op = false := by simp [aggB]; omega
          have P1 := Lib.hid (show bareB (t k).op = false by rw [HOP.out]; exact hp1)
          have P2 := Lib.hid (show prevB (t k).op = false by rw [HOP.out]; exact hp2)
          have P3 := Lib.hid (show aggB (t k).op = false by rw [HOP.out]; exact hp3)
          rw [hp1]
          go_wp2_with fail
          refine (isAgg_any op _).mono ?_
          rintro e wz ⟨rfl, rfl⟩
          rw [hp3]
          go_wp2_with fail
          go_roundw
          case rel => exact ⟨k + 1, _, _, _, by omega, by go_num, Lib.hid ⟨World.ownsMap.mono (HO1.out) (Nat.le_succ k), World.ownsMap.mono (HO2.out) (Nat.le_succ k), World.ownsMap.mono (HO3.out) (Nat.le_succ k), cm_miss HC.out.c1 (Or.inr P1.out), cm_miss HC.out.c2 (Or.inr P2.out), cm_miss HC.out.c3 (Or.inr P3.out)⟩, hb4, by omega⟩
          case measure => simp [intOf]; omega
    · obtain rfl : k = m := by omega
      go_wp2_with fail
      have E0 := Lib.hid (blk_below C0.out hb)
      have E1 := Lib.hid (blk_below C1.out hb)
      have hbW := bcall HB3 hb
      refine (rising_any (P := bareB) (n := Q.n) (it := Q.it) (t := t) (k := k) (N := k) (D := D1) _ hnI HC.out.o1 HC.out.c1 (blk_cell E0.out (j := 0) rfl)).mono ?_
      rintro e x1 ⟨v1, rfl, hx1, r1⟩
      obtain ⟨A1, c1, rfl, _⟩ := rowown_shape r1
      have R1 := Lib.hid r1
      have LT1 := Lib.hid (fun g hg => (r1.lt g hg).2)
      have F0 := Lib.hid (blk_below E0.out hx1)
      clear r1
      go_wp2_with fail
      refine (rising_any (P := prevB) (n := Q.n) (it := Q.it) (t := t) (k := k) (N := k) (D := D2) _ hnI (cn_below HC.out.o2 hx1) HC.out.c2 (blk_cell F0.out (j := 0) rfl)).mono ?_
      rintro e x2 ⟨v2, rfl, hx2, r2⟩
      obtain ⟨A2, c2, rfl, _⟩ := rowown_shape r2
      have R1' := Lib.hid (rowown_below R1.out hx2)
      have R2 := Lib.hid r2
      have LT2 := Lib.hid (fun g hg => r2.lt g hg)
      have G0 := Lib.hid (blk_below F0.out hx2)
      clear r2
      go_wp2_with fail
      refine (rising_any (P := aggB) (n := Q.n) (it := Q.it) (t := t) (k := k) (N := k) (D := D3) _ hnI (cn_below (cn_below HC.out.o3 hx1) hx2) HC.out.c3 (blk_cell G0.out (j := 0) rfl)).mono ?_
      rintro e x3 ⟨v3, rfl, hx3, r3⟩
      obtain ⟨A3, c3, rfl, _⟩ := rowown_shape r3
      have hs1 := hx1.size
      have hs2 := hx2.size
      have hsW := hbW.size
      have BF0 := Lib.hid (blk_below (blk_below (blk_below E1.out hx1) hx2) hx3)
      have q1 := own_row (rowown_below R1'.out hx3) BF0.out (by decide) #[.slice A1 (usesL bareB Q.n Q.it t k Q.n).length c1, .slice A2 (usesL prevB Q.n Q.it t k Q.n).length c2, .slice A3 (usesL aggB Q.n Q.it t k Q.n).length c3]
      have q2 := own_row (rowown_below R2.out hx3) BF0.out (by decide) #[.slice A1 (usesL bareB Q.n Q.it t k Q.n).length c1, .slice A2 (usesL prevB Q.n Q.it t k Q.n).length c2, .slice A3 (usesL aggB Q.n Q.it t k Q.n).length c3]
      have q3 := own_row r3 BF0.out (by decide) #[.slice A1 (usesL bareB Q.n Q.it t k Q.n).length c1, .slice A2 (usesL prevB Q.n Q.it t k Q.n).length c2, .slice A3 (usesL aggB Q.n Q.it t k Q.n).length c3]
      have Q1 := Lib.hid (own_wide q1 (by omega : w.heap.size ≤ W1.heap.size))
      have Q2 := Lib.hid (own_wide q2 (by omega : w.heap.size ≤ x1.heap.size))
      have Q3 := Lib.hid (own_wide q3 (by omega : w.heap.size ≤ x2.heap.size))
      have BF := Lib.hid (row_set BF0.out #[.slice A1 (usesL bareB Q.n Q.it t k Q.n).length c1, .slice A2 (usesL prevB Q.n Q.it t k Q.n).length c2, .slice A3 (usesL aggB Q.n Q.it t k Q.n).length c3])
      have hbf := below_setRow (cs := #[.slice A1 (usesL bareB Q.n Q.it t k Q.n).length c1, .slice A2 (usesL prevB Q.n Q.it t k Q.n).length c2, .slice A3 (usesL aggB Q.n Q.it t k Q.n).length c3]) (bcall (bcall (bcall hbW hx1) hx2) hx3) (Nat.le_succ w.heap.size)
      have LT3 := Lib.hid (fun g hg => (r3.lt g hg).1)
      have hsz12 : w.heap.size ≤ x1.heap.size ∧ x1.heap.size ≤ x2.heap.size := ⟨by omega, hs2⟩
      clear q1 q2 q3 r3
      go_wp2_with (refine wpList_store_row rfl 57 _ _ rfl (w.heap.size + 1) #[.slice A1 (usesL bareB Q.n Q.it t k Q.n).length c1, .slice A2 (usesL prevB Q.n Q.it t k Q.n).length c2, .slice A3 (usesL aggB Q.n Q.it t k Q.n).length c3] rfl rfl 57 _ BF0.out (by kernel_rfl) rfl (by simp [Value.oneCell']) ?_)
      (try simp only [Exit.inBlock, Exit.then])
      generalize x3.setRow (w.heap.size + 1) #[.slice A1 (usesL bareB Q.n Q.it t k Q.n).length c1, .slice A2 (usesL prevB Q.n Q.it t k Q.n).length c2, .slice A3 (usesL aggB Q.n Q.it t k Q.n).length c3] = wf at *
      refine bodyPost_ret (v := .agg #[.slice A1 (usesL bareB Q.n Q.it t k Q.n).length c1, .slice A2 (usesL prevB Q.n Q.it t k Q.n).length c2, .slice A3 (usesL aggB Q.n Q.it t k Q.n).length c3]) ?_ rfl ?_
      · exact results_cell_row Tryd.results37 _ _ (w.heap.size + 1) 57 _ (0, 0) _ rfl BF.out Tryd.underlying57 rfl (by kernel_rfl)
      · exact ⟨_, _, _, rfl, hbf, Q1.out, Q2.out, Q3.out, x1.heap.size, x2.heap.size, hsz12.1, hsz12.2, LT1.out, LT2.out, LT3.out⟩
theorem uses_any (V : QryV) (Q : Qry) (A : Option Addr) (m c : Nat) (t : Nat → Nod) (w : World) (h : QryRd w w.heap.size V Q) (hwf : QryWf Q) (hT : NodRd w w.heap.size A m t) (hN : ∀ j, j < m → NodWf (t j)) :
    Calls Tryd.prog 37 #[.agg (qryArr V Q), .slice A m c] w fun e w' => ∃ v1 v2 v3, e = .returned (.agg #[v1, v2, v3]) ∧ Below w.heap.size w w' ∧
      w'.ownsRow w.heap.size 3 1 v1 (usesL bareB Q.n Q.it t m Q.n).length ((usesL bareB Q.n Q.it t m Q.n).map natV) ∧ w'.ownsRow w.heap.size 3 1 v2 (usesL prevB Q.n Q.it t m Q.n).length ((usesL prevB Q.n Q.it t m Q.n).map natV) ∧ w'.ownsRow w.heap.size 3 1 v3 (usesL aggB Q.n Q.it t m Q.n).length ((usesL aggB Q.n Q.it t m Q.n).map natV) := by
  refine (uses_apart V Q A m c t w h hwf hT hN).mono fun e w' h => ?_
  obtain ⟨v1, v2, v3, he, hb, p1, p2, p3, _⟩ := h
  exact ⟨v1, v2, v3, he, hb, p1, p2, p3⟩
end Go.Proofs.YtagcbljfaflhoaaDoor

/-
  The walks of sluiceref5.names and sluiceref5.Shaped: what a well shaped query is.
-/
import Derived.Test.YtfcdkadblagijaaDoorShaped
import Derived.Test.YtfcdkadblagijaaDoorRefTree
import Derived.Test.YtfcdkadblagijaaDoorNameRef
set_option linter.unusedSimpArgs false
set_option linter.unusedVariables false
namespace Go.Proofs.YtfcdkadblagijaaDoor
open Go.RowKit Go.ChangeShapes Go.WideShapes Go.ChangeAt Go.Deep Go.Joins
def namesB (n : Nat) (f : Nat → ByteArray) : Bool := allB (fun j => nameB (f j)) n && decide (0 < n)
set_option maxRecDepth 100000 in
theorem names5_any (a : Option Addr) (tn c : Nat) (ty : Nat → ByteArray) (w : World) (h : TxtRd w w.heap.size a tn ty) {tt : TypeId} {fr : Nat × Nat} (hkw : w.heap[2]? = some (.cells kwArr tt fr)) :
    Calls Tryd.prog 49 #[.slice a tn c] w fun e w' => e = .returned (.bool (namesB tn ty)) ∧ Below w.heap.size w w' := by
  have hn : tn * 16 ≤ 140737488351232 := h.1
  have HT := Lib.hid h
  have HK := Lib.hid hkw
  clear h hkw
  go_enter Tryd.func49, Tryd.ntmps49
  go_wp2_with fail
  go_loopw [3] (fun i wr => ∃ k : Nat, k ≤ tn ∧ i = .int .i64 k ∧ Hid (∀ j, j < k → nameB (ty j) = true) ∧ Below w.heap.size w wr) (fun i _ => tn - (intOf i).toNat)
  case atStart => exact ⟨0, Nat.zero_le _, rfl, Lib.hid (yes_zero (p := fun j => nameB (ty j))), Below.refl _ _⟩
  case round =>
    obtain ⟨k, hk, rfl, HN, hb⟩ := hrel
    obtain ⟨W1, e1⟩ : ∃ W1 : World, W1 = wr := ⟨_, rfl⟩
    subst e1
    by_cases hlt : k < tn
    · obtain ⟨b, off, rfl, hbl, hcs⟩ := RowRd.spot1 (HT.out.below hb) (by omega)
      have d1 := hcs k hlt
      clear hcs
      go_wp2_with fail
      refine (refIsName_any (ty k) _ (block_below HK.out hb)).mono ?_
      rintro e w5 ⟨rfl, hw⟩
      have hw := hw.symm
      subst hw
      cases hq : nameB (ty k)
      · have HE := Lib.hid (show namesB tn ty = false by rw [namesB, all_no (p := fun j => nameB (ty j)) hlt hq]; rfl)
        go_wp2_with fail
        go_ret
        exact ⟨by rw [HE.out]; rfl, hb⟩
      · have HQ := Lib.hid (yes_step (p := fun j => nameB (ty j)) HN.out hq)
        go_wp2_with fail
        go_roundw
        case rel => exact ⟨k + 1, by omega, by go_num, HQ, hb⟩
        case measure => simp [intOf]; omega
    · obtain rfl : k = tn := by omega
      have HA := Lib.hid (show namesB k ty = decide (0 < k) by rw [namesB, all_yes HN.out]; rfl)
      by_cases h0 : k = 0
      · subst h0
        go_wp2_with fail
        go_ret
        exact ⟨by rw [HA.out]; rfl, hb⟩
      · have hp : (0 : Int) < (k : Int) := by omega
        go_wp2_with fail
        go_ret
        exact ⟨by rw [HA.out, decide_eq_true (show 0 < k by omega)]; first | rfl | simp, hb⟩
set_option maxRecDepth 100000 in
set_option maxHeartbeats 8000000 in
theorem shaped5_any (V : QryV) (Q : Qry) (w : World) (h : QryRd w w.heap.size V Q) {tt : TypeId} {fr : Nat × Nat} (hkw : w.heap[2]? = some (.cells kwArr tt fr)) :
    Calls Tryd.prog 32 #[.agg (qryArr V Q)] w fun e w' => e = .returned (.bool (shapedB Q)) ∧ Below w.heap.size w w' := by
  obtain ⟨aI, cI, aW, cW, aR, cR⟩ := V
  show Calls _ _ #[.agg #[.slice aI Q.n cI, .int .i64 Q.mode, .int .i64 Q.after, .slice aW Q.wn cW, .int .i64 Q.within, .string Q.by_, .slice aR Q.m cR]] w _
  have hnI := h.rI.small
  have hnW := h.rW.small
  have hnR := h.rR.small
  have hb0 := bnew (Below.refl w.heap.size w) (.cells #[.slice aI Q.n cI, .int .i64 Q.mode, .int .i64 Q.after, .slice aW Q.wn cW, .int .i64 Q.within, .string Q.by_, .slice aR Q.m cR] 34)
  have B0 := Lib.hid (blk_new w #[.slice aI Q.n cI, .int .i64 Q.mode, .int .i64 Q.after, .slice aW Q.wn cW, .int .i64 Q.within, .string Q.by_, .slice aR Q.m cR] 34)
  have HQ := Lib.hid h
  have HK := Lib.hid hkw
  clear h hkw
  go_enter Tryd.func32, Tryd.ntmps32
  go_upto_region 1 with fail
  generalize w.alloc _ = w0 at *
  go_wp2_with fail
  go_loopw [3] (fun i wr => ∃ k : Nat, k ≤ Q.n ∧ i = .int .i64 k ∧ Hid (∀ j, j < k → itemShB (Q.it j) = true) ∧ Below w0.heap.size w0 wr) (fun i _ => Q.n - (intOf i).toNat)
  case atStart => exact ⟨0, Nat.zero_le _, rfl, Lib.hid (yes_zero (p := fun j => itemShB (Q.it j))), Below.refl _ _⟩
  case round =>
    obtain ⟨k, hk, rfl, HN, hb⟩ := hrel
    obtain ⟨W1, e1⟩ : ∃ W1 : World, W1 = wr := ⟨_, rfl⟩
    subst e1
    have hbk := bcall hb0 hb
    have x0 := blk_cell (blk_below B0.out hb) (j := 0) rfl
    by_cases hlt : k < Q.n
    · obtain ⟨b, off, eI, hbl, hcs⟩ := (HQ.out.later hbk).rI.spot (by omega)
      have eI : aI = some ⟨b, off, none⟩ := eI
      subst eI
      obtain ⟨g0, ⟨ta, tc, g1, _, _, hty⟩, g2, g3, g4⟩ := hcs k hlt
      obtain ⟨x, hx⟩ : ∃ x, Q.it k = x := ⟨_, rfl⟩
      rw [hx] at g0 g1 g2 g3 g4 hty
      obtain ⟨ng, tn, ty, vr, lo, hi⟩ := x
      have I4 := Lib.hid (blk_new W1 #[.bool ng, .slice ta tn tc, .string vr, .int .i64 lo, .int .i64 hi] 41)
      have hb4 := bnew (Below.refl W1.heap.size W1) (.cells #[.bool ng, .slice ta tn tc, .string vr, .int .i64 lo, .int .i64 hi] 41)
      have HTY := Lib.hid (RowRd.later hty hb4)
      have HNO := Lib.hid (show itemShB ⟨ng, tn, ty, vr, lo, hi⟩ = false → shapedB Q = false from fun hq => by
        simp only [shapedB, all_no (p := fun j => itemShB (Q.it j)) hlt (by rw [hx]; exact hq), Bool.and_false, Bool.false_and])
      have HYES := Lib.hid (show itemShB ⟨ng, tn, ty, vr, lo, hi⟩ = true → ∀ j, j < k + 1 → itemShB (Q.it j) = true from fun hq => yes_step (p := fun j => itemShB (Q.it j)) HN.out (by rw [hx]; exact hq))
      clear hcs hx hty
      go_upto_region 5 with fail
      generalize W1.alloc _ = w4 at *
      clear g0 g1 g2 g3 g4 x0
      have z1 := blk_cell I4.out (j := 1) rfl
      go_wp2_with fail
      refine (names5_any ta tn tc ty _ HTY.out (block_below HK.out (bcall hbk hb4))).mono ?_
      rintro e w5 ⟨rfl, hb5⟩
      have I5 := Lib.hid (blk_below I4.out hb5)
      have hb5' := bcall hb4 hb5
      cases hq : namesB tn ty
      · have HE := Lib.hid (HNO.out (by
          rw [namesB, Bool.and_eq_false_iff] at hq
          rcases hq with hq | hq
          · simp only [itemShB, hq, Bool.and_false, Bool.false_and]
          · simp only [itemShB, hq, Bool.and_false, Bool.false_and]))
        go_wp2_with fail
        go_ret
        exact ⟨by rw [HE.out]; rfl, bcall hbk hb5'⟩
      · have HNM := Lib.hid (show allB (fun j => nameB (ty j)) tn = true ∧ decide (0 < tn) = true by rw [namesB, Bool.and_eq_true] at hq; exact hq)
        have z2 := blk_cell I5.out (j := 2) rfl
        clear hq
        go_wp2_with fail
        refine (refIsName_any vr _ (block_below HK.out (bcall hbk hb5'))).mono ?_
        rintro e w6 ⟨rfl, hw⟩
        have hw := hw.symm
        subst hw
        have I6 := I5
        have hb6' := hb5'
        clear z1 z2
        cases hv : nameB vr
        · have HE := Lib.hid (HNO.out (by simp only [itemShB, hv, Bool.and_false, Bool.false_and]))
          go_wp2_with fail
          go_ret
          exact ⟨by rw [HE.out]; rfl, bcall hbk hb6'⟩
        · have HV := Lib.hid hv
          have z0 := blk_cell I6.out (j := 0) rfl
          have z3 := blk_cell I6.out (j := 3) rfl
          have z4 := blk_cell I6.out (j := 4) rfl
          clear hv
          by_cases hlo : lo < 0
          · have HE := Lib.hid (HNO.out (by simp only [itemShB, decide_eq_false (show ¬ 0 ≤ lo by omega), Bool.and_false, Bool.false_and]))
            go_wp2_with fail
            go_ret
            exact ⟨by rw [HE.out]; rfl, bcall hbk hb6'⟩
          by_cases hhi : hi < 0
          · have HE := Lib.hid (HNO.out (by simp only [itemShB, decide_eq_false (show ¬ 0 ≤ hi by omega), Bool.and_false, Bool.false_and]))
            go_wp2_with fail
            go_ret
            exact ⟨by rw [HE.out]; rfl, bcall hbk hb6'⟩
          have HSH := Lib.hid (show itemShB ⟨ng, tn, ty, vr, lo, hi⟩ = (!ng || (decide (lo = 1) && decide (hi = 1))) by
            simp only [itemShB, HV.out, HNM.out.1, HNM.out.2, decide_eq_true (show 0 ≤ lo by omega), decide_eq_true (show 0 ≤ hi by omega), Bool.true_and])
          cases ng
          · have HY := Lib.hid (HYES.out (by rw [HSH.out]; rfl))
            go_wp2_with fail
            go_roundw
            case rel => exact ⟨k + 1, by omega, by go_num, HY, bcall hb hb6'⟩
            case measure => simp [intOf]; omega
          · by_cases h1 : lo = 1
            · by_cases h2 : hi = 1
              · have HY := Lib.hid (HYES.out (by rw [HSH.out, decide_eq_true h1, decide_eq_true h2]; rfl))
                subst h1 h2
                go_wp2_with fail
                go_roundw
                case rel => exact ⟨k + 1, by omega, by go_num, HY, bcall hb hb6'⟩
                case measure => simp [intOf]; omega
              · have HE := Lib.hid (HNO.out (by rw [HSH.out, decide_eq_false h2, Bool.and_false]; rfl))
                have h2' : (hi != 1) = true := by rw [bne_iff_ne]; exact h2
                subst h1
                go_wp2_with fail
                go_ret
                exact ⟨by rw [HE.out]; rfl, bcall hbk hb6'⟩
            · have HE := Lib.hid (HNO.out (by rw [HSH.out, decide_eq_false h1, Bool.false_and]; rfl))
              have h1' : (lo != 1) = true := by rw [bne_iff_ne]; exact h1
              go_wp2_with fail
              go_ret
              exact ⟨by rw [HE.out]; rfl, bcall hbk hb6'⟩
    · obtain rfl : k = Q.n := by omega
      have HA := Lib.hid (all_yes HN.out)
      have HR1 := Lib.hid (show shapedB Q = (decide (0 < Q.n) && (decide (0 ≤ Q.mode) && decide (Q.mode ≤ 2)) && (decide (0 ≤ Q.after) && decide (Q.after ≤ 3)) && decide (0 ≤ Q.within) && (decide (Q.wn = 0) || treeB Q.wn Q.wh) && (Q.by_.toList.isEmpty || nameB Q.by_) && allB (fun k => treeB (Q.ln k) (Q.rt k)) Q.m) by
        simp only [shapedB, HA.out, Bool.and_true])
      have B1 := Lib.hid (blk_below B0.out hb)
      clear HN
      go_wp2_with fail
      go_loopw [5] (fun i wr => ∃ k : Nat, k ≤ Q.m ∧ i = .int .i64 k ∧ Hid (∀ j, j < k → treeB (Q.ln j) (Q.rt j) = true) ∧ Below W1.heap.size W1 wr) (fun i _ => Q.m - (intOf i).toNat)
      case atStart => exact ⟨0, Nat.zero_le _, rfl, Lib.hid (yes_zero (p := fun j => treeB (Q.ln j) (Q.rt j))), Below.refl _ _⟩
      case round =>
        obtain ⟨k, hk, rfl, HN, hbr⟩ := hrel
        obtain ⟨W9, e9⟩ : ∃ W9 : World, W9 = wr := ⟨_, rfl⟩
        subst e9
        have hb9 := bcall hbk hbr
        have B9 := Lib.hid (blk_below B1.out hbr)
        have x6 := blk_cell B9.out (j := 6) rfl
        by_cases hlt : k < Q.m
        · obtain ⟨b, off, eR, hbl, hcs⟩ := (HQ.out.later hb9).rR.spot (by omega)
          have eR : aR = some ⟨b, off, none⟩ := eR
          subst eR
          obtain ⟨ta, tc, g0, _, _, hnd⟩ := hcs k hlt
          have HND := Lib.hid hnd
          clear hcs hnd
          go_wp2_with fail
          refine (refTree_any ta (Q.ln k) tc (Q.rt k) _ HND.out (block_below HK.out hb9)).mono ?_
          rintro e w10 ⟨rfl, hb10⟩
          cases hq : treeB (Q.ln k) (Q.rt k)
          · have HE := Lib.hid (show shapedB Q = false by rw [HR1.out, all_no (p := fun k => treeB (Q.ln k) (Q.rt k)) hlt hq, Bool.and_false])
            go_wp2_with fail
            go_ret
            exact ⟨by rw [HE.out]; rfl, bcall hb9 hb10⟩
          · have HQ' := Lib.hid (yes_step (p := fun j => treeB (Q.ln j) (Q.rt j)) HN.out hq)
            go_wp2_with fail
            go_roundw
            case rel => exact ⟨k + 1, by omega, by go_num, HQ', bcall hbr hb10⟩
            case measure => simp [intOf]; omega
        · obtain rfl : k = Q.m := by omega
          have HR2 := Lib.hid (show shapedB Q = (decide (0 < Q.n) && (decide (0 ≤ Q.mode) && decide (Q.mode ≤ 2)) && (decide (0 ≤ Q.after) && decide (Q.after ≤ 3)) && decide (0 ≤ Q.within) && (decide (Q.wn = 0) || treeB Q.wn Q.wh) && (Q.by_.toList.isEmpty || nameB Q.by_)) by
            rw [HR1.out, all_yes HN.out, Bool.and_true])
          clear HN HR1 x6
          obtain ⟨y0, y1, y2, y3, y4, y5, y6⟩ : W9.cell? ⟨w.heap.size, 0, none⟩ = some (.slice aI Q.n cI) ∧ W9.cell? ⟨w.heap.size, 1, none⟩ = some (.int .i64 Q.mode) ∧ W9.cell? ⟨w.heap.size, 2, none⟩ = some (.int .i64 Q.after) ∧ W9.cell? ⟨w.heap.size, 3, none⟩ = some (.slice aW Q.wn cW) ∧ W9.cell? ⟨w.heap.size, 4, none⟩ = some (.int .i64 Q.within) ∧ W9.cell? ⟨w.heap.size, 5, none⟩ = some (.string Q.by_) ∧ W9.cell? ⟨w.heap.size, 6, none⟩ = some (.slice aR Q.m cR) :=
            ⟨blk_cell B9.out rfl, blk_cell B9.out rfl, blk_cell B9.out rfl, blk_cell B9.out rfl, blk_cell B9.out rfl, blk_cell B9.out rfl, blk_cell B9.out rfl⟩
          by_cases c0 : Q.n = 0
          · have hz : ((Q.n : Int) == 0) = true := by rw [beq_iff_eq]; omega
            have HE := Lib.hid (show shapedB Q = false by rw [HR2.out, decide_eq_false (show ¬ (0 < Q.n) by omega)]; rfl)
            go_wp2_with fail
            go_ret
            exact ⟨by rw [HE.out]; rfl, hb9⟩
          have hz : ((Q.n : Int) == 0) = false := by rw [beq_eq_false_iff_ne]; omega
          by_cases c5 : Q.within < 0
          · have HE := Lib.hid (show shapedB Q = false by simp only [HR2.out, decide_eq_false (show ¬ (0 ≤ Q.within) by omega), Bool.and_false, Bool.false_and])
            go_wp2_with fail
            go_ret
            exact ⟨by rw [HE.out]; rfl, hb9⟩
          have HR3 := Lib.hid (show shapedB Q = ((decide (0 ≤ Q.mode) && decide (Q.mode ≤ 2)) && (decide (0 ≤ Q.after) && decide (Q.after ≤ 3)) && (decide (Q.wn = 0) || treeB Q.wn Q.wh) && (Q.by_.toList.isEmpty || nameB Q.by_)) by
            rw [HR2.out, decide_eq_true (show 0 < Q.n by omega), decide_eq_true (show 0 ≤ Q.within by omega), Bool.true_and, Bool.and_true])
          clear HR2
          by_cases cW0 : Q.wn = 0
          · have hz0 : ¬ ((0 : Int) < (Q.wn : Int)) := by omega
            have HR4 := Lib.hid (show shapedB Q = ((decide (0 ≤ Q.mode) && decide (Q.mode ≤ 2)) && (decide (0 ≤ Q.after) && decide (Q.after ≤ 3)) && (Q.by_.toList.isEmpty || nameB Q.by_)) by rw [HR3.out, decide_eq_true cW0]; simp)
            have BW := B9
            have HBW := Lib.hid hb9
            have cI : (Q.wn : Int) = 0 := by omega
            clear HR3
            have y5 := blk_cell (j := 5) BW.out rfl
            cases hby : Q.by_.toList.isEmpty
            · go_wp2_with fail
              refine (refIsName_any Q.by_ _ (block_below HK.out HBW.out)).mono ?_
              rintro e w8 ⟨rfl, hw⟩
              have hw := hw.symm
              subst hw
              cases hnm : nameB Q.by_
              · have HE := Lib.hid (show shapedB Q = false by rw [HR4.out, hby, hnm]; simp)
                go_wp2_with fail
                go_ret
                exact ⟨by rw [HE.out]; rfl, HBW.out⟩
              · have HR5 : shapedB Q = ((decide (0 ≤ Q.mode) && decide (Q.mode ≤ 2)) && (decide (0 ≤ Q.after) && decide (Q.after ≤ 3))) := by rw [HR4.out, hby, hnm]; simp
                have BZ := BW
                have HBZ := Lib.hid (HBW.out)
                clear hby hnm HR4
                obtain ⟨af, haf⟩ : ∃ af, Q.after = af := ⟨_, rfl⟩
                obtain ⟨mo, hmo⟩ : ∃ mo, Q.mode = mo := ⟨_, rfl⟩
                have z2 := blk_cell (j := 2) BZ.out rfl
                have z1 := blk_cell (j := 1) BZ.out rfl
                rw [haf] at z2 HR5
                rw [hmo] at z1 HR5
                have HR6 := Lib.hid HR5
                clear haf hmo y1 y2 HR5
                rcases (by omega : af = 0 ∨ af = 1 ∨ af = 2 ∨ af = 3 ∨ (af ≠ 0 ∧ af ≠ 1 ∧ af ≠ 2 ∧ af ≠ 3)) with ha | ha | ha | ha | ⟨a0, a1, a2, a3⟩
                rotate_right 1
                · have b0 : (af != 0) = true := by rw [bne_iff_ne]; exact a0
                  have b1 : (af != 1) = true := by rw [bne_iff_ne]; exact a1
                  have b2 : (af != 2) = true := by rw [bne_iff_ne]; exact a2
                  have b3 : (af != 3) = true := by rw [bne_iff_ne]; exact a3
                  have HE := Lib.hid (show shapedB Q = false by
                    rw [HR6.out]
                    by_cases h1 : 0 ≤ af
                    · rw [decide_eq_false (show ¬ af ≤ 3 by omega), Bool.and_false, Bool.and_false]
                    · rw [decide_eq_false h1, Bool.false_and, Bool.and_false])
                  go_wp2_with fail
                  go_ret
                  exact ⟨by rw [HE.out]; rfl, HBZ.out⟩
                all_goals
                  subst ha
                  rcases (by omega : mo = 0 ∨ mo = 1 ∨ mo = 2 ∨ (mo ≠ 0 ∧ mo ≠ 1 ∧ mo ≠ 2)) with hm | hm | hm | ⟨m0, m1, m2⟩
                  rotate_right 1
                  · have b0 : (mo == 0) = false := by rw [beq_eq_false_iff_ne]; exact m0
                    have b1 : (mo == 1) = false := by rw [beq_eq_false_iff_ne]; exact m1
                    have b2 : (mo == 2) = false := by rw [beq_eq_false_iff_ne]; exact m2
                    have HE := Lib.hid (show shapedB Q = false by
                      rw [HR6.out]
                      by_cases h1 : 0 ≤ mo
                      · rw [decide_eq_false (show ¬ mo ≤ 2 by omega), Bool.and_false, Bool.false_and]
                      · rw [decide_eq_false h1, Bool.false_and, Bool.false_and])
                    go_wp2_with fail
                    go_ret
                    exact ⟨by rw [HE.out]; rfl, HBZ.out⟩
                  all_goals
                    subst hm
                    have HE := Lib.hid (show shapedB Q = true by rw [HR6.out]; rfl)
                    go_wp2_with fail
                    go_ret
                    exact ⟨by rw [HE.out]; rfl, HBZ.out⟩
            · have HR5 : shapedB Q = ((decide (0 ≤ Q.mode) && decide (Q.mode ≤ 2)) && (decide (0 ≤ Q.after) && decide (Q.after ≤ 3))) := by rw [HR4.out, hby]; simp
              have BZ := BW
              have HBZ := Lib.hid (HBW.out)
              obtain ⟨af, haf⟩ : ∃ af, Q.after = af := ⟨_, rfl⟩
              obtain ⟨mo, hmo⟩ : ∃ mo, Q.mode = mo := ⟨_, rfl⟩
              have z2 := blk_cell (j := 2) BZ.out rfl
              have z1 := blk_cell (j := 1) BZ.out rfl
              rw [haf] at z2 HR5
              rw [hmo] at z1 HR5
              have HR6 := Lib.hid HR5
              clear haf hmo y1 y2 HR5
              rcases (by omega : af = 0 ∨ af = 1 ∨ af = 2 ∨ af = 3 ∨ (af ≠ 0 ∧ af ≠ 1 ∧ af ≠ 2 ∧ af ≠ 3)) with ha | ha | ha | ha | ⟨a0, a1, a2, a3⟩
              rotate_right 1
              · have b0 : (af != 0) = true := by rw [bne_iff_ne]; exact a0
                have b1 : (af != 1) = true := by rw [bne_iff_ne]; exact a1
                have b2 : (af != 2) = true := by rw [bne_iff_ne]; exact a2
                have b3 : (af != 3) = true := by rw [bne_iff_ne]; exact a3
                have HE := Lib.hid (show shapedB Q = false by
                  rw [HR6.out]
                  by_cases h1 : 0 ≤ af
                  · rw [decide_eq_false (show ¬ af ≤ 3 by omega), Bool.and_false, Bool.and_false]
                  · rw [decide_eq_false h1, Bool.false_and, Bool.and_false])
                go_wp2_with fail
                go_ret
                exact ⟨by rw [HE.out]; rfl, HBZ.out⟩
              all_goals
                subst ha
                rcases (by omega : mo = 0 ∨ mo = 1 ∨ mo = 2 ∨ (mo ≠ 0 ∧ mo ≠ 1 ∧ mo ≠ 2)) with hm | hm | hm | ⟨m0, m1, m2⟩
                rotate_right 1
                · have b0 : (mo == 0) = false := by rw [beq_eq_false_iff_ne]; exact m0
                  have b1 : (mo == 1) = false := by rw [beq_eq_false_iff_ne]; exact m1
                  have b2 : (mo == 2) = false := by rw [beq_eq_false_iff_ne]; exact m2
                  have HE := Lib.hid (show shapedB Q = false by
                    rw [HR6.out]
                    by_cases h1 : 0 ≤ mo
                    · rw [decide_eq_false (show ¬ mo ≤ 2 by omega), Bool.and_false, Bool.false_and]
                    · rw [decide_eq_false h1, Bool.false_and, Bool.false_and])
                  go_wp2_with fail
                  go_ret
                  exact ⟨by rw [HE.out]; rfl, HBZ.out⟩
                all_goals
                  subst hm
                  have HE := Lib.hid (show shapedB Q = true by rw [HR6.out]; rfl)
                  go_wp2_with fail
                  go_ret
                  exact ⟨by rw [HE.out]; rfl, HBZ.out⟩
          · have hz0 : (0 : Int) < (Q.wn : Int) := by omega
            go_wp2_with fail
            refine (refTree_any aW Q.wn cW Q.wh _ (HQ.out.later hb9).rW (block_below HK.out hb9)).mono ?_
            rintro e w7 ⟨rfl, hb7⟩
            cases hqt : treeB Q.wn Q.wh
            · have HE := Lib.hid (show shapedB Q = false by rw [HR3.out, hqt, decide_eq_false cW0]; simp)
              go_wp2_with fail
              go_ret
              exact ⟨by rw [HE.out]; rfl, bcall hb9 hb7⟩
            · have HR4 := Lib.hid (show shapedB Q = ((decide (0 ≤ Q.mode) && decide (Q.mode ≤ 2)) && (decide (0 ≤ Q.after) && decide (Q.after ≤ 3)) && (Q.by_.toList.isEmpty || nameB Q.by_)) by rw [HR3.out, hqt]; simp)
              have BW := Lib.hid (blk_below B9.out hb7)
              have HBW := Lib.hid (bcall hb9 hb7)
              clear HR3 hqt
              have y5 := blk_cell (j := 5) BW.out rfl
              cases hby : Q.by_.toList.isEmpty
              · go_wp2_with fail
                refine (refIsName_any Q.by_ _ (block_below HK.out HBW.out)).mono ?_
                rintro e w8 ⟨rfl, hw⟩
                have hw := hw.symm
                subst hw
                cases hnm : nameB Q.by_
                · have HE := Lib.hid (show shapedB Q = false by rw [HR4.out, hby, hnm]; simp)
                  go_wp2_with fail
                  go_ret
                  exact ⟨by rw [HE.out]; rfl, HBW.out⟩
                · have HR5 : shapedB Q = ((decide (0 ≤ Q.mode) && decide (Q.mode ≤ 2)) && (decide (0 ≤ Q.after) && decide (Q.after ≤ 3))) := by rw [HR4.out, hby, hnm]; simp
                  have BZ := BW
                  have HBZ := Lib.hid (HBW.out)
                  clear hby hnm HR4
                  obtain ⟨af, haf⟩ : ∃ af, Q.after = af := ⟨_, rfl⟩
                  obtain ⟨mo, hmo⟩ : ∃ mo, Q.mode = mo := ⟨_, rfl⟩
                  have z2 := blk_cell (j := 2) BZ.out rfl
                  have z1 := blk_cell (j := 1) BZ.out rfl
                  rw [haf] at z2 HR5
                  rw [hmo] at z1 HR5
                  have HR6 := Lib.hid HR5
                  clear haf hmo y1 y2 HR5
                  rcases (by omega : af = 0 ∨ af = 1 ∨ af = 2 ∨ af = 3 ∨ (af ≠ 0 ∧ af ≠ 1 ∧ af ≠ 2 ∧ af ≠ 3)) with ha | ha | ha | ha | ⟨a0, a1, a2, a3⟩
                  rotate_right 1
                  · have b0 : (af != 0) = true := by rw [bne_iff_ne]; exact a0
                    have b1 : (af != 1) = true := by rw [bne_iff_ne]; exact a1
                    have b2 : (af != 2) = true := by rw [bne_iff_ne]; exact a2
                    have b3 : (af != 3) = true := by rw [bne_iff_ne]; exact a3
                    have HE := Lib.hid (show shapedB Q = false by
                      rw [HR6.out]
                      by_cases h1 : 0 ≤ af
                      · rw [decide_eq_false (show ¬ af ≤ 3 by omega), Bool.and_false, Bool.and_false]
                      · rw [decide_eq_false h1, Bool.false_and, Bool.and_false])
                    go_wp2_with fail
                    go_ret
                    exact ⟨by rw [HE.out]; rfl, HBZ.out⟩
                  all_goals
                    subst ha
                    rcases (by omega : mo = 0 ∨ mo = 1 ∨ mo = 2 ∨ (mo ≠ 0 ∧ mo ≠ 1 ∧ mo ≠ 2)) with hm | hm | hm | ⟨m0, m1, m2⟩
                    rotate_right 1
                    · have b0 : (mo == 0) = false := by rw [beq_eq_false_iff_ne]; exact m0
                      have b1 : (mo == 1) = false := by rw [beq_eq_false_iff_ne]; exact m1
                      have b2 : (mo == 2) = false := by rw [beq_eq_false_iff_ne]; exact m2
                      have HE := Lib.hid (show shapedB Q = false by
                        rw [HR6.out]
                        by_cases h1 : 0 ≤ mo
                        · rw [decide_eq_false (show ¬ mo ≤ 2 by omega), Bool.and_false, Bool.false_and]
                        · rw [decide_eq_false h1, Bool.false_and, Bool.false_and])
                      go_wp2_with fail
                      go_ret
                      exact ⟨by rw [HE.out]; rfl, HBZ.out⟩
                    all_goals
                      subst hm
                      have HE := Lib.hid (show shapedB Q = true by rw [HR6.out]; rfl)
                      go_wp2_with fail
                      go_ret
                      exact ⟨by rw [HE.out]; rfl, HBZ.out⟩
              · have HR5 : shapedB Q = ((decide (0 ≤ Q.mode) && decide (Q.mode ≤ 2)) && (decide (0 ≤ Q.after) && decide (Q.after ≤ 3))) := by rw [HR4.out, hby]; simp
                have BZ := BW
                have HBZ := Lib.hid (HBW.out)
                obtain ⟨af, haf⟩ : ∃ af, Q.after = af := ⟨_, rfl⟩
                obtain ⟨mo, hmo⟩ : ∃ mo, Q.mode = mo := ⟨_, rfl⟩
                have z2 := blk_cell (j := 2) BZ.out rfl
                have z1 := blk_cell (j := 1) BZ.out rfl
                rw [haf] at z2 HR5
                rw [hmo] at z1 HR5
                have HR6 := Lib.hid HR5
                clear haf hmo y1 y2 HR5
                rcases (by omega : af = 0 ∨ af = 1 ∨ af = 2 ∨ af = 3 ∨ (af ≠ 0 ∧ af ≠ 1 ∧ af ≠ 2 ∧ af ≠ 3)) with ha | ha | ha | ha | ⟨a0, a1, a2, a3⟩
                rotate_right 1
                · have b0 : (af != 0) = true := by rw [bne_iff_ne]; exact a0
                  have b1 : (af != 1) = true := by rw [bne_iff_ne]; exact a1
                  have b2 : (af != 2) = true := by rw [bne_iff_ne]; exact a2
                  have b3 : (af != 3) = true := by rw [bne_iff_ne]; exact a3
                  have HE := Lib.hid (show shapedB Q = false by
                    rw [HR6.out]
                    by_cases h1 : 0 ≤ af
                    · rw [decide_eq_false (show ¬ af ≤ 3 by omega), Bool.and_false, Bool.and_false]
                    · rw [decide_eq_false h1, Bool.false_and, Bool.and_false])
                  go_wp2_with fail
                  go_ret
                  exact ⟨by rw [HE.out]; rfl, HBZ.out⟩
                all_goals
                  subst ha
                  rcases (by omega : mo = 0 ∨ mo = 1 ∨ mo = 2 ∨ (mo ≠ 0 ∧ mo ≠ 1 ∧ mo ≠ 2)) with hm | hm | hm | ⟨m0, m1, m2⟩
                  rotate_right 1
                  · have b0 : (mo == 0) = false := by rw [beq_eq_false_iff_ne]; exact m0
                    have b1 : (mo == 1) = false := by rw [beq_eq_false_iff_ne]; exact m1
                    have b2 : (mo == 2) = false := by rw [beq_eq_false_iff_ne]; exact m2
                    have HE := Lib.hid (show shapedB Q = false by
                      rw [HR6.out]
                      by_cases h1 : 0 ≤ mo
                      · rw [decide_eq_false (show ¬ mo ≤ 2 by omega), Bool.and_false, Bool.false_and]
                      · rw [decide_eq_false h1, Bool.false_and, Bool.false_and])
                    go_wp2_with fail
                    go_ret
                    exact ⟨by rw [HE.out]; rfl, HBZ.out⟩
                  all_goals
                    subst hm
                    have HE := Lib.hid (show shapedB Q = true by rw [HR6.out]; rfl)
                    go_wp2_with fail
                    go_ret
                    exact ⟨by rw [HE.out]; rfl, HBZ.out⟩
end Go.Proofs.YtfcdkadblagijaaDoor

/-
  What a well shaped query is; the walks of show.shapedItem, show.Shaped.
-/
import Derived.Test.YtfcdkadblagijaaDoorShowTree
import Derived.Test.YtfcdkadblagijaaDoorNameWalk
import Derived.Test.YtfcdkadblagijaaDoorQuery
import Derived.Test.YtfcdkadblagijaaDoorBlk
set_option linter.unusedSimpArgs false
set_option linter.unusedVariables false
namespace Go.Proofs.YtfcdkadblagijaaDoor
open Go.RowKit Go.ChangeShapes Go.WideShapes Go.ChangeAt Go.Deep Go.Joins
def allB (p : Nat → Bool) (n : Nat) : Bool := (List.range n).all p
theorem all_no {p : Nat → Bool} {n k : Nat} (hk : k < n) (h : p k = false) : allB p n = false := by
  unfold allB
  rw [List.all_eq_false]
  exact ⟨k, List.mem_range.2 hk, by simp [h]⟩
theorem all_yes {p : Nat → Bool} {n : Nat} (h : ∀ k, k < n → p k = true) : allB p n = true := by
  unfold allB
  rw [List.all_eq_true]
  exact fun k hk => h k (List.mem_range.1 hk)
theorem of_all {p : Nat → Bool} {n : Nat} (h : allB p n = true) {k : Nat} (hk : k < n) : p k = true := by
  unfold allB at h
  rw [List.all_eq_true] at h
  exact h k (List.mem_range.2 hk)
theorem yes_zero {p : Nat → Bool} : ∀ j, j < 0 → p j = true := fun _ h => absurd h (Nat.not_lt_zero _)
theorem yes_step {p : Nat → Bool} {k : Nat} (h : ∀ j, j < k → p j = true) (hp : p k = true) : ∀ j, j < k + 1 → p j = true := by
  intro j hj
  by_cases e : j = k
  · rw [e]; exact hp
  · exact h j (by omega)
/-- An item's shape. -/
def itemShB (x : Itm) : Bool := decide (0 < x.tn) && nameB x.vr && decide (0 ≤ x.lo) && decide (0 ≤ x.hi) && allB (fun j => nameB (x.ty j)) x.tn && (!x.neg || (decide (x.lo = 1) && decide (x.hi = 1)))
/-- A query's shape. -/
def shapedB (Q : Qry) : Bool := decide (0 < Q.n) && (decide (0 ≤ Q.mode) && decide (Q.mode ≤ 2)) && (decide (0 ≤ Q.after) && decide (Q.after ≤ 3)) && decide (0 ≤ Q.within) && allB (fun i => itemShB (Q.it i)) Q.n && (decide (Q.wn = 0) || treeB Q.wn Q.wh) && (Q.by_.toList.isEmpty || nameB Q.by_) && allB (fun k => treeB (Q.ln k) (Q.rt k)) Q.m
def itmArr (x : Itm) (v : Value) : Array Value := #[.bool x.neg, v, .string x.vr, .int .i64 x.lo, .int .i64 x.hi]
set_option maxRecDepth 100000 in
set_option maxHeartbeats 2000000 in
theorem shapedItem_any (x : Itm) (a : Option Addr) (c : Nat) (w : World) (h : TxtRd w w.heap.size a x.tn x.ty) {tt : TypeId} {fr : Nat × Nat} (hkw : w.heap[2]? = some (.cells kwArr tt fr)) :
    Calls Tryd.prog 48 #[.agg (itmArr x (.slice a x.tn c))] w fun e w' => e = .returned (.bool (itemShB x)) ∧ Below w.heap.size w w' := by
  obtain ⟨ng, tn, ty, vr, lo, hi⟩ := x
  show Calls _ _ #[.agg #[.bool ng, .slice a tn c, .string vr, .int .i64 lo, .int .i64 hi]] w _
  have hn : tn * 16 ≤ 140737488351232 := h.1
  have hb0 := bnew (Below.refl w.heap.size w) (.cells #[.bool ng, .slice a tn c, .string vr, .int .i64 lo, .int .i64 hi] 41)
  have I0 := Lib.hid (blk_new w #[.bool ng, .slice a tn c, .string vr, .int .i64 lo, .int .i64 hi] 41)
  have HT := Lib.hid h
  have HK := Lib.hid hkw
  clear h hkw
  by_cases h0 : tn = 0
  · subst h0
    have HE := Lib.hid (show itemShB ⟨ng, 0, ty, vr, lo, hi⟩ = false by simp [itemShB])
    go_enter Tryd.func48, Tryd.ntmps48
    go_wp2_with fail
    go_ret
    exact ⟨by rw [HE.out]; rfl, hb0⟩
  · have hz : ((tn : Int) == 0) = false := by rw [beq_eq_false_iff_ne]; omega
    go_enter Tryd.func48, Tryd.ntmps48
    go_wp2_with fail
    generalize w.alloc _ = w0 at *
    refine (isName_any vr _ (block_below HK.out hb0)).mono ?_
    rintro e w1 ⟨rfl, hb1⟩
    have hb1' := bcall hb0 hb1
    have I1 := Lib.hid (blk_below I0.out hb1)
    cases hv : nameB vr
    · have HE := Lib.hid (show itemShB ⟨ng, tn, ty, vr, lo, hi⟩ = false by simp [itemShB, hv])
      go_wp2_with fail
      go_ret
      exact ⟨by rw [HE.out]; rfl, hb1'⟩
    · have t1 := blk_cell I1.out (j := 1) rfl
      have t3 := blk_cell I1.out (j := 3) rfl
      have t4 := blk_cell I1.out (j := 4) rfl
      by_cases hlo : lo < 0
      · have HE := Lib.hid (show itemShB ⟨ng, tn, ty, vr, lo, hi⟩ = false by simp only [itemShB, decide_eq_false (show ¬ 0 ≤ lo by omega), Bool.and_false, Bool.false_and])
        go_wp2_with fail
        go_ret
        exact ⟨by rw [HE.out]; rfl, hb1'⟩
      · by_cases hhi : hi < 0
        · have HE := Lib.hid (show itemShB ⟨ng, tn, ty, vr, lo, hi⟩ = false by simp only [itemShB, decide_eq_false (show ¬ 0 ≤ hi by omega), Bool.and_false, Bool.false_and])
          go_wp2_with fail
          go_ret
          exact ⟨by rw [HE.out]; rfl, hb1'⟩
        · have HV := Lib.hid hv
          clear hv
          go_wp2_with fail
          go_loopw [28] (fun i wr => ∃ k : Nat, k ≤ tn ∧ i = .int .i64 k ∧ Hid (∀ j, j < k → nameB (ty j) = true) ∧ Below w1.heap.size w1 wr) (fun i _ => tn - (intOf i).toNat)
          case atStart => exact ⟨0, Nat.zero_le _, rfl, Lib.hid (yes_zero (p := fun j => nameB (ty j))), Below.refl _ _⟩
          case round =>
            obtain ⟨k, hk, rfl, HN, hb⟩ := hrel
            obtain ⟨W1, e1⟩ : ∃ W1 : World, W1 = wr := ⟨_, rfl⟩
            subst e1
            have hbk := bcall hb1' hb
            by_cases hlt : k < tn
            · obtain ⟨b, off, rfl, hbl, hcs⟩ := RowRd.spot1 (HT.out.below hbk) (by omega)
              have d1 := hcs k hlt
              clear hcs
              go_wp2_with fail
              refine (isName_any (ty k) _ (block_below HK.out hbk)).mono ?_
              rintro e w5 ⟨rfl, hb5⟩
              cases hq : nameB (ty k)
              · have HE := Lib.hid (show itemShB ⟨ng, tn, ty, vr, lo, hi⟩ = false by simp [itemShB, all_no (p := fun j => nameB (ty j)) hlt hq])
                go_wp2_with fail
                go_ret
                exact ⟨by rw [HE.out]; rfl, bcall hbk hb5⟩
              · have HQ := Lib.hid (yes_step (p := fun j => nameB (ty j)) HN.out hq)
                go_wp2_with fail
                go_roundw
                case rel => exact ⟨k + 1, by omega, by go_num, HQ, bcall hb hb5⟩
                case measure => simp [intOf]; omega
            · obtain rfl : k = tn := by omega
              have HA := Lib.hid (all_yes HN.out)
              have I2 := Lib.hid (blk_below I1.out hb)
              have s0 := blk_cell I2.out (j := 0) rfl
              have s3 := blk_cell I2.out (j := 3) rfl
              have s4 := blk_cell I2.out (j := 4) rfl
              have hE : itemShB ⟨ng, k, ty, vr, lo, hi⟩ = (!ng || (decide (lo = 1) && decide (hi = 1))) := by
                simp only [itemShB, HV.out, HA.out]
                simp
                omega
              have HE := Lib.hid hE
              clear hE
              cases ng
              · go_wp2_with fail
                go_ret
                exact ⟨by rw [HE.out]; rfl, hbk⟩
              · by_cases h1 : lo = 1
                · subst h1
                  by_cases h2 : hi = 1
                  · subst h2
                    go_wp2_with fail
                    go_ret
                    exact ⟨by rw [HE.out]; rfl, hbk⟩
                  · have h2' : (hi == 1) = false := by rw [beq_eq_false_iff_ne]; exact h2
                    go_wp2_with fail
                    go_ret
                    exact ⟨by rw [HE.out]; simp [h2], hbk⟩
                · have h1' : (lo == 1) = false := by rw [beq_eq_false_iff_ne]; exact h1
                  go_wp2_with fail
                  go_ret
                  exact ⟨by rw [HE.out]; simp [h1], hbk⟩
set_option maxRecDepth 100000 in
set_option maxHeartbeats 4000000 in
theorem showShaped_any (V : QryV) (Q : Qry) (w : World) (h : QryRd w w.heap.size V Q) {tt : TypeId} {fr : Nat × Nat} (hkw : w.heap[2]? = some (.cells kwArr tt fr)) :
    Calls Tryd.prog 24 #[.agg (qryArr V Q)] w fun e w' => e = .returned (.bool (shapedB Q)) ∧ Below w.heap.size w w' := by
  obtain ⟨aI, cI, aW, cW, aR, cR⟩ := V
  show Calls _ _ #[.agg #[.slice aI Q.n cI, .int .i64 Q.mode, .int .i64 Q.after, .slice aW Q.wn cW, .int .i64 Q.within, .string Q.by_, .slice aR Q.m cR]] w _
  have hnI := h.rI.small
  have hnW := h.rW.small
  have hnR := h.rR.small
  have hb0 := bnew (Below.refl w.heap.size w) (.cells #[.slice aI Q.n cI, .int .i64 Q.mode, .int .i64 Q.after, .slice aW Q.wn cW, .int .i64 Q.within, .string Q.by_, .slice aR Q.m cR] 34)
  have B0 := Lib.hid (blk_new w #[.slice aI Q.n cI, .int .i64 Q.mode, .int .i64 Q.after, .slice aW Q.wn cW, .int .i64 Q.within, .string Q.by_, .slice aR Q.m cR] 34)
  have HQ := Lib.hid h
  have HK := Lib.hid hkw
  clear h hkw
  go_enter Tryd.func24, Tryd.ntmps24
  go_upto_region 1 with fail
  generalize w.alloc _ = w0 at *
  have x0 := blk_cell B0.out (j := 0) rfl
  have x1 := blk_cell B0.out (j := 1) rfl
  have x2 := blk_cell B0.out (j := 2) rfl
  have x4 := blk_cell B0.out (j := 4) rfl
  by_cases c0 : Q.n = 0
  · have hz : ((Q.n : Int) == 0) = true := by rw [beq_iff_eq]; omega
    have HE := Lib.hid (show shapedB Q = false by simp only [shapedB, decide_eq_false (show ¬ (0 < Q.n) by omega), Bool.and_false, Bool.false_and])
    go_wp2_with fail
    go_ret
    exact ⟨by rw [HE.out]; rfl, hb0⟩
  · have hz : ((Q.n : Int) == 0) = false := by rw [beq_eq_false_iff_ne]; omega
    by_cases c1 : Q.mode < 0
    · have HE := Lib.hid (show shapedB Q = false by simp only [shapedB, decide_eq_false (show ¬ (0 ≤ Q.mode) by omega), Bool.and_false, Bool.false_and])
      go_wp2_with fail
      go_ret
      exact ⟨by rw [HE.out]; rfl, hb0⟩
    by_cases c2 : 2 < Q.mode
    · have HE := Lib.hid (show shapedB Q = false by simp only [shapedB, decide_eq_false (show ¬ (Q.mode ≤ 2) by omega), Bool.and_false, Bool.false_and])
      go_wp2_with fail
      go_ret
      exact ⟨by rw [HE.out]; rfl, hb0⟩
    by_cases c3 : Q.after < 0
    · have HE := Lib.hid (show shapedB Q = false by simp only [shapedB, decide_eq_false (show ¬ (0 ≤ Q.after) by omega), Bool.and_false, Bool.false_and])
      go_wp2_with fail
      go_ret
      exact ⟨by rw [HE.out]; rfl, hb0⟩
    by_cases c4 : 3 < Q.after
    · have HE := Lib.hid (show shapedB Q = false by simp only [shapedB, decide_eq_false (show ¬ (Q.after ≤ 3) by omega), Bool.and_false, Bool.false_and])
      go_wp2_with fail
      go_ret
      exact ⟨by rw [HE.out]; rfl, hb0⟩
    by_cases c5 : Q.within < 0
    · have HE := Lib.hid (show shapedB Q = false by simp only [shapedB, decide_eq_false (show ¬ (0 ≤ Q.within) by omega), Bool.and_false, Bool.false_and])
      go_wp2_with fail
      go_ret
      exact ⟨by rw [HE.out]; rfl, hb0⟩
    go_wp2_with fail
    have HR := Lib.hid (show shapedB Q = (allB (fun i => itemShB (Q.it i)) Q.n && (decide (Q.wn = 0) || treeB Q.wn Q.wh) && (Q.by_.toList.isEmpty || nameB Q.by_) && allB (fun k => treeB (Q.ln k) (Q.rt k)) Q.m) by simp only [shapedB, decide_eq_true (show 0 < Q.n by omega), decide_eq_true (show 0 ≤ Q.mode by omega), decide_eq_true (show Q.mode ≤ 2 by omega), decide_eq_true (show 0 ≤ Q.after by omega), decide_eq_true (show Q.after ≤ 3 by omega), decide_eq_true (show 0 ≤ Q.within by omega), Bool.true_and])
    clear x1 x2 x4 c0 c1 c2 c3 c4 c5 hz
    go_loopw [39] (fun i wr => ∃ k : Nat, k ≤ Q.n ∧ i = .int .i64 k ∧ Hid (∀ j, j < k → itemShB (Q.it j) = true) ∧ Below w0.heap.size w0 wr) (fun i _ => Q.n - (intOf i).toNat)
    case atStart => exact ⟨0, Nat.zero_le _, rfl, Lib.hid (yes_zero (p := fun j => itemShB (Q.it j))), Below.refl _ _⟩
    case round =>
      obtain ⟨k, hk, rfl, HN, hb⟩ := hrel
      obtain ⟨W1, e1⟩ : ∃ W1 : World, W1 = wr := ⟨_, rfl⟩
      subst e1
      have hbk := bcall hb0 hb
      have HQ1 := Lib.hid (HQ.out.later hbk)
      by_cases hlt : k < Q.n
      · obtain ⟨b, off, eI, hbl, hcs⟩ := HQ1.out.rI.spot (by omega)
        have eI : aI = some ⟨b, off, none⟩ := eI
        subst eI
        obtain ⟨g0, ⟨ta, tc, g1, _, _, hty⟩, g2, g3, g4⟩ := hcs k hlt
        obtain ⟨x, hx⟩ : ∃ x, Q.it k = x := ⟨_, rfl⟩
        rw [hx] at g0 g1 g2 g3 g4 hty
        obtain ⟨ng, tn, ty, vr, lo, hi⟩ := x
        have I4 := Lib.hid (blk_new W1 (itmArr ⟨ng, tn, ty, vr, lo, hi⟩ (.slice ta tn tc)) 41)
        have hb4 := bnew (Below.refl W1.heap.size W1) (.cells (itmArr ⟨ng, tn, ty, vr, lo, hi⟩ (.slice ta tn tc)) 41)
        unfold itmArr at I4 hb4
        have HTY := Lib.hid (RowRd.later hty hb4)
        have HX := Lib.hid hx
        have hz4 : W1.heap.size < (W1.alloc (.cells #[.bool ng, .slice ta tn tc, .string vr, .int .i64 lo, .int .i64 hi] 41)).heap.size := by simp
        clear hcs hx hty
        go_upto_region 6 with fail
        generalize W1.alloc _ = w4 at *
        clear g0 g1 g2 g3 g4
        go_wp2_with (refine wpList_load_row rfl 41 _ rfl W1.heap.size rfl 41 _ (0, 0) _ I4.out Tryd.underlying41 rfl (by kernel_rfl) ?_)
        refine (shapedItem_any ⟨ng, tn, ty, vr, lo, hi⟩ ta tc _ HTY.out (block_below HK.out (bcall hbk hb4))).mono ?_
        rintro e w5 ⟨rfl, hb5⟩
        have hb5' := bcall hb4 hb5
        cases hq : itemShB ⟨ng, tn, ty, vr, lo, hi⟩
        · have HE := Lib.hid (show shapedB Q = false by rw [HR.out, all_no (p := fun j => itemShB (Q.it j)) hlt (by rw [HX.out]; exact hq)]; rfl)
          go_wp2_with fail
          go_ret
          exact ⟨by rw [HE.out]; rfl, bcall hbk hb5'⟩
        · have HQ' := Lib.hid (yes_step (p := fun j => itemShB (Q.it j)) HN.out (by rw [HX.out]; exact hq))
          go_wp2_with fail
          go_roundw
          case rel => exact ⟨k + 1, by omega, by go_num, HQ', bcall hb hb5'⟩
          case measure => simp [intOf]; omega
      · obtain rfl : k = Q.n := by omega
        have HA := Lib.hid (all_yes HN.out)
        have B1 := Lib.hid (blk_below B0.out hb)
        have y3 := blk_cell B1.out (j := 3) rfl
        have y5 := blk_cell B1.out (j := 5) rfl
        have y6 := blk_cell B1.out (j := 6) rfl
        have HR2 := Lib.hid (show shapedB Q = ((decide (Q.wn = 0) || treeB Q.wn Q.wh) && (Q.by_.toList.isEmpty || nameB Q.by_) && allB (fun k => treeB (Q.ln k) (Q.rt k)) Q.m) by rw [HR.out, HA.out]; rfl)
        clear HR HN
        by_cases cW0 : Q.wn = 0
        · have hz : ¬ ((0 : Int) < (Q.wn : Int)) := by omega
          have HR3 := Lib.hid (show shapedB Q = ((Q.by_.toList.isEmpty || nameB Q.by_) && allB (fun k => treeB (Q.ln k) (Q.rt k)) Q.m) by rw [HR2.out, decide_eq_true cW0]; rfl)
          have HB7 := Lib.hid hbk
          have HBV := Below.refl W1.heap.size W1
          have cI : (Q.wn : Int) = 0 := by omega
          clear HR2
          have B7 := Lib.hid (blk_below B1.out HBV)
          have y5b := blk_cell B7.out (j := 5) rfl
          cases hby : Q.by_.toList.isEmpty
          · go_wp2_with fail
            refine (isName_any Q.by_ _ (block_below HK.out HB7.out)).mono ?_
            rintro e w8 ⟨rfl, hb8⟩
            cases hnm : nameB Q.by_
            · have HE := Lib.hid (show shapedB Q = false by rw [HR3.out, hby, hnm]; rfl)
              go_wp2_with fail
              go_ret
              exact ⟨by rw [HE.out]; rfl, bcall HB7.out hb8⟩
            · have HBY := Lib.hid (show (Q.by_.toList.isEmpty || nameB Q.by_) = true by rw [hby, hnm]; rfl)
              have HB8 := Lib.hid (bcall HB7.out hb8)
              have HBW := bcall HBV hb8
              obtain ⟨W8, e8⟩ : ∃ W8 : World, W8 = w8 := ⟨_, rfl⟩
              subst e8
              clear hby hnm
              have B8 := Lib.hid (blk_below B1.out HBW)
              have HR4 := Lib.hid (show shapedB Q = allB (fun k => treeB (Q.ln k) (Q.rt k)) Q.m by rw [HR3.out]; simp only [HBY.out, Bool.true_or, Bool.or_true, Bool.true_and])
              have z6 := blk_cell B8.out (j := 6) rfl
              go_wp2_with fail
              go_loopw [71] (fun i wr => ∃ k : Nat, k ≤ Q.m ∧ i = .int .i64 k ∧ Hid (∀ j, j < k → treeB (Q.ln j) (Q.rt j) = true) ∧ Below W8.heap.size W8 wr) (fun i _ => Q.m - (intOf i).toNat)
              case atStart => exact ⟨0, Nat.zero_le _, rfl, Lib.hid (yes_zero (p := fun j => treeB (Q.ln j) (Q.rt j))), Below.refl _ _⟩
              case round =>
                obtain ⟨k, hk, rfl, HN, hbr⟩ := hrel
                obtain ⟨W9, e9⟩ : ∃ W9 : World, W9 = wr := ⟨_, rfl⟩
                subst e9
                have hb9 := bcall HB8.out hbr
                by_cases hlt : k < Q.m
                · obtain ⟨b, off, eR, hbl, hcs⟩ := (HQ.out.later hb9).rR.spot (by omega)
                  have eR : aR = some ⟨b, off, none⟩ := eR
                  subst eR
                  obtain ⟨ta, tc, g0, _, _, hnd⟩ := hcs k hlt
                  have HND := Lib.hid hnd
                  clear hcs hnd
                  go_wp2_with fail
                  refine (showTree_any ta (Q.ln k) tc (Q.rt k) _ HND.out (block_below HK.out hb9)).mono ?_
                  rintro e w10 ⟨rfl, hb10⟩
                  cases hq : treeB (Q.ln k) (Q.rt k)
                  · have HE := Lib.hid (show shapedB Q = false by rw [HR4.out, all_no (p := fun k => treeB (Q.ln k) (Q.rt k)) hlt hq])
                    go_wp2_with fail
                    go_ret
                    exact ⟨by rw [HE.out]; rfl, bcall hb9 hb10⟩
                  · have HQ' := Lib.hid (yes_step (p := fun j => treeB (Q.ln j) (Q.rt j)) HN.out hq)
                    go_wp2_with fail
                    go_roundw
                    case rel => exact ⟨k + 1, by omega, by go_num, HQ', bcall hbr hb10⟩
                    case measure => simp [intOf]; omega
                · obtain rfl : k = Q.m := by omega
                  have HE := Lib.hid (show shapedB Q = true by rw [HR4.out]; exact all_yes HN.out)
                  go_wp2_with fail
                  go_ret
                  exact ⟨by rw [HE.out]; rfl, hb9⟩
          · have HBY := Lib.hid (show (Q.by_.toList.isEmpty || nameB Q.by_) = true by rw [hby]; rfl)
            have HB8 := HB7
            have HBW := HBV
            obtain ⟨W8, e8⟩ : ∃ W8 : World, W8 = W1 := ⟨_, rfl⟩
            subst e8
            have B8 := Lib.hid (blk_below B1.out HBW)
            have HR4 := Lib.hid (show shapedB Q = allB (fun k => treeB (Q.ln k) (Q.rt k)) Q.m by rw [HR3.out]; simp only [HBY.out, Bool.true_or, Bool.or_true, Bool.true_and])
            have z6 := blk_cell B8.out (j := 6) rfl
            go_wp2_with fail
            go_loopw [71] (fun i wr => ∃ k : Nat, k ≤ Q.m ∧ i = .int .i64 k ∧ Hid (∀ j, j < k → treeB (Q.ln j) (Q.rt j) = true) ∧ Below W8.heap.size W8 wr) (fun i _ => Q.m - (intOf i).toNat)
            case atStart => exact ⟨0, Nat.zero_le _, rfl, Lib.hid (yes_zero (p := fun j => treeB (Q.ln j) (Q.rt j))), Below.refl _ _⟩
            case round =>
              obtain ⟨k, hk, rfl, HN, hbr⟩ := hrel
              obtain ⟨W9, e9⟩ : ∃ W9 : World, W9 = wr := ⟨_, rfl⟩
              subst e9
              have hb9 := bcall HB8.out hbr
              by_cases hlt : k < Q.m
              · obtain ⟨b, off, eR, hbl, hcs⟩ := (HQ.out.later hb9).rR.spot (by omega)
                have eR : aR = some ⟨b, off, none⟩ := eR
                subst eR
                obtain ⟨ta, tc, g0, _, _, hnd⟩ := hcs k hlt
                have HND := Lib.hid hnd
                clear hcs hnd
                go_wp2_with fail
                refine (showTree_any ta (Q.ln k) tc (Q.rt k) _ HND.out (block_below HK.out hb9)).mono ?_
                rintro e w10 ⟨rfl, hb10⟩
                cases hq : treeB (Q.ln k) (Q.rt k)
                · have HE := Lib.hid (show shapedB Q = false by rw [HR4.out, all_no (p := fun k => treeB (Q.ln k) (Q.rt k)) hlt hq])
                  go_wp2_with fail
                  go_ret
                  exact ⟨by rw [HE.out]; rfl, bcall hb9 hb10⟩
                · have HQ' := Lib.hid (yes_step (p := fun j => treeB (Q.ln j) (Q.rt j)) HN.out hq)
                  go_wp2_with fail
                  go_roundw
                  case rel => exact ⟨k + 1, by omega, by go_num, HQ', bcall hbr hb10⟩
                  case measure => simp [intOf]; omega
              · obtain rfl : k = Q.m := by omega
                have HE := Lib.hid (show shapedB Q = true by rw [HR4.out]; exact all_yes HN.out)
                go_wp2_with fail
                go_ret
                exact ⟨by rw [HE.out]; rfl, hb9⟩
        · have hz : (0 : Int) < (Q.wn : Int) := by omega
          go_wp2_with fail
          refine (showTree_any aW Q.wn cW Q.wh _ HQ1.out.rW (block_below HK.out hbk)).mono ?_
          rintro e w7 ⟨rfl, hb7⟩
          cases hqt : treeB Q.wn Q.wh
          · have HE := Lib.hid (show shapedB Q = false by rw [HR2.out, hqt, decide_eq_false cW0]; rfl)
            go_wp2_with fail
            go_ret
            exact ⟨by rw [HE.out]; rfl, bcall hbk hb7⟩
          · have HR3 := Lib.hid (show shapedB Q = ((Q.by_.toList.isEmpty || nameB Q.by_) && allB (fun k => treeB (Q.ln k) (Q.rt k)) Q.m) by rw [HR2.out, hqt]; simp only [Bool.or_true, Bool.true_and])
            have HB7 := Lib.hid (bcall hbk hb7)
            have HBV := hb7
            clear HR2 hqt
            have B7 := Lib.hid (blk_below B1.out HBV)
            have y5b := blk_cell B7.out (j := 5) rfl
            cases hby : Q.by_.toList.isEmpty
            · go_wp2_with fail
              refine (isName_any Q.by_ _ (block_below HK.out HB7.out)).mono ?_
              rintro e w8 ⟨rfl, hb8⟩
              cases hnm : nameB Q.by_
              · have HE := Lib.hid (show shapedB Q = false by rw [HR3.out, hby, hnm]; rfl)
                go_wp2_with fail
                go_ret
                exact ⟨by rw [HE.out]; rfl, bcall HB7.out hb8⟩
              · have HBY := Lib.hid (show (Q.by_.toList.isEmpty || nameB Q.by_) = true by rw [hby, hnm]; rfl)
                have HB8 := Lib.hid (bcall HB7.out hb8)
                have HBW := bcall HBV hb8
                obtain ⟨W8, e8⟩ : ∃ W8 : World, W8 = w8 := ⟨_, rfl⟩
                subst e8
                clear hby hnm
                have B8 := Lib.hid (blk_below B1.out HBW)
                have HR4 := Lib.hid (show shapedB Q = allB (fun k => treeB (Q.ln k) (Q.rt k)) Q.m by rw [HR3.out]; simp only [HBY.out, Bool.true_or, Bool.or_true, Bool.true_and])
                have z6 := blk_cell B8.out (j := 6) rfl
                go_wp2_with fail
                go_loopw [71] (fun i wr => ∃ k : Nat, k ≤ Q.m ∧ i = .int .i64 k ∧ Hid (∀ j, j < k → treeB (Q.ln j) (Q.rt j) = true) ∧ Below W8.heap.size W8 wr) (fun i _ => Q.m - (intOf i).toNat)
                case atStart => exact ⟨0, Nat.zero_le _, rfl, Lib.hid (yes_zero (p := fun j => treeB (Q.ln j) (Q.rt j))), Below.refl _ _⟩
                case round =>
                  obtain ⟨k, hk, rfl, HN, hbr⟩ := hrel
                  obtain ⟨W9, e9⟩ : ∃ W9 : World, W9 = wr := ⟨_, rfl⟩
                  subst e9
                  have hb9 := bcall HB8.out hbr
                  by_cases hlt : k < Q.m
                  · obtain ⟨b, off, eR, hbl, hcs⟩ := (HQ.out.later hb9).rR.spot (by omega)
                    have eR : aR = some ⟨b, off, none⟩ := eR
                    subst eR
                    obtain ⟨ta, tc, g0, _, _, hnd⟩ := hcs k hlt
                    have HND := Lib.hid hnd
                    clear hcs hnd
                    go_wp2_with fail
                    refine (showTree_any ta (Q.ln k) tc (Q.rt k) _ HND.out (block_below HK.out hb9)).mono ?_
                    rintro e w10 ⟨rfl, hb10⟩
                    cases hq : treeB (Q.ln k) (Q.rt k)
                    · have HE := Lib.hid (show shapedB Q = false by rw [HR4.out, all_no (p := fun k => treeB (Q.ln k) (Q.rt k)) hlt hq])
                      go_wp2_with fail
                      go_ret
                      exact ⟨by rw [HE.out]; rfl, bcall hb9 hb10⟩
                    · have HQ' := Lib.hid (yes_step (p := fun j => treeB (Q.ln j) (Q.rt j)) HN.out hq)
                      go_wp2_with fail
                      go_roundw
                      case rel => exact ⟨k + 1, by omega, by go_num, HQ', bcall hbr hb10⟩
                      case measure => simp [intOf]; omega
                  · obtain rfl : k = Q.m := by omega
                    have HE := Lib.hid (show shapedB Q = true by rw [HR4.out]; exact all_yes HN.out)
                    go_wp2_with fail
                    go_ret
                    exact ⟨by rw [HE.out]; rfl, hb9⟩
            · have HBY := Lib.hid (show (Q.by_.toList.isEmpty || nameB Q.by_) = true by rw [hby]; rfl)
              have HB8 := HB7
              have HBW := HBV
              obtain ⟨W8, e8⟩ : ∃ W8 : World, W8 = w7 := ⟨_, rfl⟩
              subst e8
              have B8 := Lib.hid (blk_below B1.out HBW)
              have HR4 := Lib.hid (show shapedB Q = allB (fun k => treeB (Q.ln k) (Q.rt k)) Q.m by rw [HR3.out]; simp only [HBY.out, Bool.true_or, Bool.or_true, Bool.true_and])
              have z6 := blk_cell B8.out (j := 6) rfl
              go_wp2_with fail
              go_loopw [71] (fun i wr => ∃ k : Nat, k ≤ Q.m ∧ i = .int .i64 k ∧ Hid (∀ j, j < k → treeB (Q.ln j) (Q.rt j) = true) ∧ Below W8.heap.size W8 wr) (fun i _ => Q.m - (intOf i).toNat)
              case atStart => exact ⟨0, Nat.zero_le _, rfl, Lib.hid (yes_zero (p := fun j => treeB (Q.ln j) (Q.rt j))), Below.refl _ _⟩
              case round =>
                obtain ⟨k, hk, rfl, HN, hbr⟩ := hrel
                obtain ⟨W9, e9⟩ : ∃ W9 : World, W9 = wr := ⟨_, rfl⟩
                subst e9
                have hb9 := bcall HB8.out hbr
                by_cases hlt : k < Q.m
                · obtain ⟨b, off, eR, hbl, hcs⟩ := (HQ.out.later hb9).rR.spot (by omega)
                  have eR : aR = some ⟨b, off, none⟩ := eR
                  subst eR
                  obtain ⟨ta, tc, g0, _, _, hnd⟩ := hcs k hlt
                  have HND := Lib.hid hnd
                  clear hcs hnd
                  go_wp2_with fail
                  refine (showTree_any ta (Q.ln k) tc (Q.rt k) _ HND.out (block_below HK.out hb9)).mono ?_
                  rintro e w10 ⟨rfl, hb10⟩
                  cases hq : treeB (Q.ln k) (Q.rt k)
                  · have HE := Lib.hid (show shapedB Q = false by rw [HR4.out, all_no (p := fun k => treeB (Q.ln k) (Q.rt k)) hlt hq])
                    go_wp2_with fail
                    go_ret
                    exact ⟨by rw [HE.out]; rfl, bcall hb9 hb10⟩
                  · have HQ' := Lib.hid (yes_step (p := fun j => treeB (Q.ln j) (Q.rt j)) HN.out hq)
                    go_wp2_with fail
                    go_roundw
                    case rel => exact ⟨k + 1, by omega, by go_num, HQ', bcall hbr hb10⟩
                    case measure => simp [intOf]; omega
                · obtain rfl : k = Q.m := by omega
                  have HE := Lib.hid (show shapedB Q = true by rw [HR4.out]; exact all_yes HN.out)
                  go_wp2_with fail
                  go_ret
                  exact ⟨by rw [HE.out]; rfl, hb9⟩
end Go.Proofs.YtfcdkadblagijaaDoor

/-
  Several texts in one: Shaped, SchemaRd, First, SchemaFns.
-/
import Derived.Test.YtagcbljfaflhoaaDoorFlw2
import Derived.Test.YtagcbljfaflhoaaDoorFlw0
import Derived.Deep.Slices
import Derived.Deep.Fields
import Derived.ChangeSame
import Derived.SliceStrings
set_option linter.unusedSimpArgs false
set_option linter.unusedVariables false
/-! ### What a well shaped query is; the walks of show.shapedItem, show.Shaped. -/
namespace Go.Proofs.YtagcbljfaflhoaaDoor
open Go.RowKit Go.ChangeShapes Go.WideShapes Go.ChangeAt Go.Deep Go.Joins
def allB (p : Nat → Bool) (n : Nat) : Bool := (List.range n).all p
theorem all_no {p : Nat → Bool} {n k : Nat} (hk : k < n) (h : p k = false) : allB p n = false := by
  unfold allB
  rw [List.all_eq_false]
  exact ⟨k, List.mem_range.2 hk, by simp [h]⟩
theorem all_yes {p : Nat → Bool} {n : Nat} (h : ∀ k, k < n → p k = true) : allB p n = true := by
  unfold allB
  rw [List.all_eq_true]
  exact fun k hk => h k (List.mem_range.1 hk)
theorem of_all {p : Nat → Bool} {n : Nat} (h : allB p n = true) {k : Nat} (hk : k < n) : p k = true := by
  unfold allB at h
  rw [List.all_eq_true] at h
  exact h k (List.mem_range.2 hk)
theorem yes_zero {p : Nat → Bool} : ∀ j, j < 0 → p j = true := fun _ h => absurd h (Nat.not_lt_zero _)
theorem yes_step {p : Nat → Bool} {k : Nat} (h : ∀ j, j < k → p j = true) (hp : p k = true) : ∀ j, j < k + 1 → p j = true := by
  intro j hj
  by_cases e : j = k
  · rw [e]; exact hp
  · exact h j (by omega)
/-- An item's shape. -/
def itemShB (x : Itm) : Bool := decide (0 < x.tn) && nameB x.vr && decide (0 ≤ x.lo) && decide (0 ≤ x.hi) && allB (fun j => nameB (x.ty j)) x.tn && (!x.neg || (decide (x.lo = 1) && decide (x.hi = 1)))
/-- A query's shape. -/
def shapedB (Q : Qry) : Bool := decide (0 < Q.n) && (decide (0 ≤ Q.mode) && decide (Q.mode ≤ 2)) && (decide (0 ≤ Q.after) && decide (Q.after ≤ 3)) && decide (0 ≤ Q.within) && allB (fun i => itemShB (Q.it i)) Q.n && (decide (Q.wn = 0) || treeB Q.wn Q.wh) && (Q.by_.toList.isEmpty || nameB Q.by_) && allB (fun k => treeB (Q.ln k) (Q.rt k)) Q.m
def itmArr (x : Itm) (v : Value) : Array Value := #[.bool x.neg, v, .string x.vr, .int .i64 x.lo, .int .i64 x.hi]
set_option maxRecDepth 100000 in
set_option maxHeartbeats 2000000 in
theorem shapedItem_any (x : Itm) (a : Option Addr) (c : Nat) (w : World) (h : TxtRd w w.heap.size a x.tn x.ty) {tt : TypeId} {fr : Nat × Nat} (hkw : w.heap[0]? = some (.cells kwArr tt fr)) :
    Calls Tryd.prog 84 #[.agg (itmArr x (.slice a x.tn c))] w fun e w' => e = .returned (.bool (itemShB x)) ∧ Below w.heap.size w w' := by
  obtain ⟨ng, tn, ty, vr, lo, hi⟩ := x
  show Calls _ _ #[.agg #[.bool ng, .slice a tn c, .string vr, .int .i64 lo, .int .i64 hi]] w _
  have hn : tn * 16 ≤ 140737488351232 := h.1
  have hb0 := bnew (Below.refl w.heap.size w) (.cells #[.bool ng, .slice a tn c, .string vr, .int .i64 lo, .int .i64 hi] 80)
  have I0 := Lib.hid (blk_new w #[.bool ng, .slice a tn c, .string vr, .int .i64 lo, .int .i64 hi] 80)
  have HT := Lib.hid h
  have HK := Lib.hid hkw
  clear h hkw
  by_cases h0 : tn = 0
  · subst h0
    have HE := Lib.hid (show itemShB ⟨ng, 0, ty, vr, lo, hi⟩ = false by simp [itemShB])
    go_enter Tryd.func84, Tryd.ntmps84
    go_wp2_with fail
    go_ret
    exact ⟨by rw [HE.out]; rfl, hb0⟩
  · have hz : ((tn : Int) == 0) = false := by rw [beq_eq_false_iff_ne]; omega
    go_enter Tryd.func84, Tryd.ntmps84
    go_wp2_with fail
    generalize w.alloc _ = w0 at *
    refine (isName_any vr _ (block_below HK.out hb0)).mono ?_
    rintro e w1 ⟨rfl, hb1⟩
    have hb1' := bcall hb0 hb1
    have I1 := Lib.hid (blk_below I0.out hb1)
    cases hv : nameB vr
    · have HE := Lib.hid (show itemShB ⟨ng, tn, ty, vr, lo, hi⟩ = false by simp [itemShB, hv])
      go_wp2_with fail
      go_ret
      exact ⟨by rw [HE.out]; rfl, hb1'⟩
    · have t1 := blk_cell I1.out (j := 1) rfl
      have t3 := blk_cell I1.out (j := 3) rfl
      have t4 := blk_cell I1.out (j := 4) rfl
      by_cases hlo : lo < 0
      · have HE := Lib.hid (show itemShB ⟨ng, tn, ty, vr, lo, hi⟩ = false by simp only [itemShB, decide_eq_false (show ¬ 0 ≤ lo by omega), Bool.and_false, Bool.false_and])
        go_wp2_with fail
        go_ret
        exact ⟨by rw [HE.out]; rfl, hb1'⟩
      · by_cases hhi : hi < 0
        · have HE := Lib.hid (show itemShB ⟨ng, tn, ty, vr, lo, hi⟩ = false by simp only [itemShB, decide_eq_false (show ¬ 0 ≤ hi by omega), Bool.and_false, Bool.false_and])
          go_wp2_with fail
          go_ret
          exact ⟨by rw [HE.out]; rfl, hb1'⟩
        · have HV := Lib.hid hv
          clear hv
          go_wp2_with fail
          go_loopw [28] (fun i wr => ∃ k : Nat, k ≤ tn ∧ i = .int .i64 k ∧ Hid (∀ j, j < k → nameB (ty j) = true) ∧ Below w1.heap.size w1 wr) (fun i _ => tn - (intOf i).toNat)
          case atStart => exact ⟨0, Nat.zero_le _, rfl, Lib.hid (yes_zero (p := fun j => nameB (ty j))), Below.refl _ _⟩
          case round =>
            obtain ⟨k, hk, rfl, HN, hb⟩ := hrel
            obtain ⟨W1, e1⟩ : ∃ W1 : World, W1 = wr := ⟨_, rfl⟩
            subst e1
            have hbk := bcall hb1' hb
            by_cases hlt : k < tn
            · obtain ⟨b, off, rfl, hbl, hcs⟩ := RowRd.spot1 (HT.out.below hbk) (by omega)
              have d1 := hcs k hlt
              clear hcs
              go_wp2_with fail
              refine (isName_any (ty k) _ (block_below HK.out hbk)).mono ?_
              rintro e w5 ⟨rfl, hb5⟩
              cases hq : nameB (ty k)
              · have HE := Lib.hid (show itemShB ⟨ng, tn, ty, vr, lo, hi⟩ = false by simp [itemShB, all_no (p := fun j => nameB (ty j)) hlt hq])
                go_wp2_with fail
                go_ret
                exact ⟨by rw [HE.out]; rfl, bcall hbk hb5⟩
              · have HQ := Lib.hid (yes_step (p := fun j => nameB (ty j)) HN.out hq)
                go_wp2_with fail
                go_roundw
                case rel => exact ⟨k + 1, by omega, by go_num, HQ, bcall hb hb5⟩
                case measure => simp [intOf]; omega
            · obtain rfl : k = tn := by omega
              have HA := Lib.hid (all_yes HN.out)
              have I2 := Lib.hid (blk_below I1.out hb)
              have s0 := blk_cell I2.out (j := 0) rfl
              have s3 := blk_cell I2.out (j := 3) rfl
              have s4 := blk_cell I2.out (j := 4) rfl
              have hE : itemShB ⟨ng, k, ty, vr, lo, hi⟩ = (!ng || (decide (lo = 1) && decide (hi = 1))) := by
                simp only [itemShB, HV.out, HA.out]
                simp
                omega
              have HE := Lib.hid hE
              clear hE
              cases ng
              · go_wp2_with fail
                go_ret
                exact ⟨by rw [HE.out]; rfl, hbk⟩
              · by_cases h1 : lo = 1
                · subst h1
                  by_cases h2 : hi = 1
                  · subst h2
                    go_wp2_with fail
                    go_ret
                    exact ⟨by rw [HE.out]; rfl, hbk⟩
                  · have h2' : (hi == 1) = false := by rw [beq_eq_false_iff_ne]; exact h2
                    go_wp2_with fail
                    go_ret
                    exact ⟨by rw [HE.out]; simp [h2], hbk⟩
                · have h1' : (lo == 1) = false := by rw [beq_eq_false_iff_ne]; exact h1
                  go_wp2_with fail
                  go_ret
                  exact ⟨by rw [HE.out]; simp [h1], hbk⟩
set_option maxRecDepth 100000 in
set_option maxHeartbeats 4000000 in
theorem showShaped_any (V : QryV) (Q : Qry) (w : World) (h : QryRd w w.heap.size V Q) {tt : TypeId} {fr : Nat × Nat} (hkw : w.heap[0]? = some (.cells kwArr tt fr)) :
    Calls Tryd.prog 54 #[.agg (qryArr V Q)] w fun e w' => e = .returned (.bool (shapedB Q)) ∧ Below w.heap.size w w' := by
  obtain ⟨aI, cI, aW, cW, aR, cR⟩ := V
  show Calls _ _ #[.agg #[.slice aI Q.n cI, .int .i64 Q.mode, .int .i64 Q.after, .slice aW Q.wn cW, .int .i64 Q.within, .string Q.by_, .slice aR Q.m cR]] w _
  have hnI := h.rI.small
  have hnW := h.rW.small
  have hnR := h.rR.small
  have hb0 := bnew (Below.refl w.heap.size w) (.cells #[.slice aI Q.n cI, .int .i64 Q.mode, .int .i64 Q.after, .slice aW Q.wn cW, .int .i64 Q.within, .string Q.by_, .slice aR Q.m cR] 40)
  have B0 := Lib.hid (blk_new w #[.slice aI Q.n cI, .int .i64 Q.mode, .int .i64 Q.after, .slice aW Q.wn cW, .int .i64 Q.within, .string Q.by_, .slice aR Q.m cR] 40)
  have HQ := Lib.hid h
  have HK := Lib.hid hkw
  clear h hkw
  go_enter Tryd.func54, Tryd.ntmps54
  go_upto_region 1 with fail
  generalize w.alloc _ = w0 at *
  have x0 := blk_cell B0.out (j := 0) rfl
  have x1 := blk_cell B0.out (j := 1) rfl
  have x2 := blk_cell B0.out (j := 2) rfl
  have x4 := blk_cell B0.out (j := 4) rfl
  by_cases c0 : Q.n = 0
  · have hz : ((Q.n : Int) == 0) = true := by rw [beq_iff_eq]; omega
    have HE := Lib.hid (show shapedB Q = false by simp only [shapedB, decide_eq_false (show ¬ (0 < Q.n) by omega), Bool.and_false, Bool.false_and])
    go_wp2_with fail
    go_ret
    exact ⟨by rw [HE.out]; rfl, hb0⟩
  · have hz : ((Q.n : Int) == 0) = false := by rw [beq_eq_false_iff_ne]; omega
    by_cases c1 : Q.mode < 0
    · have HE := Lib.hid (show shapedB Q = false by simp only [shapedB, decide_eq_false (show ¬ (0 ≤ Q.mode) by omega), Bool.and_false, Bool.false_and])
      go_wp2_with fail
      go_ret
      exact ⟨by rw [HE.out]; rfl, hb0⟩
    by_cases c2 : 2 < Q.mode
    · have HE := Lib.hid (show shapedB Q = false by simp only [shapedB, decide_eq_false (show ¬ (Q.mode ≤ 2) by omega), Bool.and_false, Bool.false_and])
      go_wp2_with fail
      go_ret
      exact ⟨by rw [HE.out]; rfl, hb0⟩
    by_cases c3 : Q.after < 0
    · have HE := Lib.hid (show shapedB Q = false by simp only [shapedB, decide_eq_false (show ¬ (0 ≤ Q.after) by omega), Bool.and_false, Bool.false_and])
      go_wp2_with fail
      go_ret
      exact ⟨by rw [HE.out]; rfl, hb0⟩
    by_cases c4 : 3 < Q.after
    · have HE := Lib.hid (show shapedB Q = false by simp only [shapedB, decide_eq_false (show ¬ (Q.after ≤ 3) by omega), Bool.and_false, Bool.false_and])
      go_wp2_with fail
      go_ret
      exact ⟨by rw [HE.out]; rfl, hb0⟩
    by_cases c5 : Q.within < 0
    · have HE := Lib.hid (show shapedB Q = false by simp only [shapedB, decide_eq_false (show ¬ (0 ≤ Q.within) by omega), Bool.and_false, Bool.false_and])
      go_wp2_with fail
      go_ret
      exact ⟨by rw [HE.out]; rfl, hb0⟩
    go_wp2_with fail
    have HR := Lib.hid (show shapedB Q = (allB (fun i => itemShB (Q.it i)) Q.n && (decide (Q.wn = 0) || treeB Q.wn Q.wh) && (Q.by_.toList.isEmpty || nameB Q.by_) && allB (fun k => treeB (Q.ln k) (Q.rt k)) Q.m) by simp only [shapedB, decide_eq_true (show 0 < Q.n by omega), decide_eq_true (show 0 ≤ Q.mode by omega), decide_eq_true (show Q.mode ≤ 2 by omega), decide_eq_true (show 0 ≤ Q.after by omega), decide_eq_true (show Q.after ≤ 3 by omega), decide_eq_true (show 0 ≤ Q.within by omega), Bool.true_and])
    clear x1 x2 x4 c0 c1 c2 c3 c4 c5 hz
    go_loopw [39] (fun i wr => ∃ k : Nat, k ≤ Q.n ∧ i = .int .i64 k ∧ Hid (∀ j, j < k → itemShB (Q.it j) = true) ∧ Below w0.heap.size w0 wr) (fun i _ => Q.n - (intOf i).toNat)
    case atStart => exact ⟨0, Nat.zero_le _, rfl, Lib.hid (yes_zero (p := fun j => itemShB (Q.it j))), Below.refl _ _⟩
    case round =>
      obtain ⟨k, hk, rfl, HN, hb⟩ := hrel
      obtain ⟨W1, e1⟩ : ∃ W1 : World, W1 = wr := ⟨_, rfl⟩
      subst e1
      have hbk := bcall hb0 hb
      have HQ1 := Lib.hid (HQ.out.later hbk)
      by_cases hlt : k < Q.n
      · obtain ⟨b, off, eI, hbl, hcs⟩ := HQ1.out.rI.spot (by omega)
        have eI : aI = some ⟨b, off, none⟩ := eI
        subst eI
        obtain ⟨g0, ⟨ta, tc, g1, _, _, hty⟩, g2, g3, g4⟩ := hcs k hlt
        obtain ⟨x, hx⟩ : ∃ x, Q.it k = x := ⟨_, rfl⟩
        rw [hx] at g0 g1 g2 g3 g4 hty
        obtain ⟨ng, tn, ty, vr, lo, hi⟩ := x
        have I4 := Lib.hid (blk_new W1 (itmArr ⟨ng, tn, ty, vr, lo, hi⟩ (.slice ta tn tc)) 80)
        have hb4 := bnew (Below.refl W1.heap.size W1) (.cells (itmArr ⟨ng, tn, ty, vr, lo, hi⟩ (.slice ta tn tc)) 80)
        unfold itmArr at I4 hb4
        have HTY := Lib.hid (RowRd.later hty hb4)
        have HX := Lib.hid hx
        have hz4 : W1.heap.size < (W1.alloc (.cells #[.bool ng, .slice ta tn tc, .string vr, .int .i64 lo, .int .i64 hi] 80)).heap.size := by simp
        clear hcs hx hty
        go_upto_region 6 with fail
        generalize W1.alloc _ = w4 at *
        clear g0 g1 g2 g3 g4
        go_wp2_with (refine wpList_load_row rfl 80 _ rfl W1.heap.size rfl 80 _ (0, 0) _ I4.out Tryd.underlying80 rfl (by kernel_rfl) ?_)
        refine (shapedItem_any ⟨ng, tn, ty, vr, lo, hi⟩ ta tc _ HTY.out (block_below HK.out (bcall hbk hb4))).mono ?_
        rintro e w5 ⟨rfl, hb5⟩
        have hb5' := bcall hb4 hb5
        cases hq : itemShB ⟨ng, tn, ty, vr, lo, hi⟩
        · have HE := Lib.hid (show shapedB Q = false by rw [HR.out, all_no (p := fun j => itemShB (Q.it j)) hlt (by rw [HX.out]; exact hq)]; rfl)
          go_wp2_with fail
          go_ret
          exact ⟨by rw [HE.out]; rfl, bcall hbk hb5'⟩
        · have HQ' := Lib.hid (yes_step (p := fun j => itemShB (Q.it j)) HN.out (by rw [HX.out]; exact hq))
          go_wp2_with fail
          go_roundw
          case rel => exact ⟨k + 1, by omega, by go_num, HQ', bcall hb hb5'⟩
          case measure => simp [intOf]; omega
      · obtain rfl : k = Q.n := by omega
        have HA := Lib.hid (all_yes HN.out)
        have B1 := Lib.hid (blk_below B0.out hb)
        have y3 := blk_cell B1.out (j := 3) rfl
        have y5 := blk_cell B1.out (j := 5) rfl
        have y6 := blk_cell B1.out (j := 6) rfl
        have HR2 := Lib.hid (show shapedB Q = ((decide (Q.wn = 0) || treeB Q.wn Q.wh) && (Q.by_.toList.isEmpty || nameB Q.by_) && allB (fun k => treeB (Q.ln k) (Q.rt k)) Q.m) by rw [HR.out, HA.out]; rfl)
        clear HR HN
        by_cases cW0 : Q.wn = 0
        · have hz : ¬ ((0 : Int) < (Q.wn : Int)) := by omega
          have HR3 := Lib.hid (show shapedB Q = ((Q.by_.toList.isEmpty || nameB Q.by_) && allB (fun k => treeB (Q.ln k) (Q.rt k)) Q.m) by rw [HR2.out, decide_eq_true cW0]; rfl)
          have HB7 := Lib.hid hbk
          have HBV := Below.refl W1.heap.size W1
          have cI : (Q.wn : Int) = 0 := by omega
          clear HR2
          have B7 := Lib.hid (blk_below B1.out HBV)
          have y5b := blk_cell B7.out (j := 5) rfl
          cases hby : Q.by_.toList.isEmpty
          · go_wp2_with fail
            refine (isName_any Q.by_ _ (block_below HK.out HB7.out)).mono ?_
            rintro e w8 ⟨rfl, hb8⟩
            cases hnm : nameB Q.by_
            · have HE := Lib.hid (show shapedB Q = false by rw [HR3.out, hby, hnm]; rfl)
              go_wp2_with fail
              go_ret
              exact ⟨by rw [HE.out]; rfl, bcall HB7.out hb8⟩
            · have HBY := Lib.hid (show (Q.by_.toList.isEmpty || nameB Q.by_) = true by rw [hby, hnm]; rfl)
              have HB8 := Lib.hid (bcall HB7.out hb8)
              have HBW := bcall HBV hb8
              obtain ⟨W8, e8⟩ : ∃ W8 : World, W8 = w8 := ⟨_, rfl⟩
              subst e8
              clear hby hnm
              have B8 := Lib.hid (blk_below B1.out HBW)
              have HR4 := Lib.hid (show shapedB Q = allB (fun k => treeB (Q.ln k) (Q.rt k)) Q.m by rw [HR3.out]; simp only [HBY.out, Bool.true_or, Bool.or_true, Bool.true_and])
              have z6 := blk_cell B8.out (j := 6) rfl
              go_wp2_with fail
              go_loopw [71] (fun i wr => ∃ k : Nat, k ≤ Q.m ∧ i = .int .i64 k ∧ Hid (∀ j, j < k → treeB (Q.ln j) (Q.rt j) = true) ∧ Below W8.heap.size W8 wr) (fun i _ => Q.m - (intOf i).toNat)
              case atStart => exact ⟨0, Nat.zero_le _, rfl, Lib.hid (yes_zero (p := fun j => treeB (Q.ln j) (Q.rt j))), Below.refl _ _⟩
              case round =>
                obtain ⟨k, hk, rfl, HN, hbr⟩ := hrel
                obtain ⟨W9, e9⟩ : ∃ W9 : World, W9 = wr := ⟨_, rfl⟩
                subst e9
                have hb9 := bcall HB8.out hbr
                by_cases hlt : k < Q.m
                · obtain ⟨b, off, eR, hbl, hcs⟩ := (HQ.out.later hb9).rR.spot (by omega)
                  have eR : aR = some ⟨b, off, none⟩ := eR
                  subst eR
                  obtain ⟨ta, tc, g0, _, _, hnd⟩ := hcs k hlt
                  have HND := Lib.hid hnd
                  clear hcs hnd
                  go_wp2_with fail
                  refine (showTree_any ta (Q.ln k) tc (Q.rt k) _ HND.out (block_below HK.out hb9)).mono ?_
                  rintro e w10 ⟨rfl, hb10⟩
                  cases hq : treeB (Q.ln k) (Q.rt k)
                  · have HE := Lib.hid (show shapedB Q = false by rw [HR4.out, all_no (p := fun k => treeB (Q.ln k) (Q.rt k)) hlt hq])
                    go_wp2_with fail
                    go_ret
                    exact ⟨by rw [HE.out]; rfl, bcall hb9 hb10⟩
                  · have HQ' := Lib.hid (yes_step (p := fun j => treeB (Q.ln j) (Q.rt j)) HN.out hq)
                    go_wp2_with fail
                    go_roundw
                    case rel => exact ⟨k + 1, by omega, by go_num, HQ', bcall hbr hb10⟩
                    case measure => simp [intOf]; omega
                · obtain rfl : k = Q.m := by omega
                  have HE := Lib.hid (show shapedB Q = true by rw [HR4.out]; exact all_yes HN.out)
                  go_wp2_with fail
                  go_ret
                  exact ⟨by rw [HE.out]; rfl, hb9⟩
          · have HBY := Lib.hid (show (Q.by_.toList.isEmpty || nameB Q.by_) = true by rw [hby]; rfl)
            have HB8 := HB7
            have HBW := HBV
            obtain ⟨W8, e8⟩ : ∃ W8 : World, W8 = W1 := ⟨_, rfl⟩
            subst e8
            have B8 := Lib.hid (blk_below B1.out HBW)
            have HR4 := Lib.hid (show shapedB Q = allB (fun k => treeB (Q.ln k) (Q.rt k)) Q.m by rw [HR3.out]; simp only [HBY.out, Bool.true_or, Bool.or_true, Bool.true_and])
            have z6 := blk_cell B8.out (j := 6) rfl
            go_wp2_with fail
            go_loopw [71] (fun i wr => ∃ k : Nat, k ≤ Q.m ∧ i = .int .i64 k ∧ Hid (∀ j, j < k → treeB (Q.ln j) (Q.rt j) = true) ∧ Below W8.heap.size W8 wr) (fun i _ => Q.m - (intOf i).toNat)
            case atStart => exact ⟨0, Nat.zero_le _, rfl, Lib.hid (yes_zero (p := fun j => treeB (Q.ln j) (Q.rt j))), Below.refl _ _⟩
            case round =>
              obtain ⟨k, hk, rfl, HN, hbr⟩ := hrel
              obtain ⟨W9, e9⟩ : ∃ W9 : World, W9 = wr := ⟨_, rfl⟩
              subst e9
              have hb9 := bcall HB8.out hbr
              by_cases hlt : k < Q.m
              · obtain ⟨b, off, eR, hbl, hcs⟩ := (HQ.out.later hb9).rR.spot (by omega)
                have eR : aR = some ⟨b, off, none⟩ := eR
                subst eR
                obtain ⟨ta, tc, g0, _, _, hnd⟩ := hcs k hlt
                have HND := Lib.hid hnd
                clear hcs hnd
                go_wp2_with fail
                refine (showTree_any ta (Q.ln k) tc (Q.rt k) _ HND.out (block_below HK.out hb9)).mono ?_
                rintro e w10 ⟨rfl, hb10⟩
                cases hq : treeB (Q.ln k) (Q.rt k)
                · have HE := Lib.hid (show shapedB Q = false by rw [HR4.out, all_no (p := fun k => treeB (Q.ln k) (Q.rt k)) hlt hq])
                  go_wp2_with fail
                  go_ret
                  exact ⟨by rw [HE.out]; rfl, bcall hb9 hb10⟩
                · have HQ' := Lib.hid (yes_step (p := fun j => treeB (Q.ln j) (Q.rt j)) HN.out hq)
                  go_wp2_with fail
                  go_roundw
                  case rel => exact ⟨k + 1, by omega, by go_num, HQ', bcall hbr hb10⟩
                  case measure => simp [intOf]; omega
              · obtain rfl : k = Q.m := by omega
                have HE := Lib.hid (show shapedB Q = true by rw [HR4.out]; exact all_yes HN.out)
                go_wp2_with fail
                go_ret
                exact ⟨by rw [HE.out]; rfl, hb9⟩
        · have hz : (0 : Int) < (Q.wn : Int) := by omega
          go_wp2_with fail
          refine (showTree_any aW Q.wn cW Q.wh _ HQ1.out.rW (block_below HK.out hbk)).mono ?_
          rintro e w7 ⟨rfl, hb7⟩
          cases hqt : treeB Q.wn Q.wh
          · have HE := Lib.hid (show shapedB Q = false by rw [HR2.out, hqt, decide_eq_false cW0]; rfl)
            go_wp2_with fail
            go_ret
            exact ⟨by rw [HE.out]; rfl, bcall hbk hb7⟩
          · have HR3 := Lib.hid (show shapedB Q = ((Q.by_.toList.isEmpty || nameB Q.by_) && allB (fun k => treeB (Q.ln k) (Q.rt k)) Q.m) by rw [HR2.out, hqt]; simp only [Bool.or_true, Bool.true_and])
            have HB7 := Lib.hid (bcall hbk hb7)
            have HBV := hb7
            clear HR2 hqt
            have B7 := Lib.hid (blk_below B1.out HBV)
            have y5b := blk_cell B7.out (j := 5) rfl
            cases hby : Q.by_.toList.isEmpty
            · go_wp2_with fail
              refine (isName_any Q.by_ _ (block_below HK.out HB7.out)).mono ?_
              rintro e w8 ⟨rfl, hb8⟩
              cases hnm : nameB Q.by_
              · have HE := Lib.hid (show shapedB Q = false by rw [HR3.out, hby, hnm]; rfl)
                go_wp2_with fail
                go_ret
                exact ⟨by rw [HE.out]; rfl, bcall HB7.out hb8⟩
              · have HBY := Lib.hid (show (Q.by_.toList.isEmpty || nameB Q.by_) = true by rw [hby, hnm]; rfl)
                have HB8 := Lib.hid (bcall HB7.out hb8)
                have HBW := bcall HBV hb8
                obtain ⟨W8, e8⟩ : ∃ W8 : World, W8 = w8 := ⟨_, rfl⟩
                subst e8
                clear hby hnm
                have B8 := Lib.hid (blk_below B1.out HBW)
                have HR4 := Lib.hid (show shapedB Q = allB (fun k => treeB (Q.ln k) (Q.rt k)) Q.m by rw [HR3.out]; simp only [HBY.out, Bool.true_or, Bool.or_true, Bool.true_and])
                have z6 := blk_cell B8.out (j := 6) rfl
                go_wp2_with fail
                go_loopw [71] (fun i wr => ∃ k : Nat, k ≤ Q.m ∧ i = .int .i64 k ∧ Hid (∀ j, j < k → treeB (Q.ln j) (Q.rt j) = true) ∧ Below W8.heap.size W8 wr) (fun i _ => Q.m - (intOf i).toNat)
                case atStart => exact ⟨0, Nat.zero_le _, rfl, Lib.hid (yes_zero (p := fun j => treeB (Q.ln j) (Q.rt j))), Below.refl _ _⟩
                case round =>
                  obtain ⟨k, hk, rfl, HN, hbr⟩ := hrel
                  obtain ⟨W9, e9⟩ : ∃ W9 : World, W9 = wr := ⟨_, rfl⟩
                  subst e9
                  have hb9 := bcall HB8.out hbr
                  by_cases hlt : k < Q.m
                  · obtain ⟨b, off, eR, hbl, hcs⟩ := (HQ.out.later hb9).rR.spot (by omega)
                    have eR : aR = some ⟨b, off, none⟩ := eR
                    subst eR
                    obtain ⟨ta, tc, g0, _, _, hnd⟩ := hcs k hlt
                    have HND := Lib.hid hnd
                    clear hcs hnd
                    go_wp2_with fail
                    refine (showTree_any ta (Q.ln k) tc (Q.rt k) _ HND.out (block_below HK.out hb9)).mono ?_
                    rintro e w10 ⟨rfl, hb10⟩
                    cases hq : treeB (Q.ln k) (Q.rt k)
                    · have HE := Lib.hid (show shapedB Q = false by rw [HR4.out, all_no (p := fun k => treeB (Q.ln k) (Q.rt k)) hlt hq])
                      go_wp2_with fail
                      go_ret
                      exact ⟨by rw [HE.out]; rfl, bcall hb9 hb10⟩
                    · have HQ' := Lib.hid (yes_step (p := fun j => treeB (Q.ln j) (Q.rt j)) HN.out hq)
                      go_wp2_with fail
                      go_roundw
                      case rel => exact ⟨k + 1, by omega, by go_num, HQ', bcall hbr hb10⟩
                      case measure => simp [intOf]; omega
                  · obtain rfl : k = Q.m := by omega
                    have HE := Lib.hid (show shapedB Q = true by rw [HR4.out]; exact all_yes HN.out)
                    go_wp2_with fail
                    go_ret
                    exact ⟨by rw [HE.out]; rfl, hb9⟩
            · have HBY := Lib.hid (show (Q.by_.toList.isEmpty || nameB Q.by_) = true by rw [hby]; rfl)
              have HB8 := HB7
              have HBW := HBV
              obtain ⟨W8, e8⟩ : ∃ W8 : World, W8 = w7 := ⟨_, rfl⟩
              subst e8
              have B8 := Lib.hid (blk_below B1.out HBW)
              have HR4 := Lib.hid (show shapedB Q = allB (fun k => treeB (Q.ln k) (Q.rt k)) Q.m by rw [HR3.out]; simp only [HBY.out, Bool.true_or, Bool.or_true, Bool.true_and])
              have z6 := blk_cell B8.out (j := 6) rfl
              go_wp2_with fail
              go_loopw [71] (fun i wr => ∃ k : Nat, k ≤ Q.m ∧ i = .int .i64 k ∧ Hid (∀ j, j < k → treeB (Q.ln j) (Q.rt j) = true) ∧ Below W8.heap.size W8 wr) (fun i _ => Q.m - (intOf i).toNat)
              case atStart => exact ⟨0, Nat.zero_le _, rfl, Lib.hid (yes_zero (p := fun j => treeB (Q.ln j) (Q.rt j))), Below.refl _ _⟩
              case round =>
                obtain ⟨k, hk, rfl, HN, hbr⟩ := hrel
                obtain ⟨W9, e9⟩ : ∃ W9 : World, W9 = wr := ⟨_, rfl⟩
                subst e9
                have hb9 := bcall HB8.out hbr
                by_cases hlt : k < Q.m
                · obtain ⟨b, off, eR, hbl, hcs⟩ := (HQ.out.later hb9).rR.spot (by omega)
                  have eR : aR = some ⟨b, off, none⟩ := eR
                  subst eR
                  obtain ⟨ta, tc, g0, _, _, hnd⟩ := hcs k hlt
                  have HND := Lib.hid hnd
                  clear hcs hnd
                  go_wp2_with fail
                  refine (showTree_any ta (Q.ln k) tc (Q.rt k) _ HND.out (block_below HK.out hb9)).mono ?_
                  rintro e w10 ⟨rfl, hb10⟩
                  cases hq : treeB (Q.ln k) (Q.rt k)
                  · have HE := Lib.hid (show shapedB Q = false by rw [HR4.out, all_no (p := fun k => treeB (Q.ln k) (Q.rt k)) hlt hq])
                    go_wp2_with fail
                    go_ret
                    exact ⟨by rw [HE.out]; rfl, bcall hb9 hb10⟩
                  · have HQ' := Lib.hid (yes_step (p := fun j => treeB (Q.ln j) (Q.rt j)) HN.out hq)
                    go_wp2_with fail
                    go_roundw
                    case rel => exact ⟨k + 1, by omega, by go_num, HQ', bcall hbr hb10⟩
                    case measure => simp [intOf]; omega
                · obtain rfl : k = Q.m := by omega
                  have HE := Lib.hid (show shapedB Q = true by rw [HR4.out]; exact all_yes HN.out)
                  go_wp2_with fail
                  go_ret
                  exact ⟨by rw [HE.out]; rfl, hb9⟩
end Go.Proofs.YtagcbljfaflhoaaDoor

/-! ### A schema in memory: what it reads as, and how a schema that is handed in reads. -/
namespace Go.Proofs.YtagcbljfaflhoaaDoor
open Go.RowKit Go.ChangeShapes Go.WideShapes Go.Deep
/-- A schema: types by number, each a name and its attributes. -/
structure Sch where
  n : Nat
  nm : Nat → ByteArray
  ln : Nat → Nat
  atr : Nat → Nat → ByteArray
/-- A slice of texts reads so, and lies below block B. -/
def StrRd (w : World) (B : Nat) (A : Option Addr) (n : Nat) (f : Nat → ByteArray) : Prop :=
  n * 16 ≤ 140737488351232 ∧ (n ≠ 0 → ∃ b off, A = some ⟨b, off, none⟩ ∧ b < B ∧ ∀ j, j < n → w.cell? ⟨b, off + j, none⟩ = some (.string (f j)))
/-- A slice of types reads so. -/
def TypRd (w : World) (B : Nat) (A : Option Addr) (S : Sch) : Prop :=
  S.n * 40 ≤ 140737488351232 ∧ (S.n ≠ 0 → ∃ b off, A = some ⟨b, off, none⟩ ∧ b < B ∧ ∀ j, j < S.n →
    w.cell? ⟨b, off + j * 2, none⟩ = some (.string (S.nm j)) ∧ ∃ aa ac, w.cell? ⟨b, off + j * 2 + 1, none⟩ = some (.slice aa (S.ln j) ac) ∧ StrRd w B aa (S.ln j) (S.atr j))
section
variable {w w' : World} {B B' n : Nat} {A : Option Addr} {f : Nat → ByteArray} {S : Sch}
theorem StrRd.keep (h : StrRd w B A n f) (hk : ∀ p : Addr, p.block < B → w'.cell? p = w.cell? p) : StrRd w' B A n f :=
  ⟨h.1, fun hn => by
    obtain ⟨b, off, e, hb, hc⟩ := h.2 hn
    exact ⟨b, off, e, hb, fun j hj => (hk _ hb).trans (hc j hj)⟩⟩
theorem StrRd.more (h : StrRd w B A n f) (hB : B ≤ B') : StrRd w B' A n f :=
  ⟨h.1, fun hn => by
    obtain ⟨b, off, e, hb, hc⟩ := h.2 hn
    exact ⟨b, off, e, by omega, hc⟩⟩
theorem StrRd.below (h : StrRd w B A n f) (hb : Below B w w') : StrRd w' B A n f := h.keep fun _ hp => hb.cell hp
theorem TypRd.keep (h : TypRd w B A S) (hk : ∀ p : Addr, p.block < B → w'.cell? p = w.cell? p) : TypRd w' B A S :=
  ⟨h.1, fun hn => by
    obtain ⟨b, off, e, hb, hc⟩ := h.2 hn
    refine ⟨b, off, e, hb, fun j hj => ?_⟩
    obtain ⟨h1, aa, ac, h2, h3⟩ := hc j hj
    exact ⟨(hk _ hb).trans h1, aa, ac, (hk _ hb).trans h2, h3.keep hk⟩⟩
theorem TypRd.more (h : TypRd w B A S) (hB : B ≤ B') : TypRd w B' A S :=
  ⟨h.1, fun hn => by
    obtain ⟨b, off, e, hb, hc⟩ := h.2 hn
    refine ⟨b, off, e, by omega, fun j hj => ?_⟩
    obtain ⟨h1, aa, ac, h2, h3⟩ := hc j hj
    exact ⟨h1, aa, ac, h2, h3.more hB⟩⟩
theorem TypRd.below (h : TypRd w B A S) (hb : Below B w w') : TypRd w' B A S := h.keep fun _ hp => hb.cell hp
theorem StrRd.drewN (h : StrRd w B A n f) (k : Nat) : StrRd (w.drewN k) B A n f := h
theorem TypRd.drewN (h : TypRd w B A S) (k : Nat) : TypRd (w.drewN k) B A S := h
/-- Whatever comes later reads the same. -/
theorem TypRd.later (h : TypRd w w.heap.size A S) (hb : Below w.heap.size w w') : TypRd w' w'.heap.size A S := (h.below hb).more hb.size
theorem StrRd.later (h : StrRd w w.heap.size A n f) (hb : Below w.heap.size w w') : StrRd w' w'.heap.size A n f := (h.below hb).more hb.size
end
theorem addr_of_cell {w : World} {a : Addr} {v : Value} (h : w.cell? a = some v) : a = ⟨a.block, a.off, none⟩ ∧ a.block < w.heap.size := by
  unfold World.cell? at h
  split at h
  · rename_i hh
    have hlt := (Array.getElem?_eq_some_iff.1 hh).1
    split at h
    · cases h
    · rename_i hs
      refine ⟨?_, hlt⟩
      cases a with
      | mk b o s =>
        cases s with
        | none => rfl
        | some s => simp at hs
  · cases h
theorem cell_alloc {w : World} {a : Addr} {v : Value} (h : w.cell? a = some v) (o : Obj) : (w.alloc o).cell? a = some v := (World.cell?_alloc_lt w o a (addr_of_cell h).2).trans h
theorem add_none (b off i : Nat) : (⟨b, off, none⟩ : Addr).add i = ⟨b, off + i, none⟩ := by
  unfold Addr.add
  split
  · rename_i h; subst h; rfl
  · rfl
section
variable {H : Type} {P : Program}
theorem reach_slice {t e : TypeId} {es sp : List (DataW H)} (ht : P.underlying t = some (.slice e)) (h : Reached P t (.slice es sp)) : (es.length + sp.length) * P.bytesOf e ≤ 140737488351232 ∧ ∀ d ∈ es, Reached P e d := by
  simp only [Reached, DataW.weights, ht, List.all_cons, List.all_append, Bool.and_eq_true, reachBytes] at h
  refine ⟨of_decide_eq_true h.1, ?_⟩
  have h2 := h.2.1
  clear h ht
  induction es with
  | nil => simp
  | cons d r ih =>
    simp only [DataW.weightsAll, List.all_append, Bool.and_eq_true] at h2
    intro x hx
    rcases List.mem_cons.1 hx with rfl | hx
    · exact h2.1
    · exact ih h2.2 x hx
theorem reach_struct {t : TypeId} {fs : Array Field} {ds : List (DataW H)} (ht : P.underlying t = some (.struct fs)) (h : Reached P t (.agg ds)) : ReachedAll P (fs.toList.map (·.type)) ds := by
  simpa only [Reached, DataW.weights, ht, ReachedAll] using h
end
section
variable {H : Type} {enc : TypeId × Value → H} {P : Program} {w : World} {base : Nat} {spare : Nat → Bool} {held : Bool}
theorem open_slice_fields {t e : TypeId} {fs : Array Field} {fuel : Nat} {cs : List Value} {x : DataW H × List MemPlace} (ht : P.underlying t = some (.slice e)) (he : P.underlying e = some (.struct fs))
    (hone : oneCellFields P fs = true) (hC : P.cellsOf e = fs.size) (h : DataW.trod enc P w base spare held fuel t cs = some x) :
    (cs = [.slice none 0 0] ∧ x = (.nil, [])) ∨
    ∃ (a : Addr) (len cap m : Nat) (D : Nat → DataW H) (Pl : Nat → List MemPlace), cs = [.slice (some a) len cap] ∧ base ≤ a.block ∧ len ≤ cap ∧ cap ≤ maxLen ∧ m = (if spare a.block then cap else len) ∧
      x = (.slice ((List.range len).map D) ((List.range (m - len)).map fun j => D (len + j)), MemPlace.row a (m * fs.size) ++ (List.range m).flatMap Pl) ∧
      ∀ i, i < m → ∃ (ys : List (DataW H × List MemPlace)) (n : Nat), D i = .agg (ys.map (·.1)) ∧ Pl i = ys.flatMap (·.2) ∧ ys.length = fs.size ∧
        ∀ (j : Nat) (f : Field), fs[j]? = some f → ∃ (v : Value) (y : DataW H × List MemPlace), w.cell? (a.add (i * fs.size + j)) = some v ∧ ys[j]? = some y ∧ DataW.trod enc P w base spare held n f.type [v] = some y := by
  rcases open_slice ht h with h0 | ⟨a, len, cap, m, n, D, Pl, hcs, hb, hl, hm, hmm, hx, hi⟩
  · exact .inl h0
  · refine .inr ⟨a, len, cap, m, D, Pl, hcs, hb, hl, hm, hmm, by rw [hC] at hx; exact hx, fun i him => ?_⟩
    obtain ⟨cs', hc, ht'⟩ := hi i him
    rw [hC] at hc
    obtain ⟨ys, n', hn', hy, hlen, hyl, hf⟩ := DataW.trod_struct he ht'
    obtain ⟨_, hcl, hat⟩ := World.cells?_some hc
    simp only [Prod.mk.injEq] at hy
    refine ⟨ys, n', hy.1, hy.2, hyl, fun j f hj => ?_⟩
    obtain ⟨ho, hk⟩ := hone_of hone j f hj
    have hjl : j < fs.size := (Array.getElem?_eq_some_iff.1 hj).1
    have hcell := hat j hjl
    have hv : cs'[j]? = some (cs'[j]'(by omega)) := List.getElem?_eq_getElem (by omega)
    have h1 := hf j f hj
    rw [ho, hk] at h1
    have hone' : (cs'.drop j).take 1 = [cs'[j]'(by omega)] := by
      rw [List.drop_eq_getElem_cons (by omega)]
      rfl
    rw [hone'] at h1
    have hys : ys[j]? = some (ys[j]'(by omega)) := List.getElem?_eq_getElem (by omega)
    refine ⟨_, _, ?_, hys, h1.trans hys⟩
    rw [← Go.Deep.add_add, hcell, hv]
end
section
variable {H : Type} {enc : TypeId × Value → H} {w : World} {base : Nat} {sp : Nat → Bool} {held : Bool}
theorem open_strs {n : Nat} {v : Value} {y : DataW H × List MemPlace} (h : DataW.trod enc Tryd.prog w base sp held n 75 [v] = some y) (hr : Reached Tryd.prog 75 y.1) :
    ∃ aa al ac f, v = .slice aa al ac ∧ StrRd w w.heap.size aa al f := by
  rcases open_strings Tryd.underlying75 Tryd.underlying9 (by kernel_rfl) h with ⟨e, _⟩ | ⟨a, len, cap, ss, e, hb, hl, hm, hlen, hx, hc, hs⟩
  · injection e with e
    exact ⟨none, 0, 0, fun _ => .empty, e, by omega, fun h => absurd rfl h⟩
  · injection e with e
    have hle : len ≤ ss.length := by rw [hlen]; split <;> omega
    rw [hx] at hr
    have hb16 := (reach_slice Tryd.underlying75 hr).1
    have h16 : Tryd.prog.bytesOf 9 = 16 := by kernel_rfl
    rw [h16] at hb16
    have hl1 : (strs (H := H) (ss.take len)).length = len := by simp [strs]; omega
    rw [hl1] at hb16
    refine ⟨some a, len, cap, fun i => ss.getD i .empty, e, by omega, fun hn => ?_⟩
    have h0 := addr_of_cell (hc 0 (by omega))
    have ha : a = ⟨a.block, a.off, none⟩ := h0.1
    have hlt : a.block < w.heap.size := h0.2
    refine ⟨a.block, a.off, congrArg some ha, hlt, fun j hj => ?_⟩
    have := hc j (by omega)
    rw [ha, add_none] at this
    exact this
theorem open_types {n : Nat} {v : Value} {y : DataW H × List MemPlace} (h : DataW.trod enc Tryd.prog w base sp held n 32 [v] = some y) (hr : Reached Tryd.prog 32 y.1) :
    ∃ aa ac S, v = .slice aa S.n ac ∧ TypRd w w.heap.size aa S := by
  rcases open_slice_fields Tryd.underlying32 Tryd.underlying78 (by kernel_rfl) (by kernel_rfl) h with ⟨e, _⟩ | ⟨a, len, cap, m, D, Pl, e, hb, hl, hm, hmm, hx, hf⟩
  · injection e with e
    exact ⟨none, 0, ⟨0, fun _ => .empty, fun _ => 0, fun _ _ => .empty⟩, e, by simp, fun h => absurd rfl h⟩
  · injection e with e
    have hle : len ≤ m := by rw [hmm]; split <;> omega
    rw [hx] at hr
    obtain ⟨hb40, hall⟩ := reach_slice Tryd.underlying32 hr
    have h40 : Tryd.prog.bytesOf 78 = 40 := by kernel_rfl
    rw [h40, List.length_map, List.length_range] at hb40
    have key : ∀ i, ∃ t : ByteArray × Nat × (Nat → ByteArray), i < len → w.cell? (a.add (i * 2)) = some (.string t.1) ∧ ∃ aa ac, w.cell? (a.add (i * 2 + 1)) = some (.slice aa t.2.1 ac) ∧ StrRd w w.heap.size aa t.2.1 t.2.2 := by
      intro i
      by_cases hi : i < len
      · obtain ⟨ys, n', hD, _, hyl, hfl⟩ := hf i (by omega)
        obtain ⟨v0, y0, hc0, hy0, ht0⟩ := hfl 0 _ rfl
        obtain ⟨v1, y1, hc1, hy1, ht1⟩ := hfl 1 _ rfl
        have hri := hall (D i) (List.mem_map.2 ⟨i, by simpa using hi, rfl⟩)
        rw [hD] at hri
        have hra := reach_struct Tryd.underlying78 hri
        obtain ⟨⟩ | ⟨z0, _ | ⟨z1, ys⟩⟩ := ys
        · simp at hy0
        · simp at hy1
        obtain rfl : z0 = y0 := by simpa using hy0
        obtain rfl : z1 = y1 := by simpa using hy1
        obtain ⟨s, e1, e2, _⟩ := DataW.trod_string Tryd.underlying9 ht0
        obtain ⟨aa, al, ac, f, e3, hs⟩ := open_strs ht1 (reach_cons (reach_cons hra).2).1
        injection e1 with e1
        subst e1
        subst e3
        exact ⟨(s, al, f), fun _ => ⟨hc0, aa, ac, hc1, hs⟩⟩
      · exact ⟨(.empty, 0, fun _ => .empty), fun h => absurd h hi⟩
    obtain ⟨g, hg⟩ := Classical.axiomOfChoice key
    refine ⟨some a, cap, ⟨len, fun i => (g i).1, fun i => (g i).2.1, fun i => (g i).2.2⟩, e, by show len * 40 ≤ _; omega, fun hn => ?_⟩
    have h0 := addr_of_cell (hg 0 (Nat.pos_of_ne_zero hn)).1
    rw [Nat.zero_mul] at h0
    have ha0 : a.add 0 = a := rfl
    rw [ha0] at h0
    refine ⟨a.block, a.off, congrArg some h0.1, h0.2, fun j hj => ?_⟩
    obtain ⟨k1, aa, ac, k2, k3⟩ := hg j hj
    rw [h0.1, add_none] at k1 k2
    exact ⟨k1, aa, ac, k2, k3⟩
set_option maxRecDepth 8000 in
/-- A schema that is handed in. -/
theorem open_schema {r : Reach} {b0 : Nat} {v : Value} {d : DataW H} {p : List MemPlace} (hv : Value.okWide Tryd.prog w r b0 34 v) (h : DataW.Trod enc Tryd.prog w base sp held 34 v d p)
    (hr : Reached Tryd.prog 34 d) : ∃ A S cap, v = .agg #[.slice A S.n cap] ∧ TypRd w w.heap.size A S := by
  obtain ⟨cs, rfl, hsz⟩ := okWide_struct Tryd.underlying34 hv
  have hc1 : Tryd.prog.cellsOf 34 = 1 := by kernel_rfl
  have h1 : cs.size = 1 := hsz.trans hc1
  obtain ⟨l⟩ := cs
  match l, h1 with
  | [c0], _ =>
    obtain ⟨fuel, hf⟩ := h
    obtain ⟨xs, n, _, hx, _, hlen, hg⟩ := DataW.trod_struct Tryd.underlying34 hf
    match xs, hlen with
    | [y0], _ =>
      simp only [Prod.mk.injEq] at hx
      have g0 := hg 0 _ rfl
      have hd : d = .agg [y0.1] := by simpa using hx.1
      rw [hd] at hr
      have hra := (reach_cons (reach_struct Tryd.underlying34 hr)).1
      obtain ⟨aa, ac, S, e, hT⟩ := open_types (v := c0) (y := y0) (n := n) (by
        have hc1 : Tryd.prog.cellsOf 32 = 1 := by kernel_rfl
        simpa [Value.cells, hc1] using g0) hra
      subst e
      exact ⟨aa, S, ac, rfl, hT⟩
end
end Go.Proofs.YtagcbljfaflhoaaDoor

/-! ### The first number of a kind below n, -1 if there is none. -/
namespace Go.Proofs.YtagcbljfaflhoaaDoor
def firstI (p : Nat → Bool) (n : Nat) : Int := match (List.range n).find? p with | some k => (k : Int) | none => -1
theorem firstI_hit {p : Nat → Bool} {n j : Nat} (hj : j < n) (hp : p j = true) (hn : ∀ k, k < j → p k = false) : firstI p n = j := by
  have : (List.range n).find? p = some j := by
    rw [List.find?_eq_some_iff_getElem]
    refine ⟨hp, j, by simpa using hj, by simp, fun k hk => ?_⟩
    simp [hn k hk]
  simp [firstI, this]
theorem firstI_none {p : Nat → Bool} {n : Nat} (hn : ∀ k, k < n → p k = false) : firstI p n = -1 := by
  have : (List.range n).find? p = none := by
    rw [List.find?_eq_none]
    intro k hk
    rw [hn k (by simpa using hk)]
    simp
  simp [firstI, this]
theorem firstI_or (p : Nat → Bool) (n : Nat) : (firstI p n = -1 ∧ ∀ k, k < n → p k = false) ∨ ∃ j, j < n ∧ firstI p n = j ∧ p j = true ∧ ∀ k, k < j → p k = false := by
  cases h : (List.range n).find? p with
  | none =>
    left
    refine ⟨by simp [firstI, h], fun k hk => ?_⟩
    have := List.find?_eq_none.1 h k (by simpa using hk)
    simpa using this
  | some j =>
    right
    obtain ⟨hp, i, hi, e, hb⟩ := List.find?_eq_some_iff_getElem.1 h
    simp only [List.getElem_range] at e
    subst e
    refine ⟨i, by simpa using hi, by simp [firstI, h], hp, fun k hk => ?_⟩
    have := hb k hk
    simpa using this
theorem none_zero {p : Nat → Bool} : ∀ j, j < 0 → p j = false := fun _ h => absurd h (Nat.not_lt_zero _)
theorem none_step {p : Nat → Bool} {k : Nat} (h : ∀ j, j < k → p j = false) (hp : p k = false) : ∀ j, j < k + 1 → p j = false := by
  intro j hj
  by_cases e : j = k
  · rw [e]; exact hp
  · exact h j (by omega)
end Go.Proofs.YtagcbljfaflhoaaDoor

/-! ### The walks of TypeOf, placeOf, AttrOf and of the reference's, and of the law's comparing. -/
namespace Go.Proofs.YtagcbljfaflhoaaDoor
open Go.RowKit Go.ChangeShapes Go.WideShapes Go.ChangeAt
/-- The first place of a text among n. -/
def placeI (n : Nat) (f : Nat → ByteArray) (nm : ByteArray) : Int := firstI (fun k => (f k).toList == nm.toList) n
def typeI (S : Sch) (nm : ByteArray) : Int := placeI S.n S.nm nm
set_option maxHeartbeats 400000 in
theorem typeOf_any (A : Option Addr) (cap : Nat) (S : Sch) (nm : ByteArray) (w : World) (h : TypRd w w.heap.size A S) :
    Calls Tryd.prog 82 #[.agg #[.slice A S.n cap], .string nm] w fun e w' => e = .returned (.int .i64 (typeI S nm)) ∧ Below w.heap.size w w' := by
  have hn := h.1
  have HT := Lib.hid h
  clear h
  go_enter Tryd.func82, Tryd.ntmps82
  go_wp2_with fail
  go_loopw [10] (fun i wr => ∃ k : Nat, k ≤ S.n ∧ i = .int .i64 k ∧ Hid (∀ j, j < k → ((S.nm j).toList == nm.toList) = false) ∧ Below w.heap.size w wr) (fun i _ => S.n - (intOf i).toNat)
  case atStart => exact ⟨0, Nat.zero_le _, rfl, Lib.hid none_zero, bnew (Below.refl _ _) _⟩
  case round =>
    obtain ⟨k, hk, rfl, HN, hb⟩ := hrel
    by_cases hlt : k < S.n
    · obtain ⟨b, off, rfl, hbl, hcs⟩ := HT.out.2 (by omega)
      obtain ⟨c1, aa, ac, c2, _⟩ := hcs k hlt
      have d1 := (hb.cell (p := ⟨b, off + k * 2, none⟩) hbl).trans c1
      have d2 := (hb.cell (p := ⟨b, off + k * 2 + 1, none⟩) hbl).trans c2
      clear hcs c1 c2
      cases hp : ((S.nm k).toList == nm.toList)
      all_goals
        have HP := Lib.hid hp
        go_wp2_with fail
      · go_roundw
        case rel => exact ⟨k + 1, by omega, by go_num, Lib.hid (none_step (p := fun j => (S.nm j).toList == nm.toList) HN.out HP.out), bnew hb _⟩
        case measure => simp [intOf]; omega
      · go_ret
        exact ⟨ret_int (firstI_hit hlt HP.out HN.out).symm, bnew hb _⟩
    · go_wp2_with fail
      go_ret
      exact ⟨ret_int (firstI_none (fun j hj => HN.out j (by omega))).symm, hb⟩
theorem refTypeOf_any (A : Option Addr) (cap : Nat) (S : Sch) (nm : ByteArray) (w : World) (h : TypRd w w.heap.size A S) :
    Calls Tryd.prog 92 #[.agg #[.slice A S.n cap], .string nm] w fun e w' => e = .returned (.int .i64 (typeI S nm)) ∧ Below w.heap.size w w' := by
  have hn := h.1
  have HT := Lib.hid h
  clear h
  have HB := bnew (Below.refl w.heap.size w) (.cells #[.slice A S.n cap] 34)
  go_enter Tryd.func92, Tryd.ntmps92
  go_wp2_with fail
  go_loop [5] (fun i => ∃ k : Nat, k ≤ S.n ∧ i = .int .i64 k ∧ Hid (∀ j, j < k → ((S.nm j).toList == nm.toList) = false)) (fun i => S.n - (intOf i).toNat)
  case atStart => exact ⟨0, Nat.zero_le _, rfl, Lib.hid none_zero⟩
  case round =>
    obtain ⟨k, hk, rfl, HN⟩ := hrel
    by_cases hlt : k < S.n
    · obtain ⟨b, off, rfl, hbl, hcs⟩ := HT.out.2 (by omega)
      obtain ⟨c1, aa, ac, c2, _⟩ := hcs k hlt
      have d1 := (HB.cell (p := ⟨b, off + k * 2, none⟩) hbl).trans c1
      clear hcs c1 c2
      cases hp : ((S.nm k).toList == nm.toList)
      all_goals
        have HP := Lib.hid hp
        go_wp2_with fail
      · go_round
        case rel => exact ⟨k + 1, by omega, by go_num, Lib.hid (none_step (p := fun j => (S.nm j).toList == nm.toList) HN.out HP.out)⟩
        case measure => simp [intOf]; omega
      · go_ret
        exact ⟨ret_int (firstI_hit hlt HP.out HN.out).symm, HB⟩
    · go_wp2_with fail
      go_ret
      exact ⟨ret_int (firstI_none (fun j hj => HN.out j (by omega))).symm, HB⟩
theorem placeOf_any (A : Option Addr) (n cap : Nat) (f : Nat → ByteArray) (nm : ByteArray) (w : World) (h : StrRd w w.heap.size A n f) :
    Calls Tryd.prog 83 #[.slice A n cap, .string nm] w fun e w' => e = .returned (.int .i64 (placeI n f nm)) ∧ w' = w := by
  have hn := h.1
  have HT := Lib.hid h
  clear h
  go_enter Tryd.func83, Tryd.ntmps83
  go_wp2_with fail
  go_loop [9] (fun i => ∃ k : Nat, k ≤ n ∧ i = .int .i64 k ∧ Hid (∀ j, j < k → ((f j).toList == nm.toList) = false)) (fun i => n - (intOf i).toNat)
  case atStart => exact ⟨0, Nat.zero_le _, rfl, Lib.hid none_zero⟩
  case round =>
    obtain ⟨k, hk, rfl, HN⟩ := hrel
    by_cases hlt : k < n
    · obtain ⟨b, off, rfl, hbl, hcs⟩ := HT.out.2 (by omega)
      have c1 := hcs k hlt
      clear hcs
      cases hp : ((f k).toList == nm.toList)
      all_goals
        have HP := Lib.hid hp
        go_wp2_with fail
      · go_round
        case rel => exact ⟨k + 1, by omega, by go_num, Lib.hid (none_step (p := fun j => (f j).toList == nm.toList) HN.out HP.out)⟩
        case measure => simp [intOf]; omega
      · go_ret
        exact ⟨ret_int (firstI_hit hlt HP.out HN.out).symm, rfl⟩
    · go_wp2_with fail
      go_ret
      exact ⟨ret_int (firstI_none (fun j hj => HN.out j (by omega))).symm, rfl⟩
end Go.Proofs.YtagcbljfaflhoaaDoor

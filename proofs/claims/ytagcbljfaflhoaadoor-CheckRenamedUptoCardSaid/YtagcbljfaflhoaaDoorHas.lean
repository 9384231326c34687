/-
  Have all of an item's types an attribute; can a query be partitioned: plain, and the walks of check.has, check.partable.
-/
import Derived.Test.YtagcbljfaflhoaaDoorShaped
import Derived.Test.YtagcbljfaflhoaaDoorAttrOf
import Derived.Deep.RegionWith
import Derived.BigQuiet
set_option linter.unusedSimpArgs false
set_option linter.unusedVariables false
namespace Go.Proofs.YtagcbljfaflhoaaDoor
open Go.RowKit Go.ChangeShapes Go.WideShapes Go.ChangeAt Go.Deep Go.Joins
def colB (S : Sch) (t a : ByteArray) : Bool := attrI S (typeI S t) a != -1
def hasB (S : Sch) (x : Itm) (a : ByteArray) : Bool := allB (fun j => colB S (x.ty j) a) x.tn
def partB (S : Sch) (Q : Qry) : Bool := !(Q.by_.toList == [116, 115]) && allB (fun i => hasB S (Q.it i) Q.by_) Q.n
/-- A schema that is handed in: what a box of it holds. -/
theorem typ_small {w : World} {B : Nat} {A : Option Addr} {S : Sch} (h : TypRd w B A S) : S.n ≤ 9223372036854775807 := by have := h.1; omega
set_option maxRecDepth 100000 in
set_option maxHeartbeats 2000000 in
theorem has_any (A : Option Addr) (cap : Nat) (S : Sch) (x : Itm) (a : Option Addr) (c : Nat) (at_ : ByteArray) (w : World) (hS : TypRd w w.heap.size A S) (h : TxtRd w w.heap.size a x.tn x.ty) :
    Calls Tryd.prog 86 #[.agg #[.slice A S.n cap], .agg (itmArr x (.slice a x.tn c)), .string at_] w fun e w' => e = .returned (.bool (hasB S x at_)) ∧ Below w.heap.size w w' := by
  obtain ⟨ng, tn, ty, vr, lo, hi⟩ := x
  show Calls _ _ #[.agg #[.slice A S.n cap], .agg #[.bool ng, .slice a tn c, .string vr, .int .i64 lo, .int .i64 hi], .string at_] w _
  have hn : tn * 16 ≤ 140737488351232 := h.1
  have hb0 := bnew (bnew (Below.refl w.heap.size w) (.cells #[.slice A S.n cap] 34)) (.cells #[.bool ng, .slice a tn c, .string vr, .int .i64 lo, .int .i64 hi] 80)
  have s0 := blk_alloc (blk_new w #[.slice A S.n cap] 34) (.cells #[.bool ng, .slice a tn c, .string vr, .int .i64 lo, .int .i64 hi] 80)
  have i0 := blk_new (w.alloc (.cells #[.slice A S.n cap] 34)) #[.bool ng, .slice a tn c, .string vr, .int .i64 lo, .int .i64 hi] 80
  rw [World.size_alloc] at i0
  have S0 := Lib.hid s0
  have I0 := Lib.hid i0
  have HT := Lib.hid h
  have HS := Lib.hid hS
  clear h hS s0 i0
  go_enter Tryd.func86, Tryd.ntmps86
  go_upto_region 1 with fail
  generalize (w.alloc _).alloc _ = w0 at *
  have t1 := blk_cell I0.out (j := 1) rfl
  go_wp2_with fail
  go_loopw [12] (fun i wr => ∃ k : Nat, k ≤ tn ∧ i = .int .i64 k ∧ Hid (∀ j, j < k → colB S (ty j) at_ = true) ∧ Below w0.heap.size w0 wr) (fun i _ => tn - (intOf i).toNat)
  case atStart => exact ⟨0, Nat.zero_le _, rfl, Lib.hid (yes_zero (p := fun j => colB S (ty j) at_)), Below.refl _ _⟩
  case round =>
    obtain ⟨k, hk, rfl, HN, hb⟩ := hrel
    obtain ⟨W1, e1⟩ : ∃ W1 : World, W1 = wr := ⟨_, rfl⟩
    subst e1
    have hbk := bcall hb0 hb
    by_cases hlt : k < tn
    · obtain ⟨b, off, rfl, hbl, hcs⟩ := RowRd.spot1 (HT.out.below hbk) (by omega)
      have d1 := hcs k hlt
      have S1 := Lib.hid (blk_below S0.out hb)
      have HS1 := Lib.hid (HS.out.later hbk)
      have x1 := blk_cell S1.out (j := 0) rfl
      obtain ⟨tI, htI⟩ : ∃ tI, typeI S (ty k) = tI := ⟨_, rfl⟩
      obtain ⟨aI, haI⟩ : ∃ aI, attrI S tI at_ = aI := ⟨_, rfl⟩
      have HTI := Lib.hid htI
      have HAI := Lib.hid haI
      have HC := Lib.hid (show colB S (ty k) at_ = (aI != -1) by rw [colB, htI, haI])
      clear hcs htI haI
      go_upto_region 4 with fail
      go_region_with (first | (go_at_call 82; go_loud (refine (typeOf_any A cap S (ty k) _ (HS1.out.drewN 1)).mono ?_); rw [HTI.out]; rintro e w5 ⟨rfl, hb5⟩; have x5 := rd_later (w := W1.drew) x1 hb5; have hb15 := bcall (hb.drew) hb5) | (go_at_call 107; refine (attrOf_any A cap S tI at_ _ ((HS.out.later (bcall hb0 hb15)))).mono ?_; rw [HAI.out]; rintro e w6 ⟨rfl, hb6⟩))
      all_goals
        have hb16 := bcall hb15 hb6
        clear hb5 hb6 hb15 x1 d1
        by_cases hc : aI = -1
        · subst hc
          have HE := Lib.hid (show hasB S ⟨ng, tn, ty, vr, lo, hi⟩ at_ = false from all_no (p := fun j => colB S (ty j) at_) hlt (by show colB S (ty k) at_ = false; rw [HC.out]; rfl))
          go_wp2_with fail
          go_ret
          exact ⟨by rw [HE.out]; rfl, bcall hb0 hb16⟩
        · have hc' : (aI == -1) = false := by rw [beq_eq_false_iff_ne]; exact hc
          have HY := Lib.hid (yes_step (p := fun j => colB S (ty j) at_) HN.out (by show colB S (ty k) at_ = true; rw [HC.out, bne_iff_ne]; exact hc))
          go_wp2_with fail
          go_roundw
          case rel => exact ⟨k + 1, by omega, by go_num, HY, hb16⟩
          case measure => simp [intOf]; omega
    · obtain rfl : k = tn := by omega
      have HE := Lib.hid (show hasB S ⟨ng, k, ty, vr, lo, hi⟩ at_ = true from all_yes HN.out)
      go_wp2_with fail
      go_ret
      exact ⟨by rw [HE.out]; rfl, hbk⟩
set_option maxRecDepth 100000 in
set_option maxHeartbeats 2000000 in
theorem partable_any (A : Option Addr) (cap : Nat) (S : Sch) (V : QryV) (Q : Qry) (w : World) (hS : TypRd w w.heap.size A S) (h : QryRd w w.heap.size V Q) :
    Calls Tryd.prog 60 #[.agg #[.slice A S.n cap], .agg (qryArr V Q)] w fun e w' => e = .returned (.bool (partB S Q)) ∧ Below w.heap.size w w' := by
  obtain ⟨aI, cI, aW, cW, aR, cR⟩ := V
  show Calls _ _ #[.agg #[.slice A S.n cap], .agg #[.slice aI Q.n cI, .int .i64 Q.mode, .int .i64 Q.after, .slice aW Q.wn cW, .int .i64 Q.within, .string Q.by_, .slice aR Q.m cR]] w _
  have hnI := h.rI.small
  have hb0 := bnew (bnew (Below.refl w.heap.size w) (.cells #[.slice A S.n cap] 34)) (.cells #[.slice aI Q.n cI, .int .i64 Q.mode, .int .i64 Q.after, .slice aW Q.wn cW, .int .i64 Q.within, .string Q.by_, .slice aR Q.m cR] 40)
  have s0 := blk_alloc (blk_new w #[.slice A S.n cap] 34) (.cells #[.slice aI Q.n cI, .int .i64 Q.mode, .int .i64 Q.after, .slice aW Q.wn cW, .int .i64 Q.within, .string Q.by_, .slice aR Q.m cR] 40)
  have q0 := blk_new (w.alloc (.cells #[.slice A S.n cap] 34)) #[.slice aI Q.n cI, .int .i64 Q.mode, .int .i64 Q.after, .slice aW Q.wn cW, .int .i64 Q.within, .string Q.by_, .slice aR Q.m cR] 40
  rw [World.size_alloc] at q0
  have S0 := Lib.hid s0
  have B0 := Lib.hid q0
  have HQ := Lib.hid h
  have HS := Lib.hid hS
  clear h hS s0 q0
  go_enter Tryd.func60, Tryd.ntmps60
  go_upto_region 1 with fail
  generalize (w.alloc _).alloc _ = w0 at *
  have x5 := blk_cell B0.out (j := 5) rfl
  have x0 := blk_cell B0.out (j := 0) rfl
  cases hts : (Q.by_.toList == [116, 115])
  · go_wp2_with fail
    go_loopw [13] (fun i wr => ∃ k : Nat, k ≤ Q.n ∧ i = .int .i64 k ∧ Hid (∀ j, j < k → hasB S (Q.it j) Q.by_ = true) ∧ Below w0.heap.size w0 wr) (fun i _ => Q.n - (intOf i).toNat)
    case atStart => exact ⟨0, Nat.zero_le _, rfl, Lib.hid (yes_zero (p := fun j => hasB S (Q.it j) Q.by_)), Below.refl _ _⟩
    case round =>
      obtain ⟨k, hk, rfl, HN, hb⟩ := hrel
      obtain ⟨W1, e1⟩ : ∃ W1 : World, W1 = wr := ⟨_, rfl⟩
      subst e1
      have hbk := bcall hb0 hb
      have HQ1 := Lib.hid (HQ.out.later hbk)
      by_cases hlt : k < Q.n
      · obtain ⟨b, off, eI, hbl, hcs⟩ := HQ1.out.rI.spot (by omega)
        have eI : aI = some ⟨b, off, none⟩ := eI
        subst eI
        obtain ⟨g0, ⟨ta, tc, g1, _, _, hty⟩, g2, g3, g4⟩ := hcs k hlt
        obtain ⟨x, hx⟩ : ∃ x, Q.it k = x := ⟨_, rfl⟩
        rw [hx] at g0 g1 g2 g3 g4 hty
        obtain ⟨ng, tn, ty, vr, lo, hi⟩ := x
        have I4 := Lib.hid (blk_new W1 #[.bool ng, .slice ta tn tc, .string vr, .int .i64 lo, .int .i64 hi] 80)
        have hb4 := bnew (Below.refl W1.heap.size W1) (.cells #[.bool ng, .slice ta tn tc, .string vr, .int .i64 lo, .int .i64 hi] 80)
        have HTY := Lib.hid (RowRd.later hty hb4)
        have S4 := blk_below S0.out (bcall hb hb4)
        have B4 := blk_below B0.out (bcall hb hb4)
        have p0 := blk_cell S4 (j := 0) rfl
        have p5 := blk_cell B4 (j := 5) rfl
        have HX := Lib.hid hx
        clear hcs hx hty S4 B4
        go_upto_region 6 with fail
        generalize W1.alloc _ = w4 at *
        clear g0 g1 g2 g3 g4
        go_wp2_with (refine wpList_load_row rfl 80 _ rfl W1.heap.size rfl 80 _ (0, 0) _ I4.out Tryd.underlying80 rfl (by kernel_rfl) ?_)
        refine (has_any A cap S ⟨ng, tn, ty, vr, lo, hi⟩ ta tc Q.by_ _ (HS.out.later (bcall hbk hb4)) HTY.out).mono ?_
        rintro e w5 ⟨rfl, hb5⟩
        have hb5' := bcall hb4 hb5
        cases hq : hasB S ⟨ng, tn, ty, vr, lo, hi⟩ Q.by_
        · have HE := Lib.hid (show partB S Q = false by rw [partB, all_no (p := fun i => hasB S (Q.it i) Q.by_) hlt (by rw [HX.out]; exact hq), Bool.and_false])
          go_wp2_with fail
          go_ret
          exact ⟨by rw [HE.out]; rfl, bcall hbk hb5'⟩
        · have HY := Lib.hid (yes_step (p := fun i => hasB S (Q.it i) Q.by_) HN.out (by rw [HX.out]; exact hq))
          go_wp2_with fail
          go_roundw
          case rel => exact ⟨k + 1, by omega, by go_num, HY, bcall hb hb5'⟩
          case measure => simp [intOf]; omega
      · obtain rfl : k = Q.n := by omega
        have HE := Lib.hid (show partB S Q = true by rw [partB, hts, all_yes HN.out]; rfl)
        go_wp2_with fail
        go_ret
        exact ⟨by rw [HE.out]; rfl, hbk⟩
  · have HE := Lib.hid (show partB S Q = false by rw [partB, hts]; rfl)
    go_wp2_with fail
    go_ret
    exact ⟨by rw [HE.out]; rfl, hb0⟩
end Go.Proofs.YtagcbljfaflhoaaDoor

/-
  Several texts in one: AttrOf, Has, SchemaErr, RowSet.
-/
import Derived.Test.YtagcbljfaflhoaaDoorFlw3
import Derived.Deep.RegionWith
import Derived.BigQuiet
import Derived.Test.YtagcbljfaflhoaaDoorFlw0
import Derived.Laws.Rows
import Derived.Laws.Tables
set_option linter.unusedSimpArgs false
set_option linter.unusedVariables false
/-! ### The walks of AttrOf and of the reference's. -/
namespace Go.Proofs.YtagcbljfaflhoaaDoor
open Go.RowKit Go.ChangeShapes Go.WideShapes Go.ChangeAt
/-- The column of a name: the place in the type's attributes, -2 for ts, -1. -/
def attrI (S : Sch) (t : Int) (nm : ByteArray) : Int :=
  if t < 0 ∨ (S.n : Int) ≤ t then -1 else if (nm.toList == [116, 115]) then -2 else if placeI (S.ln t.toNat) (S.atr t.toNat) nm < 8 then placeI (S.ln t.toNat) (S.atr t.toNat) nm else -1
theorem attrI_out {S : Sch} {t : Int} {nm : ByteArray} (h : t < 0 ∨ (S.n : Int) ≤ t) : attrI S t nm = -1 := by simp [attrI, h]
theorem attrI_ts {S : Sch} {k : Nat} {nm : ByteArray} (h : k < S.n) (ht : (nm.toList == [116, 115]) = true) : attrI S k nm = -2 := by
  have : ¬ ((k : Int) < 0 ∨ (S.n : Int) ≤ k) := by omega
  simp only [attrI, if_neg this, ht, if_true]
theorem attrI_in {S : Sch} {k : Nat} {nm : ByteArray} (h : k < S.n) (ht : (nm.toList == [116, 115]) = false) : attrI S k nm = if placeI (S.ln k) (S.atr k) nm < 8 then placeI (S.ln k) (S.atr k) nm else -1 := by
  have : ¬ ((k : Int) < 0 ∨ (S.n : Int) ≤ k) := by omega
  simp only [attrI, if_neg this, ht, Bool.false_eq_true, if_false, Int.toNat_natCast]
set_option maxHeartbeats 400000 in
theorem attrOf_any (A : Option Addr) (cap : Nat) (S : Sch) (t : Int) (nm : ByteArray) (w : World) (h : TypRd w w.heap.size A S) :
    Calls Tryd.prog 107 #[.agg #[.slice A S.n cap], .int .i64 t, .string nm] w fun e w' => e = .returned (.int .i64 (attrI S t nm)) ∧ Below w.heap.size w w' := by
  have hn := h.1
  have HT := Lib.hid h
  clear h
  have HB := bnew (Below.refl w.heap.size w) (.cells #[.slice A S.n cap] 34)
  by_cases h1 : t < 0
  · have HR := Lib.hid (attrI_out (S := S) (nm := nm) (Or.inl h1))
    go_enter Tryd.func107, Tryd.ntmps107
    go_wp2_with fail
    go_ret
    exact ⟨ret_int HR.out.symm, HB⟩
  by_cases h2 : (S.n : Int) ≤ t
  · have HR := Lib.hid (attrI_out (nm := nm) (Or.inr h2))
    go_enter Tryd.func107, Tryd.ntmps107
    go_wp2_with fail
    go_ret
    exact ⟨ret_int HR.out.symm, HB⟩
  obtain ⟨k, rfl⟩ : ∃ k : Nat, t = k := ⟨t.toNat, by omega⟩
  have hk : k < S.n := by omega
  clear h1 h2
  cases hts : (nm.toList == [116, 115])
  · have HTS := Lib.hid hts
    obtain ⟨b, off, rfl, hbl, hcs⟩ := HT.out.2 (by omega)
    obtain ⟨_, aa, ac, c2, hsr⟩ := hcs k hk
    have d2 := (HB.cell (p := ⟨b, off + k * 2 + 1, none⟩) hbl).trans c2
    have HS := Lib.hid (hsr.later HB)
    clear hcs c2 hsr
    have HI := Lib.hid (attrI_in hk HTS.out)
    have hcase : placeI (S.ln k) (S.atr k) nm = -1 ∨ ∃ j : Nat, placeI (S.ln k) (S.atr k) nm = j ∧ (j < 8 ∨ 8 ≤ j) := by
      rcases firstI_or (fun j => (S.atr k j).toList == nm.toList) (S.ln k) with ⟨e, _⟩ | ⟨j, _, e, _⟩
      · exact Or.inl e
      · exact Or.inr ⟨j, e, by omega⟩
    rcases hcase with hi | ⟨j, hi, hj | hj⟩
    all_goals
      rw [hi] at HI
      have HP := Lib.hid hi
      clear hi
      go_enter Tryd.func107, Tryd.ntmps107
      go_wp2_with fail
      refine (placeOf_any aa _ ac _ nm _ HS.out).mono ?_
      rintro e w' ⟨rfl, rfl⟩
      rw [HP.out]
      go_wp2_with fail
      go_ret
      exact ⟨ret_int (by rw [HI.out]; first | rfl | (rw [if_pos (by omega)]) | (rw [if_neg (by omega)])), HB⟩
  · have HR := Lib.hid (attrI_ts hk hts)
    go_enter Tryd.func107, Tryd.ntmps107
    go_wp2_with fail
    go_ret
    exact ⟨ret_int HR.out.symm, HB⟩
set_option maxHeartbeats 400000 in
theorem refAttrOf_any (A : Option Addr) (cap : Nat) (S : Sch) (t : Int) (nm : ByteArray) (w : World) (h : TypRd w w.heap.size A S) :
    Calls Tryd.prog 110 #[.agg #[.slice A S.n cap], .int .i64 t, .string nm] w fun e w' => e = .returned (.int .i64 (attrI S t nm)) ∧ Below w.heap.size w w' := by
  have hn := h.1
  have HT := Lib.hid h
  clear h
  have HB := bnew (Below.refl w.heap.size w) (.cells #[.slice A S.n cap] 34)
  by_cases h1 : t < 0
  · have HR := Lib.hid (attrI_out (S := S) (nm := nm) (Or.inl h1))
    go_enter Tryd.func110, Tryd.ntmps110
    go_wp2_with fail
    go_ret
    exact ⟨ret_int HR.out.symm, HB⟩
  by_cases h2 : (S.n : Int) ≤ t
  · have HR := Lib.hid (attrI_out (nm := nm) (Or.inr h2))
    go_enter Tryd.func110, Tryd.ntmps110
    go_wp2_with fail
    go_ret
    exact ⟨ret_int HR.out.symm, HB⟩
  obtain ⟨k, rfl⟩ : ∃ k : Nat, t = k := ⟨t.toNat, by omega⟩
  have hk : k < S.n := by omega
  clear h1 h2
  cases hts : (nm.toList == [116, 115])
  · have HTS := Lib.hid hts
    obtain ⟨b, off, rfl, hbl, hcs⟩ := HT.out.2 (by omega)
    obtain ⟨_, aa, ac, c2, hsr⟩ := hcs k hk
    have d2 := (HB.cell (p := ⟨b, off + k * 2 + 1, none⟩) hbl).trans c2
    have HS := Lib.hid (hsr.later HB)
    have hln := hsr.1
    clear hcs c2 hsr
    have HI := Lib.hid (attrI_in hk HTS.out)
    generalize hl : S.ln k = n at *
    have HL := Lib.hid hl
    clear hl
    go_enter Tryd.func110, Tryd.ntmps110
    go_wp2_with fail
    go_loop [8] (fun i => ∃ j : Nat, j ≤ n ∧ j ≤ 8 ∧ i = .int .i64 j ∧ Hid (∀ m, m < j → ((S.atr k m).toList == nm.toList) = false)) (fun i => n - (intOf i).toNat)
    case atStart => exact ⟨0, Nat.zero_le _, by omega, rfl, Lib.hid none_zero⟩
    case round =>
      obtain ⟨j, hj, hj8, rfl, HN⟩ := hrel
      by_cases hlt : j < n
      · by_cases h8 : j < 8
        · obtain ⟨b2, off2, rfl, hbl2, hcs2⟩ := HS.out.2 (by omega)
          have c1 := hcs2 j hlt
          clear hcs2
          cases hp : ((S.atr k j).toList == nm.toList)
          all_goals
            have HP := Lib.hid hp
            go_wp2_with fail
          · go_round
            case rel => exact ⟨j + 1, by omega, by omega, by go_num, Lib.hid (none_step (p := fun m => (S.atr k m).toList == nm.toList) HN.out HP.out)⟩
            case measure => simp [intOf]; omega
          · go_ret
            exact ⟨ret_int (by rw [HI.out, placeI, firstI_hit hlt HP.out HN.out, if_pos (by omega)]), HB⟩
        · go_wp2_with fail
          go_ret
          refine ⟨ret_int ?_, HB⟩
          rw [HI.out]
          rcases firstI_or (fun m => (S.atr k m).toList == nm.toList) n with ⟨e, _⟩ | ⟨m, hm, e, hpm, _⟩
          · rw [placeI, e]; rfl
          · have : ¬ m < j := fun h => absurd (hpm.symm.trans (HN.out m h)) (by decide)
            rw [placeI, e, if_neg (by omega)]
      · go_wp2_with fail
        go_ret
        exact ⟨ret_int (by rw [HI.out, placeI, firstI_none (fun m hm => HN.out m (by omega))]; rfl), HB⟩
  · have HR := Lib.hid (attrI_ts hk hts)
    go_enter Tryd.func110, Tryd.ntmps110
    go_wp2_with fail
    go_ret
    exact ⟨ret_int HR.out.symm, HB⟩
end Go.Proofs.YtagcbljfaflhoaaDoor

/-! ### Have all of an item's types an attribute; can a query be partitioned: plain, and the walks of check.has, check.partable. -/
namespace Go.Proofs.YtagcbljfaflhoaaDoor
open Go.RowKit Go.ChangeShapes Go.WideShapes Go.ChangeAt Go.Deep Go.Joins
def colB (S : Sch) (t a : ByteArray) : Bool := attrI S (typeI S t) a != -1
def hasB (S : Sch) (x : Itm) (a : ByteArray) : Bool := allB (fun j => colB S (x.ty j) a) x.tn
def partB (S : Sch) (Q : Qry) : Bool := !(Q.by_.toList == [116, 115]) && allB (fun i => hasB S (Q.it i) Q.by_) Q.n
/-- A schema that is handed in: what a box of it holds. -/
theorem typ_small {w : World} {B : Nat} {A : Option Addr} {S : Sch} (h : TypRd w B A S) : S.n ≤ 9223372036854775807 := by have := h.1; omega
set_option maxRecDepth 100000 in
set_option maxHeartbeats 2000000 in
theorem has_any (A : Option Addr) (cap : Nat) (S : Sch) (x : Itm) (a : Option Addr) (c : Nat) (at_ : ByteArray) (w : World) (hS : TypRd w w.heap.size A S) (h : TxtRd w w.heap.size a x.tn x.ty) :
    Calls Tryd.prog 86 #[.agg #[.slice A S.n cap], .agg (itmArr x (.slice a x.tn c)), .string at_] w fun e w' => e = .returned (.bool (hasB S x at_)) ∧ Below w.heap.size w w' := by
  obtain ⟨ng, tn, ty, vr, lo, hi⟩ := x
  show Calls _ _ #[.agg #[.slice A S.n cap], .agg #[.bool ng, .slice a tn c, .string vr, .int .i64 lo, .int .i64 hi], .string at_] w _
  have hn : tn * 16 ≤ 140737488351232 := h.1
  have hb0 := bnew (bnew (Below.refl w.heap.size w) (.cells #[.slice A S.n cap] 34)) (.cells #[.bool ng, .slice a tn c, .string vr, .int .i64 lo, .int .i64 hi] 80)
  have s0 := blk_alloc (blk_new w #[.slice A S.n cap] 34) (.cells #[.bool ng, .slice a tn c, .string vr, .int .i64 lo, .int .i64 hi] 80)
  have i0 := blk_new (w.alloc (.cells #[.slice A S.n cap] 34)) #[.bool ng, .slice a tn c, .string vr, .int .i64 lo, .int .i64 hi] 80
  rw [World.size_alloc] at i0
  have S0 := Lib.hid s0
  have I0 := Lib.hid i0
  have HT := Lib.hid h
  have HS := Lib.hid hS
  clear h hS s0 i0
  go_enter Tryd.func86, Tryd.ntmps86
  go_upto_region 1 with fail
  generalize (w.alloc _).alloc _ = w0 at *
  have t1 := blk_cell I0.out (j := 1) rfl
  go_wp2_with fail
  go_loopw [12] (fun i wr => ∃ k : Nat, k ≤ tn ∧ i = .int .i64 k ∧ Hid (∀ j, j < k → colB S (ty j) at_ = true) ∧ Below w0.heap.size w0 wr) (fun i _ => tn - (intOf i).toNat)
  case atStart => exact ⟨0, Nat.zero_le _, rfl, Lib.hid (yes_zero (p := fun j => colB S (ty j) at_)), Below.refl _ _⟩
  case round =>
    obtain ⟨k, hk, rfl, HN, hb⟩ := hrel
    obtain ⟨W1, e1⟩ : ∃ W1 : World, W1 = wr := ⟨_, rfl⟩
    subst e1
    have hbk := bcall hb0 hb
    by_cases hlt : k < tn
    · obtain ⟨b, off, rfl, hbl, hcs⟩ := RowRd.spot1 (HT.out.below hbk) (by omega)
      have d1 := hcs k hlt
      have S1 := Lib.hid (blk_below S0.out hb)
      have HS1 := Lib.hid (HS.out.later hbk)
      have x1 := blk_cell S1.out (j := 0) rfl
      obtain ⟨tI, htI⟩ : ∃ tI, typeI S (ty k) = tI := ⟨_, rfl⟩
      obtain ⟨aI, haI⟩ : ∃ aI, attrI S tI at_ = aI := ⟨_, rfl⟩
      have HTI := Lib.hid htI
      have HAI := Lib.hid haI
      have HC := Lib.hid (show colB S (ty k) at_ = (aI != -1) by rw [colB, htI, haI])
      clear hcs htI haI
      go_upto_region 4 with fail
      go_region_with (first | (go_at_call 82; go_loud (refine (typeOf_any A cap S (ty k) _ (HS1.out.drewN 1)).mono ?_); rw [HTI.out]; rintro e w5 ⟨rfl, hb5⟩; have x5 := rd_later (w := W1.drew) x1 hb5; have hb15 := bcall (hb.drew) hb5) | (go_at_call 107; refine (attrOf_any A cap S tI at_ _ ((HS.out.later (bcall hb0 hb15)))).mono ?_; rw [HAI.out]; rintro e w6 ⟨rfl, hb6⟩))
      all_goals
        have hb16 := bcall hb15 hb6
        clear hb5 hb6 hb15 x1 d1
        by_cases hc : aI = -1
        · subst hc
          have HE := Lib.hid (show hasB S ⟨ng, tn, ty, vr, lo, hi⟩ at_ = false from all_no (p := fun j => colB S (ty j) at_) hlt (by show colB S (ty k) at_ = false; rw [HC.out]; rfl))
          go_wp2_with fail
          go_ret
          exact ⟨by rw [HE.out]; rfl, bcall hb0 hb16⟩
        · have hc' : (aI == -1) = false := by rw [beq_eq_false_iff_ne]; exact hc
          have HY := Lib.hid (yes_step (p := fun j => colB S (ty j) at_) HN.out (by show colB S (ty k) at_ = true; rw [HC.out, bne_iff_ne]; exact hc))
          go_wp2_with fail
          go_roundw
          case rel => exact ⟨k + 1, by omega, by go_num, HY, hb16⟩
          case measure => simp [intOf]; omega
    · obtain rfl : k = tn := by omega
      have HE := Lib.hid (show hasB S ⟨ng, k, ty, vr, lo, hi⟩ at_ = true from all_yes HN.out)
      go_wp2_with fail
      go_ret
      exact ⟨by rw [HE.out]; rfl, hbk⟩
set_option maxRecDepth 100000 in
set_option maxHeartbeats 2000000 in
theorem partable_any (A : Option Addr) (cap : Nat) (S : Sch) (V : QryV) (Q : Qry) (w : World) (hS : TypRd w w.heap.size A S) (h : QryRd w w.heap.size V Q) :
    Calls Tryd.prog 60 #[.agg #[.slice A S.n cap], .agg (qryArr V Q)] w fun e w' => e = .returned (.bool (partB S Q)) ∧ Below w.heap.size w w' := by
  obtain ⟨aI, cI, aW, cW, aR, cR⟩ := V
  show Calls _ _ #[.agg #[.slice A S.n cap], .agg #[.slice aI Q.n cI, .int .i64 Q.mode, .int .i64 Q.after, .slice aW Q.wn cW, .int .i64 Q.within, .string Q.by_, .slice aR Q.m cR]] w _
  have hnI := h.rI.small
  have hb0 := bnew (bnew (Below.refl w.heap.size w) (.cells #[.slice A S.n cap] 34)) (.cells #[.slice aI Q.n cI, .int .i64 Q.mode, .int .i64 Q.after, .slice aW Q.wn cW, .int .i64 Q.within, .string Q.by_, .slice aR Q.m cR] 40)
  have s0 := blk_alloc (blk_new w #[.slice A S.n cap] 34) (.cells #[.slice aI Q.n cI, .int .i64 Q.mode, .int .i64 Q.after, .slice aW Q.wn cW, .int .i64 Q.within, .string Q.by_, .slice aR Q.m cR] 40)
  have q0 := blk_new (w.alloc (.cells #[.slice A S.n cap] 34)) #[.slice aI Q.n cI, .int .i64 Q.mode, .int .i64 Q.after, .slice aW Q.wn cW, .int .i64 Q.within, .string Q.by_, .slice aR Q.m cR] 40
  rw [World.size_alloc] at q0
  have S0 := Lib.hid s0
  have B0 := Lib.hid q0
  have HQ := Lib.hid h
  have HS := Lib.hid hS
  clear h hS s0 q0
  go_enter Tryd.func60, Tryd.ntmps60
  go_upto_region 1 with fail
  generalize (w.alloc _).alloc _ = w0 at *
  have x5 := blk_cell B0.out (j := 5) rfl
  have x0 := blk_cell B0.out (j := 0) rfl
  cases hts : (Q.by_.toList == [116, 115])
  · go_wp2_with fail
    go_loopw [13] (fun i wr => ∃ k : Nat, k ≤ Q.n ∧ i = .int .i64 k ∧ Hid (∀ j, j < k → hasB S (Q.it j) Q.by_ = true) ∧ Below w0.heap.size w0 wr) (fun i _ => Q.n - (intOf i).toNat)
    case atStart => exact ⟨0, Nat.zero_le _, rfl, Lib.hid (yes_zero (p := fun j => hasB S (Q.it j) Q.by_)), Below.refl _ _⟩
    case round =>
      obtain ⟨k, hk, rfl, HN, hb⟩ := hrel
      obtain ⟨W1, e1⟩ : ∃ W1 : World, W1 = wr := ⟨_, rfl⟩
      subst e1
      have hbk := bcall hb0 hb
      have HQ1 := Lib.hid (HQ.out.later hbk)
      by_cases hlt : k < Q.n
      · obtain ⟨b, off, eI, hbl, hcs⟩ := HQ1.out.rI.spot (by omega)
        have eI : aI = some ⟨b, off, none⟩ := eI
        subst eI
        obtain ⟨g0, ⟨ta, tc, g1, _, _, hty⟩, g2, g3, g4⟩ := hcs k hlt
        obtain ⟨x, hx⟩ : ∃ x, Q.it k = x := ⟨_, rfl⟩
        rw [hx] at g0 g1 g2 g3 g4 hty
        obtain ⟨ng, tn, ty, vr, lo, hi⟩ := x
        have I4 := Lib.hid (blk_new W1 #[.bool ng, .slice ta tn tc, .string vr, .int .i64 lo, .int .i64 hi] 80)
        have hb4 := bnew (Below.refl W1.heap.size W1) (.cells #[.bool ng, .slice ta tn tc, .string vr, .int .i64 lo, .int .i64 hi] 80)
        have HTY := Lib.hid (RowRd.later hty hb4)
        have S4 := blk_below S0.out (bcall hb hb4)
        have B4 := blk_below B0.out (bcall hb hb4)
        have p0 := blk_cell S4 (j := 0) rfl
        have p5 := blk_cell B4 (j := 5) rfl
        have HX := Lib.hid hx
        clear hcs hx hty S4 B4
        go_upto_region 6 with fail
        generalize W1.alloc _ = w4 at *
        clear g0 g1 g2 g3 g4
        go_wp2_with (refine wpList_load_row rfl 80 _ rfl W1.heap.size rfl 80 _ (0, 0) _ I4.out Tryd.underlying80 rfl (by kernel_rfl) ?_)
        refine (has_any A cap S ⟨ng, tn, ty, vr, lo, hi⟩ ta tc Q.by_ _ (HS.out.later (bcall hbk hb4)) HTY.out).mono ?_
        rintro e w5 ⟨rfl, hb5⟩
        have hb5' := bcall hb4 hb5
        cases hq : hasB S ⟨ng, tn, ty, vr, lo, hi⟩ Q.by_
        · have HE := Lib.hid (show partB S Q = false by rw [partB, all_no (p := fun i => hasB S (Q.it i) Q.by_) hlt (by rw [HX.out]; exact hq), Bool.and_false])
          go_wp2_with fail
          go_ret
          exact ⟨by rw [HE.out]; rfl, bcall hbk hb5'⟩
        · have HY := Lib.hid (yes_step (p := fun i => hasB S (Q.it i) Q.by_) HN.out (by rw [HX.out]; exact hq))
          go_wp2_with fail
          go_roundw
          case rel => exact ⟨k + 1, by omega, by go_num, HY, bcall hb hb5'⟩
          case measure => simp [intOf]; omega
      · obtain rfl : k = Q.n := by omega
        have HE := Lib.hid (show partB S Q = true by rw [partB, hts, all_yes HN.out]; rfl)
        go_wp2_with fail
        go_ret
        exact ⟨by rw [HE.out]; rfl, hbk⟩
  · have HE := Lib.hid (show partB S Q = false by rw [partB, hts]; rfl)
    go_wp2_with fail
    go_ret
    exact ⟨by rw [HE.out]; rfl, hb0⟩
end Go.Proofs.YtagcbljfaflhoaaDoor

/-! ### When a schema is one: the errors, plain. -/
namespace Go.Proofs.YtagcbljfaflhoaaDoor
/-- The first number that is not 0. -/
def firstNZ (e : Nat → Int) (n : Nat) : Int := match (List.range n).find? (fun k => e k != 0) with | some k => e k | none => 0
theorem firstNZ_hit {e : Nat → Int} {n j : Nat} (hj : j < n) (hp : e j ≠ 0) (hn : ∀ k, k < j → e k = 0) : firstNZ e n = e j := by
  have : (List.range n).find? (fun k => e k != 0) = some j := by
    rw [List.find?_eq_some_iff_getElem]
    refine ⟨by simpa using hp, j, by simpa using hj, by simp, fun k hk => ?_⟩
    simp [hn k hk]
  simp [firstNZ, this]
theorem firstNZ_zero {e : Nat → Int} {n : Nat} (hn : ∀ k, k < n → e k = 0) : firstNZ e n = 0 := by
  have : (List.range n).find? (fun k => e k != 0) = none := by
    rw [List.find?_eq_none]
    intro k hk
    rw [hn k (by simpa using hk)]
    simp
  simp [firstNZ, this]
/-- Is the text among the first n? -/
def inB (n : Nat) (f : Nat → ByteArray) (nm : ByteArray) : Bool := (List.range n).any fun k => (f k).toList == nm.toList
theorem inB_hit {n k : Nat} {f : Nat → ByteArray} {nm : ByteArray} (hk : k < n) (h : ((f k).toList == nm.toList) = true) : inB n f nm = true := by
  unfold inB
  rw [List.any_eq_true]
  exact ⟨k, by simpa using hk, h⟩
theorem inB_none {n : Nat} {f : Nat → ByteArray} {nm : ByteArray} (h : ∀ k, k < n → ((f k).toList == nm.toList) = false) : inB n f nm = false := by
  unfold inB
  rw [List.any_eq_false]
  intro k hk
  rw [h k (by simpa using hk)]
  simp
theorem of_inB {n : Nat} {f : Nat → ByteArray} {nm : ByteArray} (h : inB n f nm = false) : ∀ k, k < n → ((f k).toList == nm.toList) = false := by
  intro k hk
  cases hp : ((f k).toList == nm.toList)
  · rfl
  · rw [inB_hit hk hp] at h; cases h
/-- Is it there ahead of itself? -/
def twiceB (f : Nat → ByteArray) (i : Nat) : Bool := inB i f (f i)
theorem place_once {n i : Nat} {f : Nat → ByteArray} (hi : i < n) (h : twiceB f i = false) : placeI n f (f i) = i := firstI_hit hi (beq_self_eq_true _) (of_inB h)
theorem place_twice {n i : Nat} {f : Nat → ByteArray} (hi : i < n) (h : twiceB f i = true) : ∃ k : Nat, k < i ∧ placeI n f (f i) = k := by
  rcases firstI_or (fun k => (f k).toList == (f i).toList) n with ⟨_, hn⟩ | ⟨j, hj, e, hp, hb⟩
  · have := hn i hi
    simp at this
  · refine ⟨j, ?_, e⟩
    rcases Nat.lt_or_ge j i with h1 | h1
    · exact h1
    · have : twiceB f i = false := inB_none fun k hk => hb k (by omega)
      rw [this] at h
      cases h
def attrErr (f : Nat → ByteArray) (j : Nat) : Int := if nameB (f j) = false then 22 else if ((f j).toList == [116, 115]) = true then 22 else if twiceB f j = true then 25 else 0
def typeErr (S : Sch) (i : Nat) : Int := if nameB (S.nm i) = false then 22 else if twiceB S.nm i = true then 25 else if 8 < S.ln i then 24 else firstNZ (attrErr (S.atr i)) (S.ln i)
def schErr (S : Sch) : Int := if S.n = 0 ∨ 16 < S.n then 23 else firstNZ (typeErr S) S.n
section
variable {f : Nat → ByteArray} {j i : Nat} {S : Sch}
theorem attrErr_name (h : nameB (f j) = false) : attrErr f j = 22 := by simp [attrErr, h]
theorem attrErr_ts (h : nameB (f j) = true) (h2 : ((f j).toList == [116, 115]) = true) : attrErr f j = 22 := by simp only [attrErr, h, h2, if_true]; rfl
theorem attrErr_twice (h : nameB (f j) = true) (h2 : ((f j).toList == [116, 115]) = false) (h3 : twiceB f j = true) : attrErr f j = 25 := by simp only [attrErr, h, h2, h3, if_true]; rfl
theorem attrErr_ok (h : nameB (f j) = true) (h2 : ((f j).toList == [116, 115]) = false) (h3 : twiceB f j = false) : attrErr f j = 0 := by simp only [attrErr, h, h2, h3]; rfl
theorem typeErr_name (h : nameB (S.nm i) = false) : typeErr S i = 22 := by simp [typeErr, h]
theorem typeErr_twice (h : nameB (S.nm i) = true) (h2 : twiceB S.nm i = true) : typeErr S i = 25 := by simp [typeErr, h, h2]
theorem typeErr_many (h : nameB (S.nm i) = true) (h2 : twiceB S.nm i = false) (h3 : 8 < S.ln i) : typeErr S i = 24 := by simp [typeErr, h, h2, h3]
theorem typeErr_rest (h : nameB (S.nm i) = true) (h2 : twiceB S.nm i = false) (h3 : ¬ 8 < S.ln i) : typeErr S i = firstNZ (attrErr (S.atr i)) (S.ln i) := by simp [typeErr, h, h2, h3]
theorem schErr_n (h : S.n = 0 ∨ 16 < S.n) : schErr S = 23 := by simp [schErr, h]
theorem schErr_rest (h : 0 < S.n) (h2 : S.n ≤ 16) : schErr S = firstNZ (typeErr S) S.n := by
  have : ¬ (S.n = 0 ∨ 16 < S.n) := by omega
  simp only [schErr, if_neg this]
/-- What is a schema. -/
theorem sch_zero (h : schErr S = 0) : 0 < S.n ∧ S.n ≤ 16 ∧ ∀ i, i < S.n → nameB (S.nm i) = true ∧ twiceB S.nm i = false ∧ S.ln i ≤ 8 ∧ ∀ j, j < S.ln i → nameB (S.atr i j) = true ∧ ((S.atr i j).toList == [116, 115]) = false ∧ twiceB (S.atr i) j = false := by
  by_cases hn : S.n = 0 ∨ 16 < S.n
  · rw [schErr_n hn] at h; cases h
  rw [schErr_rest (by omega) (by omega)] at h
  have nz : ∀ {e : Nat → Int} {n : Nat}, firstNZ e n = 0 → ∀ k, k < n → e k = 0 := by
    intro e n h0 k hk
    cases hf : (List.range n).find? (fun k => e k != 0) with
    | none => simpa using List.find?_eq_none.1 hf k (by simpa using hk)
    | some q =>
      have h1 := List.find?_some hf
      simp only [firstNZ, hf] at h0
      simp [h0] at h1
  refine ⟨by omega, by omega, fun i hi => ?_⟩
  have h1 := nz h i hi
  cases hq : nameB (S.nm i)
  · rw [typeErr_name hq] at h1; cases h1
  cases hr : twiceB S.nm i
  · by_cases h8 : 8 < S.ln i
    · rw [typeErr_many hq hr h8] at h1; cases h1
    rw [typeErr_rest hq hr h8] at h1
    refine ⟨rfl, rfl, by omega, fun j hj => ?_⟩
    have h2 := nz h1 j hj
    cases ha : nameB (S.atr i j)
    · rw [attrErr_name ha] at h2; cases h2
    cases hb : ((S.atr i j).toList == [116, 115])
    · cases hc : twiceB (S.atr i) j
      · exact ⟨rfl, rfl, rfl⟩
      · rw [attrErr_twice ha hb hc] at h2; cases h2
    · rw [attrErr_ts ha hb] at h2; cases h2
  · rw [typeErr_twice hq hr] at h1; cases h1
end
end Go.Proofs.YtagcbljfaflhoaaDoor

/-! ### A whole struct stored into its block. -/
namespace Go.Proofs.YtagcbljfaflhoaaDoor
open Go.RowKit Go.ChangeShapes Go.WideShapes Go.ChangeAt Go.Deep Go.Joins
theorem below_setRow {B g : Nat} {w w' : World} {cs : Array Value} (h : Below B w w') (hg : B ≤ g) : Below B w (w'.setRow g cs) := by
  refine ⟨h.os, h.tape, h.output, ?_, fun b hb => ?_⟩
  · have : (w'.setRow g cs).heap.size = w'.heap.size := by simp [World.setRow]
    rw [this]
    exact h.size
  · have : (w'.setRow g cs).heap[b]? = w'.heap[b]? := by
      simp only [World.setRow, Array.getElem?_modify]
      rw [if_neg (by omega)]
    rw [this]
    exact h.block b hb
theorem row_set {w : World} {g : Nat} {old : Array Value} {T : TypeId} {fr : Nat × Nat} (h : w.heap[g]? = some (.cells old T fr)) (cs : Array Value) : (w.setRow g cs).heap[g]? = some (.cells cs T fr) := by
  simp [World.setRow, Array.getElem?_modify, h]
theorem row_other {w : World} {g b : Nat} {cs old : Array Value} {T : TypeId} {fr : Nat × Nat} (h : w.heap[b]? = some (.cells old T fr)) (hg : g ≠ b) : (w.setRow g cs).heap[b]? = some (.cells old T fr) := by
  simp only [World.setRow, Array.getElem?_modify]
  rw [if_neg hg]
  exact h
/-- A row stays while a block of another type is stored whole. -/
theorem own_row {w : World} {B n sz b : Nat} {e T : TypeId} {v : Value} {xs : List Value} {cs : Array Value} {fr : Nat × Nat} (h : w.ownsRow B e sz v n xs) (hb : w.heap[b]? = some (.cells cs T fr)) (hT : T ≠ e) (new : Array Value) :
    (w.setRow b new).ownsRow B e sz v n xs := by
  refine h.kept (row := some b) ⟨rfl, rfl, rfl, by simp [World.setRow], fun k _ hk => ?_⟩ (Or.inr fun hv => ?_)
  · simp only [World.setRow, Array.getElem?_modify]
    rw [if_neg (fun e => hk (by rw [e]))]
  · obtain ⟨c, fz, h1⟩ := Lib.ownsRow_kind h b hv
    rw [h1] at hb
    injection hb with hb
    injection hb with _ hb
    exact hT hb.symm
end Go.Proofs.YtagcbljfaflhoaaDoor

/-
  The walk of node: a subtree is written.
-/
import Derived.Test.YtfcdkadblagijaaDoorWriter3
set_option linter.unusedSimpArgs false
set_option linter.unusedVariables false
namespace Go.Proofs.YtfcdkadblagijaaDoor
open Go.RowKit Go.ChangeShapes Go.WideShapes Go.ChangeAt Go.Deep Go.Joins
/-- What a piece of the writer's work ends with. -/
def NdPost (B R : Nat) (w : World) (L : List Tk) (o d : Nat) (P : List Tk) (p : Nat) (e : Ending) (w' : World) : Prop :=
  e = .returned (.tuple #[]) ∧ Stw B w w' ∧ ∃ L' d' v', WrS w' B R L' o d' v' ∧ Wrote L L' d d' o P p
/-- Node i is written, whatever stands ahead. -/
def NodeAt (w0 : World) (A : Option Addr) (n c : Nat) (i : Nat) (least : Int) (sz bl bo : Nat) (P : List Tk) (p : Nat) : Prop :=
  ∀ (R : Nat) (w : World) (L : List Tk) (o d : Nat) (v : Value), WrS w w0.heap.size R L o d v → Below w0.heap.size w0 w → L.length + 8 * sz ≤ bl → o + 2 * sz ≤ bo → d ≤ 900001 → o ≤ d →
    Calls Tryd.prog 21 #[.pointer (some ⟨R, 0, none⟩), .slice A n c, .int .i64 i, .int .i64 least] w (NdPost w0.heap.size R w L o d P p)
theorem lev_range {o : Int} (h1 : 1 ≤ o) (h2 : o ≤ 26) : 1 ≤ lev o ∧ lev o ≤ 8 := by
  unfold lev
  split
  · omega
  · have hj : (o - 12).toNat < 15 := by omega
    generalize (o - 12).toNat = j at hj
    have : ∀ j, j < 15 → 1 ≤ levL.getD j 0 ∧ levL.getD j 0 ≤ 8 := by decide
    exact this j hj
set_option maxRecDepth 100000 in
set_option maxHeartbeats 4000000 in
theorem node_bracket (w0 : World) (A : Option Addr) (n c : Nat) (f : Nat → Nod) (HT : NodRd w0 w0.heap.size A n f) (HV : LevV w0) (i : Nat) (hi : i < n) (h1 : 1 ≤ (f i).op) (h2 : (f i).op ≤ 26) (least : Int) (hle : lev (f i).op < least) (hl9 : least ≤ 9) (sz : Nat) (P : List Tk) (p : Nat) (hP : P.length + 2 ≤ 8 * sz) (hp : p + 1 ≤ 2 * sz)
    (hU : NodeAt w0 A n c i 0 sz 900002 900001 P p) : NodeAt w0 A n c i least sz 900000 900000 (mkT 3 :: (P ++ [mkT 4])) (p + 1) := by
  intro R w L o d v hW hb hL ho hd hod
  have HW := Lib.hid hW
  have HU := Lib.hid hU
  have hn := HT.small
  have HTT := Lib.hid HT
  have hBw : w0.heap.size ≤ w.heap.size := hb.size
  clear hW hU HT
  by_cases hfull : 400 < L.length
  · go_enter Tryd.func21, Tryd.ntmps21
    go_wp2_with fail
    refine (full_any w0.heap.size R L o d v _ HW.out).mono ?_
    rintro e w1 ⟨rfl, rfl⟩
    rw [decide_eq_true hfull]
    go_wp2_with fail
    go_end0
    exact ⟨rfl, Stw.refl _ _, L, d, v, HW.out, Wrote.full hfull _ _⟩
  · obtain ⟨b, off, rfl, hbl, hcs⟩ := HTT.out.spot (by omega)
    obtain ⟨c0, c1, c2, c3, c4, c5⟩ := hcs i hi
    have d0 := (hb.cell (p := ⟨b, off + i * 6, none⟩) hbl).trans c0
    have d1 := (hb.cell (p := ⟨b, off + i * 6 + 1, none⟩) hbl).trans c1
    have d2 := (hb.cell (p := ⟨b, off + i * 6 + 2, none⟩) hbl).trans c2
    have d3 := (hb.cell (p := ⟨b, off + i * 6 + 3, none⟩) hbl).trans c3
    have d4 := (hb.cell (p := ⟨b, off + i * 6 + 4, none⟩) hbl).trans c4
    have d5 := (hb.cell (p := ⟨b, off + i * 6 + 5, none⟩) hbl).trans c5
    clear hcs c0 c1 c2 c3 c4 c5
    obtain ⟨x, hx⟩ : ∃ x, f i = x := ⟨_, rfl⟩
    rw [hx] at d0 d1 d2 d3 d4 d5 h1 h2 hle
    clear hx
    obtain ⟨op, nn, vr, at_, a, b2⟩ := x
    dsimp only at d0 d1 d2 d3 d4 d5 h1 h2 hle
    have hb1 := bnew hb (.cells #[.int .i64 op, .int .i64 nn, .string vr, .string at_, .int .i64 a, .int .i64 b2] 44)
    have S1 := Lib.hid (Stw.of (bnew (Below.refl _ _) (.cells #[.int .i64 op, .int .i64 nn, .string vr, .string at_, .int .i64 a, .int .i64 b2] 44)) hBw)
    have H1 := Lib.hid (HW.out.below (bnew (Below.refl _ _) (.cells #[.int .i64 op, .int .i64 nn, .string vr, .string at_, .int .i64 a, .int .i64 b2] 44)))
    have B1 := Lib.hid (blk_new w #[.int .i64 op, .int .i64 nn, .string vr, .string at_, .int .i64 a, .int .i64 b2] 44)
    go_enter Tryd.func21, Tryd.ntmps21
    go_wp2_with fail
    refine (full_any w0.heap.size R L o d v _ HW.out).mono ?_
    rintro e w1 ⟨rfl, e1⟩
    obtain rfl := e1.symm
    rw [decide_eq_false hfull]
    go_upto_region 2 with fail
    generalize w.alloc _ = w1 at *
    clear d0 d1 d2 d3 d4 d5
    obtain ⟨z0, z1, z2, z3, z4, z5⟩ := blk6 B1.out
    have hlr := lev_range h1 h2
    go_wp2_with fail
    refine (level_any op h1 h2 _ (HV.later hb1)).mono ?_
    rintro e w2 ⟨rfl, e1⟩
    obtain rfl := e1.symm
    obtain ⟨l, hl⟩ : ∃ l, lev op = l := ⟨_, rfl⟩
    rw [hl] at hle hlr
    rw [hl]
    clear hl
    go_wp2_with fail
    refine (mark_any 3 _).mono ?_
    rintro e w2 ⟨rfl, hb2⟩
    have S2 := Lib.hid (S1.out.trans (Stw.of hb2 hb1.size))
    have H2 := Lib.hid (H1.out.below hb2)
    go_wp2_with fail
    refine (enter_any w0.heap.size R L o d v 3 0 ⟨#[]⟩ _ H2.out (by omega) (by omega) (by omega)).mono ?_
    rintro e w3 ⟨rfl, hs3, v3, h3⟩
    have S3 := Lib.hid (S2.out.trans hs3)
    have H3 := Lib.hid h3
    clear h3 hs3 hb2 H2 z0 z1 z2 z3 z4 z5
    go_wp2_with fail
    refine (HU.out R w3 (L ++ [⟨3, ⟨#[]⟩, 0⟩]) (o + 1) (max d (o + 1)) v3 H3.out (hb.trans S3.out.below) (by simp; omega) (by omega) (by omega) (by omega)).mono ?_
    rintro e w4 ⟨rfl, hs4, L4, d4, v4, h4, hw4⟩
    have S4 := Lib.hid (S3.out.trans hs4)
    have H4 := Lib.hid h4
    have HWR := Lib.hid hw4
    have hl4 : L4.length ≤ L.length + 1 + P.length := by have := hw4.1; simpa using this
    clear h4 hw4 hs4 H3
    go_wp2_with fail
    refine (mark_any 4 _).mono ?_
    rintro e w5 ⟨rfl, hb5⟩
    have hb6 := bnew hb5 (.cells #[.int .i64 4, .string ⟨#[]⟩, .int .i64 0, .int .i64 0] 62)
    have S6 := Lib.hid (S4.out.trans (Stw.of hb6 (Nat.le_trans hBw S4.out.size)))
    have H6 := Lib.hid (H4.out.below hb6)
    have HR6 := Lib.hid (tkRd_blk (M := [mkT 4]) (blk_new w5 #[.int .i64 4, .string ⟨#[]⟩, .int .i64 0, .int .i64 0] 62) rfl)
    go_wp2_with fail
    refine (leave_any w0.heap.size R L4 [mkT 4] o d4 v4 _ 1 _ H6.out HR6.out (fun h => by cases h) (by simp; omega) (by omega)).mono ?_
    rintro e w7 ⟨rfl, hs7, v7, h7⟩
    have HF := Lib.hid (show NdPost w0.heap.size R w L o d (mkT 3 :: (P ++ [mkT 4])) (p + 1) (.returned (.tuple #[])) w7 from ⟨rfl, S6.out.trans hs7, _, _, _, h7, HWR.out.deep hod⟩)
    clear h7 hs7
    go_wp2_with fail
    go_end0
    exact HF.out
end Go.Proofs.YtfcdkadblagijaaDoor

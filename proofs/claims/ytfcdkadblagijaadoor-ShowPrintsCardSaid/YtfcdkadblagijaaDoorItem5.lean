/-
  The walk of the writer's item.
-/
import Derived.Test.YtfcdkadblagijaaDoorPrintP
import Derived.Deep.CutRange
set_option linter.unusedSimpArgs false
set_option linter.unusedVariables false
namespace Go.Proofs.YtfcdkadblagijaaDoor
open Go.RowKit Go.ChangeShapes Go.WideShapes Go.ChangeAt Go.Deep Go.Joins
/-- The writer has come from w to wx, with the tokens L. -/
def At5 (B R : Nat) (w wx : World) (L : List Tk) (d : Nat) : Prop := Stw B w wx ∧ ∃ v, WrS wx B R L 0 d v
theorem typesT_split (ty : Nat → ByteArray) {k n : Nat} (hk : 0 < k) : k < n → ∃ r, typesT ty n = typesT ty k ++ mkT 10 :: r := by
  induction n with
  | zero => intro h; omega
  | succ n ih =>
    intro h
    by_cases e : k = n
    · subst e
      exact ⟨[nmT (ty k)], by rw [typesT_succ ty k hk]⟩
    · obtain ⟨r, hr⟩ := ih (by omega)
      exact ⟨r ++ [mkT 10, nmT (ty n)], by rw [typesT_succ ty n (by omega), hr]; simp⟩
theorem typesT_zero (ty : Nat → ByteArray) {n : Nat} (h : 0 < n) : ∃ r, typesT ty n = nmT (ty 0) :: r := by
  by_cases e : n = 1
  · subst e; exact ⟨[], rfl⟩
  · obtain ⟨r, hr⟩ := typesT_split ty (k := 1) (n := n) (by omega) (by omega)
    exact ⟨mkT 10 :: r, by rw [hr]; rfl⟩
def opT (x : Itm) : List Tk := if 1 < x.tn then [mkT 3] else []
def clT (x : Itm) : List Tk := if 1 < x.tn then [mkT 4] else []
theorem typedT_eq (x : Itm) : typedT x = opT x ++ (typesT x.ty x.tn ++ clT x) := by
  unfold typedT opT clT
  split <;> simp
/-- Where a piece of the item has been written: P since L, at most m tokens. -/
def ItAt (B R : Nat) (w : World) (L : List Tk) (d ib : Nat) (cs : Array Value) (P : List Tk) (m : Nat) (wx : World) : Prop :=
  ∃ L1, At5 B R w wx L1 d ∧ Wrote L L1 d d 0 P 0 ∧ L1.length ≤ m ∧ wx.heap[ib]? = some (.cells cs 41 (0, 0))
theorem ItAt.add {B R : Nat} {w wm w3 : World} {L L1 Q P : List Tk} {d ib m : Nat} {cs : Array Value} (hs : Stw B w wm) (hw : Wrote L L1 d d 0 P 0) (hl : L1.length ≤ m) (hi : wm.heap[ib]? = some (.cells cs 41 (0, 0))) (h3 : Stw B wm w3) (hv : ∃ v, WrS w3 B R (L1 ++ Q) 0 d v) (e1 : 41 ≠ 62) (e2 : 41 ≠ 53) :
    ItAt B R w L d ib cs (P ++ Q) (m + Q.length) w3 :=
  ⟨L1 ++ Q, ⟨hs.trans h3, hv⟩, hw.put (Nat.zero_le _) Q, by rw [List.length_append]; omega, h3.keep _ _ _ _ hi e1 e2⟩
/-- What item ends with. -/
def ItEnd (B R : Nat) (w : World) (L : List Tk) (d : Nat) (P : List Tk) (e : Ending) (w' : World) : Prop :=
  e = .returned (.tuple #[]) ∧ Stw B w w' ∧ ∃ L' v', WrS w' B R L' 0 d v' ∧ Wrote L L' d d 0 P 0 ∧ L'.length ≤ 520
theorem ItAt.fin {B R : Nat} {w wx : World} {L P Q : List Tk} {d ib m : Nat} {cs : Array Value} (h : ItAt B R w L d ib cs P m wx) (hm : m ≤ 520) (e : P = Q) : ItEnd B R w L d Q (.returned (.tuple #[])) wx := by
  subst e
  obtain ⟨L1, ⟨hs, v, hv⟩, hw, hl, _⟩ := h
  exact ⟨rfl, hs, L1, v, hv, hw, by omega⟩
theorem ItAt.full {B R : Nat} {w wx : World} {L L1 P Q r : List Tk} {d : Nat} {v : Value} (hs : Stw B w wx) (hv : WrS wx B R L1 0 d v) (hw : Wrote L L1 d d 0 P 0) (hf : 400 < L1.length) (hl : L1.length ≤ 520) (e : P ++ r = Q) : ItEnd B R w L d Q (.returned (.tuple #[])) wx := by
  subst e
  exact ⟨rfl, hs, L1, v, hv, by have := hw.more hf r 0; rwa [Nat.max_zero] at this, hl⟩
theorem ItAt.more {B R : Nat} {w wx : World} {L P Q : List Tk} {d ib m m' : Nat} {cs : Array Value} (h : ItAt B R w L d ib cs P m wx) (hm : m ≤ m') (e : P = Q) : ItAt B R w L d ib cs Q m' wx := by
  subst e
  obtain ⟨L1, h1, hw, hl, hi⟩ := h
  exact ⟨L1, h1, hw, by omega, hi⟩
theorem itS {w : World} {ib : Nat} {ng : Bool} {v : Value} {vr : ByteArray} {lo hi : Int} {T : TypeId} (h : w.heap[ib]? = some (.cells #[.bool ng, v, .string vr, .int .i64 lo, .int .i64 hi] T (0, 0))) :
    w.heap[ib]? = some (.cells #[.bool ng, v, .string vr, .int .i64 lo, .int .i64 hi] T (0, 0)) ∧ w.cell? ⟨ib, 2, none⟩ = some (.string vr) ∧ w.cell? ⟨ib, 3, none⟩ = some (.int .i64 lo) ∧ w.cell? ⟨ib, 4, none⟩ = some (.int .i64 hi) :=
  ⟨h, blk_cell h rfl, blk_cell h rfl, blk_cell h rfl⟩
theorem ItAt.below {B R : Nat} {w wx : World} {L P : List Tk} {d ib m : Nat} {cs : Array Value} (h : ItAt B R w L d ib cs P m wx) : Below B w wx := by
  obtain ⟨L1, ⟨hs, _⟩, _⟩ := h
  exact hs.below
set_option maxRecDepth 100000 in
set_option maxHeartbeats 8000000 in
theorem item_any (B R : Nat) (L : List Tk) (d : Nat) (v : Value) (neg : Bool) (tn : Nat) (ty : Nat → ByteArray) (vr : ByteArray) (lo hi : Int) (aa : Option Addr) (ac : Nat) (w : World) (h : WrS w B R L 0 d v) (hr : TxtRd w B aa tn ty) (h0 : 0 < tn) (hL : L.length ≤ 450) :
    Calls Tryd.prog 28 #[.pointer (some ⟨R, 0, none⟩), .agg #[.bool neg, .slice aa tn ac, .string vr, .int .i64 lo, .int .i64 hi]] w (ItEnd B R w L d (itemT ⟨neg, tn, ty, vr, lo, hi⟩)) := by
  have hBw : B ≤ w.heap.size := by have := h.hB; have := h.lt; omega
  obtain ⟨b, off, rfl, hbl, _⟩ := RowRd.spot1 hr h0
  have hb0 := bnew (Below.refl w.heap.size w) (.cells #[.bool neg, .slice (some ⟨b, off, none⟩) tn ac, .string vr, .int .i64 lo, .int .i64 hi] 41)
  obtain ⟨ib, hib⟩ : ∃ ib, w.heap.size = ib := ⟨_, rfl⟩
  have A0 := Lib.hid (show ItAt B R w L d w.heap.size #[.bool neg, .slice (some ⟨b, off, none⟩) tn ac, .string vr, .int .i64 lo, .int .i64 hi] [] 450 (w.alloc (.cells #[.bool neg, .slice (some ⟨b, off, none⟩) tn ac, .string vr, .int .i64 lo, .int .i64 hi] 41)) from ⟨L, ⟨Stw.of hb0 hBw, v, h.below hb0⟩, Wrote.none (Nat.zero_le _), hL, blk_new w #[.bool neg, .slice (some ⟨b, off, none⟩) tn ac, .string vr, .int .i64 lo, .int .i64 hi] 41⟩)
  have HR := Lib.hid hr
  have htn := hr.1
  rw [hib] at A0
  have hBw0 := hBw
  clear h hr hb0
  go_enter Tryd.func28, Tryd.ntmps28
  go_upto_region 1 with fail
  try rw [hib]
  clear hib
  generalize w.alloc _ = w0 at *
  have c0 : w0.cell? ⟨ib, 0, none⟩ = some (.bool neg) := by obtain ⟨_, _, _, _, hi0⟩ := A0.out; exact blk_cell hi0 rfl
  go_upto_if 7 with fail
  go_cut [] from 6 to 95 (fun wx => Hid (ItAt B R w L d ib #[.bool neg, .slice (some ⟨b, off, none⟩) tn ac, .string vr, .int .i64 lo, .int .i64 hi] (negT ⟨neg, tn, ty, vr, lo, hi⟩) 451 wx))
  case first =>
    cases neg
    · go_wp2_with fail
      go_meet
      exact Lib.hid (A0.out.more (by omega) rfl)
    · clear c0
      go_wp2_with fail
      refine (mark_any 9 _).mono ?_
      rintro e w1 ⟨rfl, hb1⟩
      have hb2 := bnew hb1 (.cells #[.int .i64 9, .string ⟨#[]⟩, .int .i64 0, .int .i64 0] 62)
      have T2 := Lib.hid (blk_new w1 #[.int .i64 9, .string ⟨#[]⟩, .int .i64 0, .int .i64 0] 62)
      obtain ⟨L1, ⟨hs0, v0, h0w⟩, hw0, hl0, hi0⟩ := A0.out
      have H2 := Lib.hid (h0w.below hb2)
      have S2 := Lib.hid (hs0.trans (Stw.of hb2 (Nat.le_trans hBw hs0.size)))
      have I2 := Lib.hid (blk_below hi0 hb2)
      have W2 := Lib.hid hw0
      clear h0w hs0 hi0 hw0
      go_wp2_with fail
      refine (add1_any B R L1 0 d v0 9 0 ⟨#[]⟩ w1.heap.size _ H2.out T2.out (by omega)).mono ?_
      rintro e w3 ⟨rfl, hs3, hv3⟩
      have AA := Lib.hid (ItAt.add (Q := [⟨9, ⟨#[]⟩, 0⟩]) S2.out W2.out hl0 I2.out hs3 hv3 (by decide) (by decide))
      clear hs3 hv3 H2 S2 I2 W2 T2 hb1 hb2 hl0
      go_wp2_with fail
      go_meet
      exact Lib.hid (AA.out.more (by decide) rfl)
  case rest =>
  clear A0 c0
  have A1 := hcut
  clear hcut
  obtain ⟨wa, ewa⟩ : ∃ W1 : World, W1 = wc := ⟨_, rfl⟩
  subst ewa
  have c1 : wa.cell? ⟨ib, 1, none⟩ = some (.slice (some ⟨b, off, none⟩) tn ac) := by obtain ⟨_, _, _, _, hi0⟩ := A1.out; exact blk_cell hi0 rfl
  go_upto_if 15 with fail
  go_cut [] from 6 to 95 (fun wx => Hid (ItAt B R w L d ib #[.bool neg, .slice (some ⟨b, off, none⟩) tn ac, .string vr, .int .i64 lo, .int .i64 hi] (negT ⟨neg, tn, ty, vr, lo, hi⟩ ++ opT ⟨neg, tn, ty, vr, lo, hi⟩) 452 wx))
  case first =>
    by_cases ht1 : 1 < tn
    · have ht1i : (1 : Int) < (tn : Int) := by omega
      clear c1
      go_wp2_with fail
      refine (mark_any 3 _).mono ?_
      rintro e w1 ⟨rfl, hb1⟩
      have hb2 := bnew hb1 (.cells #[.int .i64 3, .string ⟨#[]⟩, .int .i64 0, .int .i64 0] 62)
      have T2 := Lib.hid (blk_new w1 #[.int .i64 3, .string ⟨#[]⟩, .int .i64 0, .int .i64 0] 62)
      obtain ⟨L1, ⟨hs0, v0, h0w⟩, hw0, hl0, hi0⟩ := A1.out
      have H2 := Lib.hid (h0w.below hb2)
      have S2 := Lib.hid (hs0.trans (Stw.of hb2 (Nat.le_trans hBw hs0.size)))
      have I2 := Lib.hid (blk_below hi0 hb2)
      have W2 := Lib.hid hw0
      clear h0w hs0 hi0 hw0
      go_wp2_with fail
      refine (add1_any B R L1 0 d v0 3 0 ⟨#[]⟩ w1.heap.size _ H2.out T2.out (by omega)).mono ?_
      rintro e w3 ⟨rfl, hs3, hv3⟩
      have AA := Lib.hid (ItAt.add (Q := [⟨3, ⟨#[]⟩, 0⟩]) S2.out W2.out hl0 I2.out hs3 hv3 (by decide) (by decide))
      clear hs3 hv3 H2 S2 I2 W2 T2 hb1 hb2 hl0
      go_wp2_with fail
      go_meet
      exact Lib.hid (AA.out.more (by decide) (by unfold opT; rw [if_pos ht1]; rfl))
    · have ht1i : (tn : Int) ≤ 1 := by omega
      clear c1
      go_wp2_with fail
      go_meet
      exact Lib.hid (A1.out.more (by omega) (by unfold opT; rw [if_neg ht1]; simp))
  case rest =>
  clear A1 c1
  have A2 := hcut
  clear hcut
  obtain ⟨wb, ewb⟩ : ∃ W1 : World, W1 = wc := ⟨_, rfl⟩
  subst ewb
  have c1 : wb.cell? ⟨ib, 1, none⟩ = some (.slice (some ⟨b, off, none⟩) tn ac) := by obtain ⟨_, _, _, _, hi0⟩ := A2.out; exact blk_cell hi0 rfl
  go_wp2_with fail
  clear c1
  go_loopw [23] (fun i wr => ∃ k : Nat, k ≤ tn ∧ i = .int .i64 k ∧ Hid (ItAt B R w L d ib #[.bool neg, .slice (some ⟨b, off, none⟩) tn ac, .string vr, .int .i64 lo, .int .i64 hi] (negT ⟨neg, tn, ty, vr, lo, hi⟩ ++ opT ⟨neg, tn, ty, vr, lo, hi⟩ ++ typesT ty k) 452 wr)) (fun i _ => tn - (intOf i).toNat)
  case atStart => exact ⟨0, Nat.zero_le _, rfl, Lib.hid (A2.out.more (by omega) (by simp [typesT]))⟩
  case round =>
    obtain ⟨k, hk, rfl, HA⟩ := hrel
    obtain ⟨W1, e1⟩ : ∃ W1 : World, W1 = wr := ⟨_, rfl⟩
    subst e1
    by_cases hlt : k < tn
    · obtain ⟨b', off', eA, _, hcs⟩ := RowRd.spot1 (RowRd.below HR.out HA.out.below) (by omega)
      injection eA with eA
      injection eA with eA eB
      subst eA eB
      have d1 := hcs k hlt
      clear hcs
      have hlti : (k : Int) < (tn : Int) := by omega
      go_upto_if 29 with fail
      go_cut [] from 28 to 40 (fun wx => Hid (ItAt B R w L d ib #[.bool neg, .slice (some ⟨b, off, none⟩) tn ac, .string vr, .int .i64 lo, .int .i64 hi] (negT ⟨neg, tn, ty, vr, lo, hi⟩ ++ opT ⟨neg, tn, ty, vr, lo, hi⟩ ++ (typesT ty k ++ if k = 0 then [] else [mkT 10])) 453 wx))
      case first =>
        by_cases hk0 : 0 < k
        rotate_left
        · have HK0 := Lib.hid hk0
          go_wp2_with fail
          go_meet
          exact Lib.hid (HA.out.more (by omega) (by rw [if_pos (show k = 0 by have := HK0.out; omega), List.append_nil]))
        · have hk0i : (0 : Int) < (k : Int) := by omega
          clear d1
          go_wp2_with fail
          refine (mark_any 10 _).mono ?_
          rintro e w1 ⟨rfl, hb1⟩
          have hb2 := bnew hb1 (.cells #[.int .i64 10, .string ⟨#[]⟩, .int .i64 0, .int .i64 0] 62)
          have T2 := Lib.hid (blk_new w1 #[.int .i64 10, .string ⟨#[]⟩, .int .i64 0, .int .i64 0] 62)
          obtain ⟨L1, ⟨hs0, v0, h0w⟩, hw0, hl0, hi0⟩ := HA.out
          have H2 := Lib.hid (h0w.below hb2)
          have S2 := Lib.hid (hs0.trans (Stw.of hb2 (Nat.le_trans hBw hs0.size)))
          have I2 := Lib.hid (blk_below hi0 hb2)
          have W2 := Lib.hid hw0
          clear h0w hs0 hi0 hw0
          go_wp2_with fail
          refine (add1_any B R L1 0 d v0 10 0 ⟨#[]⟩ w1.heap.size _ H2.out T2.out (by omega)).mono ?_
          rintro e w3 ⟨rfl, hs3, hv3⟩
          have AA := Lib.hid (ItAt.add (Q := [⟨10, ⟨#[]⟩, 0⟩]) S2.out W2.out hl0 I2.out hs3 hv3 (by decide) (by decide))
          clear hs3 hv3 H2 S2 I2 W2 T2 hb1 hb2 hl0
          go_wp2_with fail
          go_meet
          exact Lib.hid (AA.out.more (by decide) (by rw [if_neg (show ¬ k = 0 by omega)]; simp [mkT]))
      case rest =>
      clear d1
      obtain ⟨L2, ⟨hs2, v2, h2w⟩, hw2, hl2, hi2⟩ := hcut.out
      have H2 := Lib.hid h2w
      have W2 := Lib.hid hw2
      have S2 := Lib.hid hs2
      have I2 := Lib.hid hi2
      clear h2w hw2 hs2 hi2
      go_wp2_with fail
      refine (full_any B R L2 0 d v2 _ H2.out).mono ?_
      rintro e w7 ⟨rfl, rfl⟩
      by_cases hf : 400 < L2.length
      · rw [decide_eq_true hf]
        go_wp2_with fail
        go_end0
        rcases Nat.eq_zero_or_pos k with rfl | hk0
        · exact ItAt.full S2.out H2.out W2.out hf (by omega) (r := typesT ty tn ++ clT ⟨neg, tn, ty, vr, lo, hi⟩ ++ repT ⟨neg, tn, ty, vr, lo, hi⟩) (by simp [itemT, typedT_eq, typesT])
        · obtain ⟨r, hr⟩ := typesT_split ty hk0 hlt
          exact ItAt.full S2.out H2.out W2.out hf (by omega) (r := r ++ clT ⟨neg, tn, ty, vr, lo, hi⟩ ++ repT ⟨neg, tn, ty, vr, lo, hi⟩) (by rw [if_neg (show ¬ k = 0 by omega)]; simp [itemT, typedT_eq, hr])
      · rw [decide_eq_false hf]
        have A4 := Lib.hid (show ItAt B R w L d ib #[.bool neg, .slice (some ⟨b, off, none⟩) tn ac, .string vr, .int .i64 lo, .int .i64 hi] (negT ⟨neg, tn, ty, vr, lo, hi⟩ ++ opT ⟨neg, tn, ty, vr, lo, hi⟩ ++ (typesT ty k ++ if k = 0 then [] else [mkT 10])) 400 w7 from ⟨L2, ⟨S2.out, v2, H2.out⟩, W2.out, by omega, I2.out⟩)
        clear H2 W2 S2 I2 hl2 hcut
        go_wp2_with fail
        refine (tokName_any (ty k) _).mono ?_
        rintro e w1 ⟨rfl, hb1⟩
        have hb2 := bnew hb1 (.cells #[.int .i64 1, .string (ty k), .int .i64 0, .int .i64 0] 62)
        have T2 := Lib.hid (blk_new w1 #[.int .i64 1, .string (ty k), .int .i64 0, .int .i64 0] 62)
        obtain ⟨L1, ⟨hs0, v0, h0w⟩, hw0, hl0, hi0⟩ := A4.out
        have H2 := Lib.hid (h0w.below hb2)
        have S2 := Lib.hid (hs0.trans (Stw.of hb2 (Nat.le_trans hBw hs0.size)))
        have I2 := Lib.hid (blk_below hi0 hb2)
        have W2 := Lib.hid hw0
        clear h0w hs0 hi0 hw0
        go_wp2_with fail
        refine (add1_any B R L1 0 d v0 1 0 (ty k) w1.heap.size _ H2.out T2.out (by omega)).mono ?_
        rintro e w3 ⟨rfl, hs3, hv3⟩
        have AA := Lib.hid (ItAt.add (Q := [⟨1, (ty k), 0⟩]) S2.out W2.out hl0 I2.out hs3 hv3 (by decide) (by decide))
        clear hs3 hv3 H2 S2 I2 W2 T2 hb1 hb2 hl0
        go_wp2_with fail
        go_roundw
        case rel =>
          refine ⟨k + 1, by omega, by go_num, Lib.hid (AA.out.more (by simp) ?_)⟩
          rcases Nat.eq_zero_or_pos k with rfl | hk0
          · simp [typesT, nmT]
          · rw [typesT_succ ty k hk0, if_neg (show ¬ k = 0 by omega)]; simp [nmT]
        case measure => simp [intOf]; omega
    · obtain rfl : k = tn := by omega
      have c1 : W1.cell? ⟨ib, 1, none⟩ = some (.slice (some ⟨b, off, none⟩) k ac) := by obtain ⟨_, _, _, _, hi0⟩ := HA.out; exact blk_cell hi0 rfl
      go_upto_if 45 with fail
      go_cut [] from 24 to 95 (fun wx => Hid (ItAt B R w L d ib #[.bool neg, .slice (some ⟨b, off, none⟩) k ac, .string vr, .int .i64 lo, .int .i64 hi] (negT ⟨neg, k, ty, vr, lo, hi⟩ ++ typedT ⟨neg, k, ty, vr, lo, hi⟩) 453 wx))
      case first =>
        by_cases ht1 : 1 < k
        · have ht1i : (1 : Int) < (k : Int) := by omega
          clear c1
          go_wp2_with fail
          refine (mark_any 4 _).mono ?_
          rintro e w1 ⟨rfl, hb1⟩
          have hb2 := bnew hb1 (.cells #[.int .i64 4, .string ⟨#[]⟩, .int .i64 0, .int .i64 0] 62)
          have T2 := Lib.hid (blk_new w1 #[.int .i64 4, .string ⟨#[]⟩, .int .i64 0, .int .i64 0] 62)
          obtain ⟨L1, ⟨hs0, v0, h0w⟩, hw0, hl0, hi0⟩ := HA.out
          have H2 := Lib.hid (h0w.below hb2)
          have S2 := Lib.hid (hs0.trans (Stw.of hb2 (Nat.le_trans hBw hs0.size)))
          have I2 := Lib.hid (blk_below hi0 hb2)
          have W2 := Lib.hid hw0
          clear h0w hs0 hi0 hw0
          go_wp2_with fail
          refine (add1_any B R L1 0 d v0 4 0 ⟨#[]⟩ w1.heap.size _ H2.out T2.out (by omega)).mono ?_
          rintro e w3 ⟨rfl, hs3, hv3⟩
          have AA := Lib.hid (ItAt.add (Q := [⟨4, ⟨#[]⟩, 0⟩]) S2.out W2.out hl0 I2.out hs3 hv3 (by decide) (by decide))
          clear hs3 hv3 H2 S2 I2 W2 T2 hb1 hb2 hl0
          go_wp2_with fail
          go_meet
          exact Lib.hid (AA.out.more (by decide) (by rw [typedT_eq]; unfold clT; rw [if_pos ht1]; simp [mkT]))
        · have ht1i : (k : Int) ≤ 1 := by omega
          clear c1
          go_wp2_with fail
          go_meet
          exact Lib.hid (HA.out.more (by omega) (by rw [typedT_eq]; unfold clT; rw [if_neg ht1]; simp))
      case rest =>
      clear c1 HA
      have A6 := hcut
      clear hcut
      obtain ⟨we, ewe⟩ : ∃ W1 : World, W1 = wc := ⟨_, rfl⟩
      subst ewe
      have z2 : we.cell? ⟨ib, 2, none⟩ = some (.string vr) := by obtain ⟨_, _, _, _, hi0⟩ := A6.out; exact blk_cell hi0 rfl
      have z3 : we.cell? ⟨ib, 3, none⟩ = some (.int .i64 lo) := by obtain ⟨_, _, _, _, hi0⟩ := A6.out; exact blk_cell hi0 rfl
      have z4 : we.cell? ⟨ib, 4, none⟩ = some (.int .i64 hi) := by obtain ⟨_, _, _, _, hi0⟩ := A6.out; exact blk_cell hi0 rfl
      by_cases l1 : lo = 1
      · subst l1
        by_cases h1 : hi = 1
        · subst h1
          go_wp2_with fail
          refine (tokName_any vr _).mono ?_
          rintro e w1 ⟨rfl, hb1⟩
          have hb2 := bnew hb1 (.cells #[.int .i64 1, .string vr, .int .i64 0, .int .i64 0] 62)
          have T2 := Lib.hid (blk_new w1 #[.int .i64 1, .string vr, .int .i64 0, .int .i64 0] 62)
          obtain ⟨L1, ⟨hs0, v0, h0w⟩, hw0, hl0, hi0⟩ := A6.out
          have H2 := Lib.hid (h0w.below hb2)
          have S2 := Lib.hid (hs0.trans (Stw.of hb2 (Nat.le_trans hBw hs0.size)))
          have I2 := Lib.hid (blk_below hi0 hb2)
          have W2 := Lib.hid hw0
          clear h0w hs0 hi0 hw0
          go_wp2_with fail
          refine (add1_any B R L1 0 d v0 1 0 vr w1.heap.size _ H2.out T2.out (by omega)).mono ?_
          rintro e w3 ⟨rfl, hs3, hv3⟩
          have AA := Lib.hid (ItAt.add (Q := [⟨1, vr, 0⟩]) S2.out W2.out hl0 I2.out hs3 hv3 (by decide) (by decide))
          clear hs3 hv3 H2 S2 I2 W2 T2 hb1 hb2 hl0
          go_wp2_with fail
          go_end0
          exact AA.out.fin (by simp) (by simp [itemT, repT, nmT])
        · by_cases h4 : hi = 4
          · subst h4
            clear h1
            obtain ⟨L1, ⟨hs0, v0, h0w⟩, hw0, hl0, hi0⟩ := A6.out
            have H0 := Lib.hid h0w
            have S0 := Lib.hid hs0
            have W0 := Lib.hid hw0
            have I0 := Lib.hid hi0
            clear h0w hs0 hw0 hi0
            go_upto_region 19 with fail
            clear z2 z3 z4
            go_region_held3 (fun w' => w'.heap[ib]? = some (.cells #[.bool neg, .slice (some ⟨b, off, none⟩) k ac, .string vr, .int .i64 1, .int .i64 4] 41 (0, 0)) ∧ w'.cell? ⟨ib, 2, none⟩ = some (.string vr) ∧ w'.cell? ⟨ib, 3, none⟩ = some (.int .i64 1) ∧ w'.cell? ⟨ib, 4, none⟩ = some (.int .i64 4))
              (first
                | exact itS (blk_below I0.out (Below.refl _ _).drew)
                | (go_split_ands; exact itS (hsz.keep _ _ _ _ (by assumption) (by decide) (by decide)))
                | (go_split_ands; exact itS (blk_below (by assumption) hbz))
                | (go_split_ands; exact itS (blk_below (by assumption) (bnew (Below.refl _ _) _)))
                | (go_split_ands; exact itS (by assumption)))
              (first
                | (go_at_call 26; refine (mark_any _ _).mono ?_; rintro e wz ⟨rfl, hbz⟩; first | (have hbr := bcall hbr hbz) | (have hbr := bcall (Below.refl we.heap.size we).drew hbz))
                | (go_at_call 31; refine (tokName_any _ _).mono ?_; rintro e wz ⟨rfl, hbz⟩; first | (have hbr := bcall hbr hbz) | (have hbr := bcall (Below.refl we.heap.size we).drew hbz))
                | (go_at_call 30; refine (tokNum_any _ _).mono ?_; rintro e wz ⟨rfl, hbz⟩; first | (have hbr := bcall hbr hbz) | (have hbr := bcall (Below.refl we.heap.size we).drew hbz))
                | (go_at_call 25; have hbq : Below we.heap.size we (wz.alloc (.cells #[.int .i64 11, .string ⟨#[]⟩, .int .i64 0, .int .i64 0, .int .i64 1, .string vr, .int .i64 0, .int .i64 0] 62)) := bnew hbr _; refine (add_any B R L1 [mkT 11, nmT vr] 0 d v0 (some ⟨_, 0, none⟩) 2 _ (H0.out.below hbq) (tkRd_blk (blk_new _ _ _) rfl) (fun h => by cases h) (by simp only [List.length_cons, List.length_nil]; omega)).mono ?_; rintro e wq ⟨rfl, hsz, hvq⟩; have AA := Lib.hid (ItAt.add (Q := [mkT 11, nmT vr]) (S0.out.trans (Stw.of hbq (Nat.le_trans hBw S0.out.size))) W0.out hl0 (blk_below I0.out hbq) hsz hvq (by decide) (by decide))))
            go_split_ands
            go_wp2_with fail
            go_end0
            exact AA.out.fin (by simp only [List.length_cons, List.length_nil]; omega) (by simp [itemT, repT])
          · have HN := Lib.hid (show repT ⟨neg, k, ty, vr, 1, hi⟩ = [nmT vr, mkT 5, nuT 1, mkT 7, nuT hi, mkT 6] by unfold repT; rw [if_neg (by rintro ⟨_, h⟩; exact h1 h), if_neg (by rintro ⟨_, h⟩; exact h4 h)])
            have b1 : (hi == 1) = false := by rw [beq_eq_false_iff_ne]; exact h1
            have b4 : (hi == 4) = false := by rw [beq_eq_false_iff_ne]; exact h4
            clear h1 h4
            obtain ⟨L1, ⟨hs0, v0, h0w⟩, hw0, hl0, hi0⟩ := A6.out
            have H0 := Lib.hid h0w
            have S0 := Lib.hid hs0
            have W0 := Lib.hid hw0
            have I0 := Lib.hid hi0
            clear h0w hs0 hw0 hi0
            go_upto_region 15 with fail
            clear z2 z3 z4 b1 b4
            go_region_held3 (fun w' => w'.heap[ib]? = some (.cells #[.bool neg, .slice (some ⟨b, off, none⟩) k ac, .string vr, .int .i64 1, .int .i64 hi] 41 (0, 0)) ∧ w'.cell? ⟨ib, 2, none⟩ = some (.string vr) ∧ w'.cell? ⟨ib, 3, none⟩ = some (.int .i64 1) ∧ w'.cell? ⟨ib, 4, none⟩ = some (.int .i64 hi))
              (first
                | exact itS (blk_below I0.out (Below.refl _ _).drew)
                | (go_split_ands; exact itS (hsz.keep _ _ _ _ (by assumption) (by decide) (by decide)))
                | (go_split_ands; exact itS (blk_below (by assumption) hbz))
                | (go_split_ands; exact itS (blk_below (by assumption) (bnew (Below.refl _ _) _)))
                | (go_split_ands; exact itS (by assumption)))
              (first
                | (go_at_call 26; refine (mark_any _ _).mono ?_; rintro e wz ⟨rfl, hbz⟩; first | (have hbr := bcall hbr hbz) | (have hbr := bcall (Below.refl we.heap.size we).drew hbz))
                | (go_at_call 31; refine (tokName_any _ _).mono ?_; rintro e wz ⟨rfl, hbz⟩; first | (have hbr := bcall hbr hbz) | (have hbr := bcall (Below.refl we.heap.size we).drew hbz))
                | (go_at_call 30; refine (tokNum_any _ _).mono ?_; rintro e wz ⟨rfl, hbz⟩; first | (have hbr := bcall hbr hbz) | (have hbr := bcall (Below.refl we.heap.size we).drew hbz))
                | (go_at_call 25; have hbq : Below we.heap.size we (wz.alloc (.cells #[.int .i64 1, .string vr, .int .i64 0, .int .i64 0, .int .i64 5, .string ⟨#[]⟩, .int .i64 0, .int .i64 0, .int .i64 2, .string ⟨#[]⟩, .int .i64 1, .int .i64 0, .int .i64 7, .string ⟨#[]⟩, .int .i64 0, .int .i64 0, .int .i64 2, .string ⟨#[]⟩, .int .i64 hi, .int .i64 0, .int .i64 6, .string ⟨#[]⟩, .int .i64 0, .int .i64 0] 62)) := bnew hbr _; refine (add_any B R L1 [nmT vr, mkT 5, nuT 1, mkT 7, nuT hi, mkT 6] 0 d v0 (some ⟨_, 0, none⟩) 6 _ (H0.out.below hbq) (tkRd_blk (blk_new _ _ _) rfl) (fun h => by cases h) (by simp only [List.length_cons, List.length_nil]; omega)).mono ?_; rintro e wq ⟨rfl, hsz, hvq⟩; have AA := Lib.hid (ItAt.add (Q := [nmT vr, mkT 5, nuT 1, mkT 7, nuT hi, mkT 6]) (S0.out.trans (Stw.of hbq (Nat.le_trans hBw S0.out.size))) W0.out hl0 (blk_below I0.out hbq) hsz hvq (by decide) (by decide))))
            go_split_ands
            go_wp2_with fail
            go_end0
            exact AA.out.fin (by simp only [List.length_cons, List.length_nil]; omega) (by rw [← HN.out]; simp [itemT])
      · have HN := Lib.hid (show repT ⟨neg, k, ty, vr, lo, hi⟩ = [nmT vr, mkT 5, nuT lo, mkT 7, nuT hi, mkT 6] by unfold repT; rw [if_neg (by rintro ⟨h, _⟩; exact l1 h), if_neg (by rintro ⟨h, _⟩; exact l1 h)])
        have b1 : (lo == 1) = false := by rw [beq_eq_false_iff_ne]; exact l1
        clear l1
        obtain ⟨L1, ⟨hs0, v0, h0w⟩, hw0, hl0, hi0⟩ := A6.out
        have H0 := Lib.hid h0w
        have S0 := Lib.hid hs0
        have W0 := Lib.hid hw0
        have I0 := Lib.hid hi0
        clear h0w hs0 hw0 hi0
        go_upto_region 15 with fail
        clear z2 z3 z4 b1
        go_region_held3 (fun w' => w'.heap[ib]? = some (.cells #[.bool neg, .slice (some ⟨b, off, none⟩) k ac, .string vr, .int .i64 lo, .int .i64 hi] 41 (0, 0)) ∧ w'.cell? ⟨ib, 2, none⟩ = some (.string vr) ∧ w'.cell? ⟨ib, 3, none⟩ = some (.int .i64 lo) ∧ w'.cell? ⟨ib, 4, none⟩ = some (.int .i64 hi))
          (first
            | exact itS (blk_below I0.out (Below.refl _ _).drew)
            | (go_split_ands; exact itS (hsz.keep _ _ _ _ (by assumption) (by decide) (by decide)))
            | (go_split_ands; exact itS (blk_below (by assumption) hbz))
            | (go_split_ands; exact itS (blk_below (by assumption) (bnew (Below.refl _ _) _)))
            | (go_split_ands; exact itS (by assumption)))
          (first
            | (go_at_call 26; refine (mark_any _ _).mono ?_; rintro e wz ⟨rfl, hbz⟩; first | (have hbr := bcall hbr hbz) | (have hbr := bcall (Below.refl we.heap.size we).drew hbz))
            | (go_at_call 31; refine (tokName_any _ _).mono ?_; rintro e wz ⟨rfl, hbz⟩; first | (have hbr := bcall hbr hbz) | (have hbr := bcall (Below.refl we.heap.size we).drew hbz))
            | (go_at_call 30; refine (tokNum_any _ _).mono ?_; rintro e wz ⟨rfl, hbz⟩; first | (have hbr := bcall hbr hbz) | (have hbr := bcall (Below.refl we.heap.size we).drew hbz))
            | (go_at_call 25; have hbq : Below we.heap.size we (wz.alloc (.cells #[.int .i64 1, .string vr, .int .i64 0, .int .i64 0, .int .i64 5, .string ⟨#[]⟩, .int .i64 0, .int .i64 0, .int .i64 2, .string ⟨#[]⟩, .int .i64 lo, .int .i64 0, .int .i64 7, .string ⟨#[]⟩, .int .i64 0, .int .i64 0, .int .i64 2, .string ⟨#[]⟩, .int .i64 hi, .int .i64 0, .int .i64 6, .string ⟨#[]⟩, .int .i64 0, .int .i64 0] 62)) := bnew hbr _; refine (add_any B R L1 [nmT vr, mkT 5, nuT lo, mkT 7, nuT hi, mkT 6] 0 d v0 (some ⟨_, 0, none⟩) 6 _ (H0.out.below hbq) (tkRd_blk (blk_new _ _ _) rfl) (fun h => by cases h) (by simp only [List.length_cons, List.length_nil]; omega)).mono ?_; rintro e wq ⟨rfl, hsz, hvq⟩; have AA := Lib.hid (ItAt.add (Q := [nmT vr, mkT 5, nuT lo, mkT 7, nuT hi, mkT 6]) (S0.out.trans (Stw.of hbq (Nat.le_trans hBw S0.out.size))) W0.out hl0 (blk_below I0.out hbq) hsz hvq (by decide) (by decide))))
        go_split_ands
        go_wp2_with fail
        go_end0
        exact AA.out.fin (by simp only [List.length_cons, List.length_nil]; omega) (by rw [← HN.out]; simp [itemT])
end Go.Proofs.YtfcdkadblagijaaDoor

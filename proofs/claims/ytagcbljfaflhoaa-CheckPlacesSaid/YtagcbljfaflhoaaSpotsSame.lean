/-
  The places of a query's parts: two alike are the same.
-/
import Derived.Test.YtagcbljfaflhoaaSpots
import Derived.Deep.QuietTactic
import Derived.BigQuiet
import Derived.Outline
set_option linter.unusedSimpArgs false
namespace Go.Proofs.Ytagcbljfaflhoaa
open Go.RowKit Go.ChangeShapes Go.WideShapes Go.ChangeAt Go.Deep Go.Joins
set_option maxRecDepth 100000 in
set_option maxHeartbeats 1000000 in
theorem sameSpots_same (V V' : SptV) (S : Spt) (w : World) (h : SptRd w w.heap.size V S) (h' : SptRd w w.heap.size V' S) :
    Calls Try.prog 8 #[.agg (sptArr V S), .agg (sptArr V' S)] w fun e w' => e = .returned (.bool true) ∧ Below w.heap.size w w' := by
  obtain ⟨a0, q0, a1, q1, a4, q4⟩ := V
  obtain ⟨a0', q0', a1', q1', a4', q4'⟩ := V'
  show Calls _ _ #[.agg #[.slice a0 S.n0 q0, .slice a1 S.n1 q1, .int .i64 S.within, .int .i64 S.by_, .slice a4 S.m q4], .agg #[.slice a0' S.n0 q0', .slice a1' S.n1 q1', .int .i64 S.within, .int .i64 S.by_, .slice a4' S.m q4']] w _
  have hm := h.r4.1
  have HB := bnew (bnew (Below.refl w.heap.size w) (.cells #[.slice a0 S.n0 q0, .slice a1 S.n1 q1, .int .i64 S.within, .int .i64 S.by_, .slice a4 S.m q4] 26)) (.cells #[.slice a0' S.n0 q0', .slice a1' S.n1 q1', .int .i64 S.within, .int .i64 S.by_, .slice a4' S.m q4'] 26)
  have b0 := blk_alloc (blk_new w #[.slice a0 S.n0 q0, .slice a1 S.n1 q1, .int .i64 S.within, .int .i64 S.by_, .slice a4 S.m q4] 26) (.cells #[.slice a0' S.n0 q0', .slice a1' S.n1 q1', .int .i64 S.within, .int .i64 S.by_, .slice a4' S.m q4'] 26)
  have b1 := blk_new (w.alloc (.cells #[.slice a0 S.n0 q0, .slice a1 S.n1 q1, .int .i64 S.within, .int .i64 S.by_, .slice a4 S.m q4] 26)) #[.slice a0' S.n0 q0', .slice a1' S.n1 q1', .int .i64 S.within, .int .i64 S.by_, .slice a4' S.m q4'] 26
  simp only [World.size_alloc] at b1
  have HT := Lib.hid h
  have HT' := Lib.hid h'
  have B0 := Lib.hid b0
  have B1 := Lib.hid b1
  clear h h' b0 b1
  go_enter Try.func8, Try.ntmps8
  go_wp2_with fail
  have HT2 := Lib.hid (HT.out.later HB)
  have HT2' := Lib.hid (HT'.out.later HB)
  clear HT HT'
  generalize (w.alloc _).alloc _ = w2 at *
  go_loopw [5] (fun i wr => ∃ (k : Nat), k ≤ S.m ∧ i = .int .i64 k ∧ Below w2.heap.size w2 wr) (fun i _ => S.m - (intOf i).toNat)
  case atStart => exact ⟨0, Nat.zero_le _, rfl, Below.refl _ _⟩
  case round =>
    obtain ⟨k, hk, rfl, hb⟩ := hrel
    obtain ⟨W1, e1⟩ : ∃ W1 : World, W1 = wr := ⟨_, rfl⟩
    subst e1
    have x4 := blk_cell (blk_below B0.out hb) (j := 4) rfl
    have y4 := blk_cell (blk_below B1.out hb) (j := 4) rfl
    by_cases hlt : k < S.m
    · obtain ⟨b, off, eA, hbl, hcs⟩ := (HT2.out.later hb).r4.2 (by omega)
      obtain ⟨b', off', eA', hbl', hcs'⟩ := (HT2'.out.later hb).r4.2 (by omega)
      have eA : a4 = _ := eA
      have eA' : a4' = _ := eA'
      subst eA eA'
      obtain ⟨aa, ac, d1, _, _, hrow⟩ := hcs k hlt
      obtain ⟨aa', ac', d1', _, _, hrow'⟩ := hcs' k hlt
      have HR := Lib.hid hrow
      have HR' := Lib.hid hrow'
      clear hcs hcs' hrow hrow'
      go_wp2_with fail
      go_quiet (first | (go_at_call 21; exact Calls.quiet_of (sameInts6_same aa aa' (S.ln k) ac ac' (S.g k) _ HR.out HR'.out)))
      go_wp2_with fail
      go_roundw
      case rel => exact ⟨k + 1, by omega, by go_num, bdrewN hb _⟩
      case measure => simp [intOf]; omega
    · have HT3 := Lib.hid (HT2.out.later hb)
      have HT3' := Lib.hid (HT2'.out.later hb)
      have x0 := blk_cell (blk_below B0.out hb) (j := 0) rfl
      have y0 := blk_cell (blk_below B1.out hb) (j := 0) rfl
      go_wp2_with fail
      refine (sameInts6_same a0 a0' S.n0 q0 q0' S.f0 _ HT3.out.r0 HT3'.out.r0).mono ?_
      rintro e w5 ⟨rfl, q, rfl⟩
      have hb5 := bdrewN hb q
      have x1 := blk_cell (blk_below B0.out hb5) (j := 1) rfl
      have y1 := blk_cell (blk_below B1.out hb5) (j := 1) rfl
      have HT5 := Lib.hid (HT2.out.later hb5)
      have HT5' := Lib.hid (HT2'.out.later hb5)
      clear x0 y0 x4 y4
      generalize W1.drewN q = w5 at *
      go_wp2_with fail
      refine (sameInts6_same a1 a1' S.n1 q1 q1' S.f1 _ HT5.out.r1 HT5'.out.r1).mono ?_
      rintro e w6 ⟨rfl, q', rfl⟩
      go_wp2_with fail
      go_ret
      exact ⟨rfl, bcall HB (bdrewN hb5 q')⟩
end Go.Proofs.Ytagcbljfaflhoaa

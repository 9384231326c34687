/-
  Two queries that read alike are the same; whether a query is nested too deep.
-/
import Derived.Test.YtagcbljfaflhoaaDoorQuery
import Derived.Test.YtagcbljfaflhoaaDoorTreeSame6
import Derived.Test.YtagcbljfaflhoaaDoorBeyond
import Derived.Test.YtagcbljfaflhoaaDoorRowSet
import Derived.Deep.RegionHeld3
import Derived.Deep.CutRange
import Derived.Outline
set_option linter.unusedSimpArgs false
set_option linter.unusedVariables false
namespace Go.Proofs.YtagcbljfaflhoaaDoor
open Go.RowKit Go.ChangeShapes Go.WideShapes Go.ChangeAt Go.Deep Go.Joins
set_option maxRecDepth 100000 in
theorem sameStrs6_same (A A' : Option Addr) (n c c' : Nat) (f : Nat → ByteArray) (w : World) (h : TxtRd w w.heap.size A n f) (h' : TxtRd w w.heap.size A' n f) :
    Calls Tryd.prog 66 #[.slice A n c, .slice A' n c'] w fun e w' => e = .returned (.bool true) ∧ ∃ q, w' = w.drewN q := by
  have hn := h.1
  have HT := Lib.hid h
  have HT' := Lib.hid h'
  clear h h'
  go_enter Tryd.func66, Tryd.ntmps66
  go_wp2_with fail
  go_loopw [5] (fun i wr => ∃ k : Nat, k ≤ n ∧ i = .int .i64 k ∧ ∃ q, wr = w.drewN q) (fun i _ => n - (intOf i).toNat)
  case atStart => exact ⟨0, Nat.zero_le _, rfl, 0, rfl⟩
  case round =>
    obtain ⟨k, hk, rfl, q, rfl⟩ := hrel
    by_cases hlt : k < n
    · obtain ⟨b, off, rfl, hbl, hcs⟩ := RowRd.spot1 HT.out (by omega)
      obtain ⟨b', off', rfl, hbl', hcs'⟩ := RowRd.spot1 HT'.out (by omega)
      have c1 := hcs k hlt
      have c1' := hcs' k hlt
      clear hcs hcs'
      go_wp2_with fail
      go_quiet (fail)
      go_wp2_with fail
      go_roundw
      case rel => exact ⟨k + 1, by omega, by go_num, _, rfl⟩
      case measure => simp [intOf]; omega
    · go_wp2_with fail
      go_ret
      exact ⟨rfl, q, rfl⟩
theorem blk7 {w : World} {b : Nat} {v0 v1 v2 v3 v4 v5 v6 : Value} {T : TypeId} (h : w.heap[b]? = some (.cells #[v0, v1, v2, v3, v4, v5, v6] T (0, 0))) :
    w.cell? ⟨b, 0, none⟩ = some v0 ∧ w.cell? ⟨b, 1, none⟩ = some v1 ∧ w.cell? ⟨b, 2, none⟩ = some v2 ∧ w.cell? ⟨b, 3, none⟩ = some v3 ∧ w.cell? ⟨b, 4, none⟩ = some v4 ∧ w.cell? ⟨b, 5, none⟩ = some v5 ∧ w.cell? ⟨b, 6, none⟩ = some v6 :=
  ⟨blk_cell h rfl, blk_cell h rfl, blk_cell h rfl, blk_cell h rfl, blk_cell h rfl, blk_cell h rfl, blk_cell h rfl⟩
theorem blk5' {w : World} {b : Nat} {v0 v1 v2 v3 v4 : Value} {T : TypeId} (h : w.heap[b]? = some (.cells #[v0, v1, v2, v3, v4] T (0, 0))) :
    w.cell? ⟨b, 0, none⟩ = some v0 ∧ w.cell? ⟨b, 1, none⟩ = some v1 ∧ w.cell? ⟨b, 2, none⟩ = some v2 ∧ w.cell? ⟨b, 3, none⟩ = some v3 ∧ w.cell? ⟨b, 4, none⟩ = some v4 :=
  ⟨blk_cell h rfl, blk_cell h rfl, blk_cell h rfl, blk_cell h rfl, blk_cell h rfl⟩
set_option maxRecDepth 100000 in
set_option maxHeartbeats 4000000 in
theorem sameQuery_same (V V' : QryV) (Q : Qry) (w : World) (h : QryRd w w.heap.size V Q) (h' : QryRd w w.heap.size V' Q) :
    Calls Tryd.prog 29 #[.agg (qryArr V Q), .agg (qryArr V' Q)] w fun e w' => e = .returned (.bool true) ∧ Below w.heap.size w w' := by
  obtain ⟨aI, cI, aW, cW, aR, cR⟩ := V
  obtain ⟨aI', cI', aW', cW', aR', cR'⟩ := V'
  show Calls _ _ #[.agg #[.slice aI Q.n cI, .int .i64 Q.mode, .int .i64 Q.after, .slice aW Q.wn cW, .int .i64 Q.within, .string Q.by_, .slice aR Q.m cR], .agg #[.slice aI' Q.n cI', .int .i64 Q.mode, .int .i64 Q.after, .slice aW' Q.wn cW', .int .i64 Q.within, .string Q.by_, .slice aR' Q.m cR']] w _
  have hnI := h.rI.small
  have hnR := h.rR.small
  have HB := bnew (bnew (Below.refl w.heap.size w) (.cells #[.slice aI Q.n cI, .int .i64 Q.mode, .int .i64 Q.after, .slice aW Q.wn cW, .int .i64 Q.within, .string Q.by_, .slice aR Q.m cR] 40)) (.cells #[.slice aI' Q.n cI', .int .i64 Q.mode, .int .i64 Q.after, .slice aW' Q.wn cW', .int .i64 Q.within, .string Q.by_, .slice aR' Q.m cR'] 40)
  have b0 := blk_alloc (blk_new w #[.slice aI Q.n cI, .int .i64 Q.mode, .int .i64 Q.after, .slice aW Q.wn cW, .int .i64 Q.within, .string Q.by_, .slice aR Q.m cR] 40) (.cells #[.slice aI' Q.n cI', .int .i64 Q.mode, .int .i64 Q.after, .slice aW' Q.wn cW', .int .i64 Q.within, .string Q.by_, .slice aR' Q.m cR'] 40)
  have b1 := blk_new (w.alloc (.cells #[.slice aI Q.n cI, .int .i64 Q.mode, .int .i64 Q.after, .slice aW Q.wn cW, .int .i64 Q.within, .string Q.by_, .slice aR Q.m cR] 40)) #[.slice aI' Q.n cI', .int .i64 Q.mode, .int .i64 Q.after, .slice aW' Q.wn cW', .int .i64 Q.within, .string Q.by_, .slice aR' Q.m cR'] 40
  simp only [World.size_alloc] at b1
  have HT2 := Lib.hid (h.later HB)
  have HT2' := Lib.hid (h'.later HB)
  have B0 := Lib.hid b0
  have B1 := Lib.hid b1
  clear h h' b0 b1
  have hzw := blk_lt B1.out
  go_enter Tryd.func29, Tryd.ntmps29
  go_wp2_with fail
  generalize (w.alloc _).alloc _ = w2 at *
  go_loopw [5] (fun i wr => ∃ (k : Nat), k ≤ Q.n ∧ i = .int .i64 k ∧ Below w2.heap.size w2 wr) (fun i _ => Q.n - (intOf i).toNat)
  case atStart => exact ⟨0, Nat.zero_le _, rfl, Below.refl _ _⟩
  case round =>
    obtain ⟨k, hk, rfl, hb⟩ := hrel
    obtain ⟨W1, e1⟩ : ∃ W1 : World, W1 = wr := ⟨_, rfl⟩
    subst e1
    have x0 := blk_cell (blk_below B0.out hb) (j := 0) rfl
    have y0 := blk_cell (blk_below B1.out hb) (j := 0) rfl
    by_cases hlt : k < Q.n
    · obtain ⟨b, off, eA, hbl, hcs⟩ := (HT2.out.later hb).rI.spot (by omega)
      obtain ⟨b', off', eA', hbl', hcs'⟩ := (HT2'.out.later hb).rI.spot (by omega)
      have eA : aI = _ := eA
      have eA' : aI' = _ := eA'
      subst eA eA'
      obtain ⟨d0, ⟨aa, ac, d1, _, _, hrow⟩, d2, d3, d4⟩ := hcs k hlt
      obtain ⟨d0', ⟨aa', ac', d1', _, _, hrow'⟩, d2', d3', d4'⟩ := hcs' k hlt
      have HR := Lib.hid hrow
      have HR' := Lib.hid hrow'
      have hzb := hb.size
      have hw1 : w.heap.size + 1 < W1.heap.size := by omega
      have hw0 : w.heap.size < W1.heap.size := by omega
      clear hcs hcs' hrow hrow'
      go_upto_region 6 with fail
      go_region -- two orders
      · have hb6 : Below W1.heap.size W1 ((W1.alloc (.cells #[.bool (Q.it k).neg, .slice aa (Q.it k).tn ac, .string (Q.it k).vr, .int .i64 (Q.it k).lo, .int .i64 (Q.it k).hi] 80)).alloc (.cells #[.bool (Q.it k).neg, .slice aa' (Q.it k).tn ac', .string (Q.it k).vr, .int .i64 (Q.it k).lo, .int .i64 (Q.it k).hi] 80)).drew := (bnew (bnew (Below.refl W1.heap.size W1) (.cells #[.bool (Q.it k).neg, .slice aa (Q.it k).tn ac, .string (Q.it k).vr, .int .i64 (Q.it k).lo, .int .i64 (Q.it k).hi] 80)) (.cells #[.bool (Q.it k).neg, .slice aa' (Q.it k).tn ac', .string (Q.it k).vr, .int .i64 (Q.it k).lo, .int .i64 (Q.it k).hi] 80)).drew
        have z0 : ((W1.alloc (.cells #[.bool (Q.it k).neg, .slice aa (Q.it k).tn ac, .string (Q.it k).vr, .int .i64 (Q.it k).lo, .int .i64 (Q.it k).hi] 80)).alloc (.cells #[.bool (Q.it k).neg, .slice aa' (Q.it k).tn ac', .string (Q.it k).vr, .int .i64 (Q.it k).lo, .int .i64 (Q.it k).hi] 80)).drew.heap[W1.heap.size]? = some (.cells #[.bool (Q.it k).neg, .slice aa (Q.it k).tn ac, .string (Q.it k).vr, .int .i64 (Q.it k).lo, .int .i64 (Q.it k).hi] 80 (0, 0)) := blk_alloc (blk_new W1 #[.bool (Q.it k).neg, .slice aa (Q.it k).tn ac, .string (Q.it k).vr, .int .i64 (Q.it k).lo, .int .i64 (Q.it k).hi] 80) (.cells #[.bool (Q.it k).neg, .slice aa' (Q.it k).tn ac', .string (Q.it k).vr, .int .i64 (Q.it k).lo, .int .i64 (Q.it k).hi] 80)
        have z1 : ((W1.alloc (.cells #[.bool (Q.it k).neg, .slice aa (Q.it k).tn ac, .string (Q.it k).vr, .int .i64 (Q.it k).lo, .int .i64 (Q.it k).hi] 80)).alloc (.cells #[.bool (Q.it k).neg, .slice aa' (Q.it k).tn ac', .string (Q.it k).vr, .int .i64 (Q.it k).lo, .int .i64 (Q.it k).hi] 80)).drew.heap[W1.heap.size + 1]? = some (.cells #[.bool (Q.it k).neg, .slice aa' (Q.it k).tn ac', .string (Q.it k).vr, .int .i64 (Q.it k).lo, .int .i64 (Q.it k).hi] 80 (0, 0)) := by
          have := blk_new (W1.alloc (.cells #[.bool (Q.it k).neg, .slice aa (Q.it k).tn ac, .string (Q.it k).vr, .int .i64 (Q.it k).lo, .int .i64 (Q.it k).hi] 80)) #[.bool (Q.it k).neg, .slice aa' (Q.it k).tn ac', .string (Q.it k).vr, .int .i64 (Q.it k).lo, .int .i64 (Q.it k).hi] 80
          rw [World.size_alloc] at this
          exact this
        generalize ((W1.alloc (.cells #[.bool (Q.it k).neg, .slice aa (Q.it k).tn ac, .string (Q.it k).vr, .int .i64 (Q.it k).lo, .int .i64 (Q.it k).hi] 80)).alloc (.cells #[.bool (Q.it k).neg, .slice aa' (Q.it k).tn ac', .string (Q.it k).vr, .int .i64 (Q.it k).lo, .int .i64 (Q.it k).hi] 80)).drew = w6 at *
        clear d0 d1 d2 d3 d4 d0' d1' d2' d3' d4' x0 y0
        obtain ⟨r0, r1, r2, r3, r4⟩ := blk5' z0
        obtain ⟨s0, s1, s2, s3, s4⟩ := blk5' z1
        go_wp2_with fail
        clear r0 r1 r2 r3 r4 s0 s1 s2 s3 s4
        refine (sameStrs6_same aa aa' (Q.it k).tn ac ac' (Q.it k).ty _ (RowRd.later HR.out hb6) (RowRd.later HR'.out hb6)).mono ?_
        rintro e w7 ⟨rfl, q, rfl⟩
        have hb7 := bcall hb (bdrewN hb6 q)
        obtain ⟨r0, r1, r2, r3, r4⟩ := blk5' (blk_below z0 (bdrewN (Below.refl w6.heap.size w6) q))
        obtain ⟨s0, s1, s2, s3, s4⟩ := blk5' (blk_below z1 (bdrewN (Below.refl w6.heap.size w6) q))
        go_wp2_with fail
        go_roundw
        case rel => exact ⟨k + 1, by omega, by go_num, hb7⟩
        case measure => simp [intOf]; omega
      · have hb6 : Below W1.heap.size W1 ((W1.alloc (.cells #[.bool (Q.it k).neg, .slice aa' (Q.it k).tn ac', .string (Q.it k).vr, .int .i64 (Q.it k).lo, .int .i64 (Q.it k).hi] 80)).alloc (.cells #[.bool (Q.it k).neg, .slice aa (Q.it k).tn ac, .string (Q.it k).vr, .int .i64 (Q.it k).lo, .int .i64 (Q.it k).hi] 80)).drew := (bnew (bnew (Below.refl W1.heap.size W1) (.cells #[.bool (Q.it k).neg, .slice aa' (Q.it k).tn ac', .string (Q.it k).vr, .int .i64 (Q.it k).lo, .int .i64 (Q.it k).hi] 80)) (.cells #[.bool (Q.it k).neg, .slice aa (Q.it k).tn ac, .string (Q.it k).vr, .int .i64 (Q.it k).lo, .int .i64 (Q.it k).hi] 80)).drew
        have z0 : ((W1.alloc (.cells #[.bool (Q.it k).neg, .slice aa' (Q.it k).tn ac', .string (Q.it k).vr, .int .i64 (Q.it k).lo, .int .i64 (Q.it k).hi] 80)).alloc (.cells #[.bool (Q.it k).neg, .slice aa (Q.it k).tn ac, .string (Q.it k).vr, .int .i64 (Q.it k).lo, .int .i64 (Q.it k).hi] 80)).drew.heap[W1.heap.size]? = some (.cells #[.bool (Q.it k).neg, .slice aa' (Q.it k).tn ac', .string (Q.it k).vr, .int .i64 (Q.it k).lo, .int .i64 (Q.it k).hi] 80 (0, 0)) := blk_alloc (blk_new W1 #[.bool (Q.it k).neg, .slice aa' (Q.it k).tn ac', .string (Q.it k).vr, .int .i64 (Q.it k).lo, .int .i64 (Q.it k).hi] 80) (.cells #[.bool (Q.it k).neg, .slice aa (Q.it k).tn ac, .string (Q.it k).vr, .int .i64 (Q.it k).lo, .int .i64 (Q.it k).hi] 80)
        have z1 : ((W1.alloc (.cells #[.bool (Q.it k).neg, .slice aa' (Q.it k).tn ac', .string (Q.it k).vr, .int .i64 (Q.it k).lo, .int .i64 (Q.it k).hi] 80)).alloc (.cells #[.bool (Q.it k).neg, .slice aa (Q.it k).tn ac, .string (Q.it k).vr, .int .i64 (Q.it k).lo, .int .i64 (Q.it k).hi] 80)).drew.heap[W1.heap.size + 1]? = some (.cells #[.bool (Q.it k).neg, .slice aa (Q.it k).tn ac, .string (Q.it k).vr, .int .i64 (Q.it k).lo, .int .i64 (Q.it k).hi] 80 (0, 0)) := by
          have := blk_new (W1.alloc (.cells #[.bool (Q.it k).neg, .slice aa' (Q.it k).tn ac', .string (Q.it k).vr, .int .i64 (Q.it k).lo, .int .i64 (Q.it k).hi] 80)) #[.bool (Q.it k).neg, .slice aa (Q.it k).tn ac, .string (Q.it k).vr, .int .i64 (Q.it k).lo, .int .i64 (Q.it k).hi] 80
          rw [World.size_alloc] at this
          exact this
        generalize ((W1.alloc (.cells #[.bool (Q.it k).neg, .slice aa' (Q.it k).tn ac', .string (Q.it k).vr, .int .i64 (Q.it k).lo, .int .i64 (Q.it k).hi] 80)).alloc (.cells #[.bool (Q.it k).neg, .slice aa (Q.it k).tn ac, .string (Q.it k).vr, .int .i64 (Q.it k).lo, .int .i64 (Q.it k).hi] 80)).drew = w6 at *
        clear d0 d1 d2 d3 d4 d0' d1' d2' d3' d4' x0 y0
        obtain ⟨r0, r1, r2, r3, r4⟩ := blk5' z0
        obtain ⟨s0, s1, s2, s3, s4⟩ := blk5' z1
        go_wp2_with fail
        clear r0 r1 r2 r3 r4 s0 s1 s2 s3 s4
        refine (sameStrs6_same aa aa' (Q.it k).tn ac ac' (Q.it k).ty _ (RowRd.later HR.out hb6) (RowRd.later HR'.out hb6)).mono ?_
        rintro e w7 ⟨rfl, q, rfl⟩
        have hb7 := bcall hb (bdrewN hb6 q)
        obtain ⟨r0, r1, r2, r3, r4⟩ := blk5' (blk_below z0 (bdrewN (Below.refl w6.heap.size w6) q))
        obtain ⟨s0, s1, s2, s3, s4⟩ := blk5' (blk_below z1 (bdrewN (Below.refl w6.heap.size w6) q))
        go_wp2_with fail
        go_roundw
        case rel => exact ⟨k + 1, by omega, by go_num, hb7⟩
        case measure => simp [intOf]; omega
    · go_wp2_with fail
      go_loopw [9] (fun i wr => ∃ (k : Nat), k ≤ Q.m ∧ i = .int .i64 k ∧ Below w2.heap.size w2 wr) (fun i _ => Q.m - (intOf i).toNat)
      case atStart => exact ⟨0, Nat.zero_le _, rfl, hb⟩
      case round =>
        clear x0 y0 hb
        obtain ⟨k, hk, rfl, hb⟩ := hrel
        obtain ⟨W1, e1⟩ : ∃ W1 : World, W1 = wr := ⟨_, rfl⟩
        subst e1
        have x6 := blk_cell (blk_below B0.out hb) (j := 6) rfl
        have y6 := blk_cell (blk_below B1.out hb) (j := 6) rfl
        by_cases hlt : k < Q.m
        · obtain ⟨b, off, eA, hbl, hcs⟩ := (HT2.out.later hb).rR.spot (by omega)
          obtain ⟨b', off', eA', hbl', hcs'⟩ := (HT2'.out.later hb).rR.spot (by omega)
          have eA : aR = _ := eA
          have eA' : aR' = _ := eA'
          subst eA eA'
          obtain ⟨aa, ac, d1, _, _, hrow⟩ := hcs k hlt
          obtain ⟨aa', ac', d1', _, _, hrow'⟩ := hcs' k hlt
          have HR := Lib.hid hrow
          have HR' := Lib.hid hrow'
          clear hcs hcs' hrow hrow'
          go_wp2_with fail
          go_quiet (first | (go_at_call 67; exact Calls.quiet_of (sameTree6_same aa aa' (Q.ln k) ac ac' (Q.rt k) _ HR.out HR'.out)))
          go_wp2_with fail
          go_roundw
          case rel => exact ⟨k + 1, by omega, by go_num, bdrewN hb _⟩
          case measure => simp [intOf]; omega
        · have HT3 := Lib.hid (HT2.out.later hb)
          have HT3' := Lib.hid (HT2'.out.later hb)
          have x3 := blk_cell (blk_below B0.out hb) (j := 3) rfl
          have y3 := blk_cell (blk_below B1.out hb) (j := 3) rfl
          go_wp2_with fail
          refine (sameTree6_same aW aW' Q.wn cW cW' Q.wh _ HT3.out.rW HT3'.out.rW).mono ?_
          rintro e w5 ⟨rfl, q, rfl⟩
          go_wp2_with fail
          go_ret
          exact ⟨rfl, bcall HB (bdrewN hb q)⟩
/-- Whatever it is, a truth is told. -/
theorem queryBeyond_any (V : QryV) (Q : Qry) (w : World) (h : QryRd w w.heap.size V Q) :
    Calls Tryd.prog 23 #[.agg (qryArr V Q)] w fun e w' => IsBool e ∧ Below w.heap.size w w' := by
  obtain ⟨aI, cI, aW, cW, aR, cR⟩ := V
  show Calls _ _ #[.agg #[.slice aI Q.n cI, .int .i64 Q.mode, .int .i64 Q.after, .slice aW Q.wn cW, .int .i64 Q.within, .string Q.by_, .slice aR Q.m cR]] w _
  have hnR := h.rR.small
  have HB := bnew (Below.refl w.heap.size w) (.cells #[.slice aI Q.n cI, .int .i64 Q.mode, .int .i64 Q.after, .slice aW Q.wn cW, .int .i64 Q.within, .string Q.by_, .slice aR Q.m cR] 40)
  have B0 := Lib.hid (blk_new w #[.slice aI Q.n cI, .int .i64 Q.mode, .int .i64 Q.after, .slice aW Q.wn cW, .int .i64 Q.within, .string Q.by_, .slice aR Q.m cR] 40)
  have HT2 := Lib.hid (h.later HB)
  clear h
  go_enter Tryd.func23, Tryd.ntmps23
  go_wp2_with fail
  generalize w.alloc _ = w2 at *
  refine (beyond_any aW Q.wn cW Q.wh _ HT2.out.rW).mono ?_
  rintro e w3 ⟨⟨b0, rfl⟩, hb3⟩
  go_wp2_with fail
  go_loopw [3, 4] (fun d i wr => ∃ (k : Nat) (b : Bool), k ≤ Q.m ∧ i = .int .i64 k ∧ d = .bool b ∧ Below w2.heap.size w2 wr) (fun _ i _ => Q.m - (intOf i).toNat)
  case atStart => exact ⟨0, b0, Nat.zero_le _, rfl, rfl, hb3⟩
  case round =>
    obtain ⟨k, b1, hk, rfl, rfl, hb⟩ := hrel
    obtain ⟨W1, e1⟩ : ∃ W1 : World, W1 = wr := ⟨_, rfl⟩
    subst e1
    have x6 := blk_cell (blk_below B0.out hb) (j := 6) rfl
    by_cases hlt : k < Q.m
    · obtain ⟨b, off, eA, hbl, hcs⟩ := (HT2.out.later hb).rR.spot (by omega)
      have eA : aR = _ := eA
      subst eA
      obtain ⟨aa, ac, d1, _, _, hrow⟩ := hcs k hlt
      have HR := Lib.hid hrow
      clear hcs hrow
      go_wp2_with fail
      refine (beyond_any aa (Q.ln k) ac (Q.rt k) _ HR.out).mono ?_
      rintro e w4 ⟨⟨b2, rfl⟩, hb4⟩
      cases b1
      all_goals
        go_wp2_with fail
        go_roundw
        case rel => exact ⟨k + 1, _, by omega, by go_num, rfl, bcall hb hb4⟩
        case measure => simp [intOf]; omega
    · go_wp2_with fail
      go_ret
      exact ⟨⟨_, rfl⟩, bcall HB hb⟩
end Go.Proofs.YtagcbljfaflhoaaDoor

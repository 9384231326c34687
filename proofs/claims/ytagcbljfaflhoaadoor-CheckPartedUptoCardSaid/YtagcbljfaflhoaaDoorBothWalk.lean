/-
  The walk of the statement's own 'both': the tree (c AND d).
-/
import Derived.Test.YtagcbljfaflhoaaDoorParted
import Derived.Test.YtagcbljfaflhoaaDoorTwinTree6
set_option linter.unusedSimpArgs false
set_option linter.unusedVariables false
namespace Go.Proofs.YtagcbljfaflhoaaDoor
open Go.RowKit Go.ChangeShapes Go.WideShapes Go.ChangeAt Go.Deep Go.Joins
set_option maxRecDepth 100000 in
set_option maxHeartbeats 4000000 in
theorem both_any (A : Option Addr) (cn c1 : Nat) (cf : Nat → Nod) (D : Option Addr) (dn c2 : Nat) (df : Nat → Nod) (w : World) (hcn : 0 < cn) (hc : cn ≤ 1048576) (hd : dn ≤ 1048576) (hl : cn ≤ c1) (hA : A = none → c1 = 0) (h : NodRd w w.heap.size A cn cf) (h' : NodRd w w.heap.size D dn df) (hs : ∀ j, j < dn → -1 ≤ (df j).a ∧ (df j).a < j ∧ -1 ≤ (df j).b ∧ (df j).b < j) :
    Calls Tryd.prog 32 #[.slice A cn c1, .slice D dn c2] w fun e w' => ∃ v', e = .returned v' ∧ Below w.heap.size w w' ∧ w'.ownsRow w.heap.size 60 6 v' (cn + dn + 1) (flat (fun j => nodCell (bothF cn cf dn df j)) 6 (cn + dn + 1)) := by
  obtain ⟨i0, hi0, hy0, hy1, hy2⟩ := info_parts infoNode
  have HT := Lib.hid h
  have HD := Lib.hid h'
  have HA := Lib.hid hA
  have HS := Lib.hid hs
  clear h h' hA hs
  go_enter Tryd.func32, Tryd.ntmps32
  go_wp2_with (at_builtin; go_loud (refine wpList_append_copy _ rfl _ _ _ rfl 60 i0 _ 6 64 Tryd.underlying22 hi0 hy0 hy1 hy2 rfl (by omega) (by omega) rfl A cn c1 w.heap.size (fun j => nodCell (cf j)) rfl hl HA.out HT.out (fun j _ i _ => nodCell_one (cf j) i) ?_; intro v1 w1 hown1 hb1))
  have HV1 : Hid (w1.ownsRow w.heap.size 60 6 v1 (cn + 0) (flat (fun j => nodCell (bothF cn cf dn df j)) 6 (cn + 0))) := Lib.hid (by
    rw [flat_congr (C' := fun j => nodCell (cf j)) (fun j hj i _ => by show nodCell (bothF cn cf dn df j) i = nodCell (cf j) i; rw [both_c (by omega)])]
    exact hown1)
  clear hown1
  go_loopw [6, 5] (fun i v wr => ∃ (k : Nat) (v0 : Value), k ≤ dn ∧ i = .int .i64 k ∧ v = v0 ∧ Below w.heap.size w wr ∧ Hid (wr.ownsRow w.heap.size 60 6 v0 (cn + k) (flat (fun j => nodCell (bothF cn cf dn df j)) 6 (cn + k)))) (fun i _ _ => dn - (intOf i).toNat)
  case atStart => exact ⟨0, _, Nat.zero_le _, rfl, rfl, hb1, HV1⟩
  case round =>
    obtain ⟨k, v, hk, rfl, hv, hb, HV⟩ := hrel
    have hv := hv.symm
    subst hv
    obtain ⟨W1, e1⟩ : ∃ W1 : World, W1 = wr := ⟨_, rfl⟩
    subst e1
    by_cases hlt : k < dn
    · obtain ⟨b, off, rfl, hbl, hcs⟩ := (HD.out.later hb).spot (by omega)
      obtain ⟨g0, g1, g2, g3, g4, g5⟩ := hcs k hlt
      have HN := Lib.hid (both_d (cn := cn) (cf := cf) (dn := dn) (df := df) hlt)
      have hrg := HS.out k hlt
      obtain ⟨x, hx⟩ : ∃ x, df k = x := ⟨_, rfl⟩
      rw [hx] at g0 g1 g2 g3 g4 g5 HN hrg
      obtain ⟨op, nn, vr, at_, a, b2⟩ := x
      have HX := Lib.hid hx
      have hne : ∀ u, Value.ownBlock u = some W1.heap.size → ¬ W1.ownsRow w.heap.size 60 6 u (cn + k) (flat (fun j => nodCell (bothF cn cf dn df j)) 6 (cn + k)) := fun u hu hr => by have := (hr.lt _ hu).2; omega
      have I5 := Lib.hid (blk_new W1 #[.int .i64 op, .int .i64 nn, .string vr, .string at_, .int .i64 a, .int .i64 b2] 60)
      have hb5 := hb.alloc hb.size (.cells #[.int .i64 op, .int .i64 nn, .string vr, .string at_, .int .i64 a, .int .i64 b2] 60)
      have hz5 : W1.heap.size < (W1.alloc (.cells #[.int .i64 op, .int .i64 nn, .string vr, .string at_, .int .i64 a, .int .i64 b2] 60)).heap.size := by simp
      have HV5 := Lib.hid (World.ownsRow.alloc HV.out (.cells #[.int .i64 op, .int .i64 nn, .string vr, .string at_, .int .i64 a, .int .i64 b2] 60))
      have hnb := fun hv => hne _ hv HV.out
      have hbs := hb.size
      obtain ⟨rg1, rg2, rg3, rg4⟩ : -1 ≤ a ∧ a < (k : Int) ∧ -1 ≤ b2 ∧ b2 < (k : Int) := hrg
      clear hcs hne HV hx
      go_upto_region 7 with fail
      generalize W1.alloc _ = w5 at *
      clear g0 g1 g2 g3 g4 g5
      have t4 := blk_cell I5.out (j := 4) rfl
      have t5 := blk_cell I5.out (j := 5) rfl
      have r4 := blk_free I5.out 4
      have r5 := blk_free I5.out 5
      by_cases ha : 0 ≤ a
      all_goals by_cases hb2' : 0 ≤ b2
      · have HN6 : Hid (bothF cn cf dn df (cn + k) = ⟨op, nn, vr, at_, (a + cn), (b2 + cn)⟩) := Lib.hid (by rw [HN.out]; simp [upN, ha, hb2'])
        have I6 : Hid (((w5.setCell ⟨W1.heap.size, 4, none⟩ (.int .i64 (a + cn))).setCell ⟨W1.heap.size, 5, none⟩ (.int .i64 (b2 + cn))).heap[W1.heap.size]? = some (.cells #[.int .i64 op, .int .i64 nn, .string vr, .string at_, .int .i64 (a + cn), .int .i64 (b2 + cn)] 60 (0, 0))) := Lib.hid (blk_set (blk_set I5.out 4 (.int .i64 (a + cn))) 5 (.int .i64 (b2 + cn)))
        have HV6 := Lib.hid (rowown_far (g := W1.heap.size) (i := 5) (rowown_far (g := W1.heap.size) (i := 4) HV5.out hnb (.int .i64 (a + cn))) hnb (.int .i64 (b2 + cn)))
        have hb6 := ((hb5.setCell (p := ⟨W1.heap.size, 4, none⟩) hbs (.int .i64 (a + cn))).setCell (p := ⟨W1.heap.size, 5, none⟩) hbs (.int .i64 (b2 + cn)))
        have hz6 : W1.heap.size < ((w5.setCell ⟨W1.heap.size, 4, none⟩ (.int .i64 (a + cn))).setCell ⟨W1.heap.size, 5, none⟩ (.int .i64 (b2 + cn))).heap.size := by simpa using hz5
        go_upto_region 11 with fail
        generalize World.setCell _ _ _ = w6 at *
        clear t4 t5 r4 r5
        go_wp2_with (first | (refine wpList_load_row rfl 60 _ rfl W1.heap.size rfl 60 _ (0, 0) _ I6.out Tryd.underlying60 rfl (by kernel_rfl) ?_) | (at_builtin; go_loud (refine wpList_append_lies _ rfl _ _ _ rfl w.heap.size 60 i0 _ 6 64 Tryd.underlying22 hi0 hy0 hy1 hy2 rfl (by omega) v (cn + k) (flat (fun j => nodCell (bothF cn cf dn df j)) 6 (cn + k)) rfl (HV6.out.alloc _) ⟨w6.heap.size, 0, none⟩ 1 1 [.int .i64 op, .int .i64 nn, .string vr, .string at_, .int .i64 (a + cn), .int .i64 (b2 + cn)] rfl rfl (World.news_of_block (cs := #[.int .i64 op, .int .i64 nn, .string vr, .string at_, .int .i64 (a + cn), .int .i64 (b2 + cn)]) (t := 60) (fr := (0, 0)) (heap_alloc_new w6 _)) (by simp [Value.oneCell']) (by omega) (by unfold maxLen; omega) (by omega) (by simp; omega) (w6.heap.size + 1) (by simp) ?_; intro gg gcap w9 hown9 hgrow hat hlt9)))
        have hb9 := below_grown (hb6.alloc (by omega) (.cells #[.int .i64 op, .int .i64 nn, .string vr, .string at_, .int .i64 (a + cn), .int .i64 (b2 + cn)] 60)) hgrow (by simp; omega) (fun x hx => (HV6.out.lt x hx).1)
        have HV9 : Hid (w9.ownsRow w.heap.size 60 6 (.slice (some ⟨gg, 0, none⟩) (cn + k + 1) gcap) (cn + (k + 1)) (flat (fun j => nodCell (bothF cn cf dn df j)) 6 (cn + (k + 1)))) := Lib.hid (by
          rw [show cn + (k + 1) = cn + k + 1 from rfl, flat_succ, HN6.out]
          exact hown9)
        go_roundw
        case rel => exact ⟨k + 1, _, by omega, by go_num, rfl, hb9, HV9⟩
        case measure => simp [intOf]; omega
      · have HN6 : Hid (bothF cn cf dn df (cn + k) = ⟨op, nn, vr, at_, (a + cn), b2⟩) := Lib.hid (by rw [HN.out]; simp [upN, ha, hb2'])
        have I6 : Hid ((w5.setCell ⟨W1.heap.size, 4, none⟩ (.int .i64 (a + cn))).heap[W1.heap.size]? = some (.cells #[.int .i64 op, .int .i64 nn, .string vr, .string at_, .int .i64 (a + cn), .int .i64 b2] 60 (0, 0))) := Lib.hid (blk_set I5.out 4 (.int .i64 (a + cn)))
        have HV6 := Lib.hid (rowown_far (g := W1.heap.size) (i := 4) HV5.out hnb (.int .i64 (a + cn)))
        have hb6 := (hb5.setCell (p := ⟨W1.heap.size, 4, none⟩) hbs (.int .i64 (a + cn)))
        have hz6 : W1.heap.size < (w5.setCell ⟨W1.heap.size, 4, none⟩ (.int .i64 (a + cn))).heap.size := by simpa using hz5
        go_upto_region 11 with fail
        generalize World.setCell _ _ _ = w6 at *
        clear t4 t5 r4 r5
        go_wp2_with (first | (refine wpList_load_row rfl 60 _ rfl W1.heap.size rfl 60 _ (0, 0) _ I6.out Tryd.underlying60 rfl (by kernel_rfl) ?_) | (at_builtin; go_loud (refine wpList_append_lies _ rfl _ _ _ rfl w.heap.size 60 i0 _ 6 64 Tryd.underlying22 hi0 hy0 hy1 hy2 rfl (by omega) v (cn + k) (flat (fun j => nodCell (bothF cn cf dn df j)) 6 (cn + k)) rfl (HV6.out.alloc _) ⟨w6.heap.size, 0, none⟩ 1 1 [.int .i64 op, .int .i64 nn, .string vr, .string at_, .int .i64 (a + cn), .int .i64 b2] rfl rfl (World.news_of_block (cs := #[.int .i64 op, .int .i64 nn, .string vr, .string at_, .int .i64 (a + cn), .int .i64 b2]) (t := 60) (fr := (0, 0)) (heap_alloc_new w6 _)) (by simp [Value.oneCell']) (by omega) (by unfold maxLen; omega) (by omega) (by simp; omega) (w6.heap.size + 1) (by simp) ?_; intro gg gcap w9 hown9 hgrow hat hlt9)))
        have hb9 := below_grown (hb6.alloc (by omega) (.cells #[.int .i64 op, .int .i64 nn, .string vr, .string at_, .int .i64 (a + cn), .int .i64 b2] 60)) hgrow (by simp; omega) (fun x hx => (HV6.out.lt x hx).1)
        have HV9 : Hid (w9.ownsRow w.heap.size 60 6 (.slice (some ⟨gg, 0, none⟩) (cn + k + 1) gcap) (cn + (k + 1)) (flat (fun j => nodCell (bothF cn cf dn df j)) 6 (cn + (k + 1)))) := Lib.hid (by
          rw [show cn + (k + 1) = cn + k + 1 from rfl, flat_succ, HN6.out]
          exact hown9)
        go_roundw
        case rel => exact ⟨k + 1, _, by omega, by go_num, rfl, hb9, HV9⟩
        case measure => simp [intOf]; omega
      · have HN6 : Hid (bothF cn cf dn df (cn + k) = ⟨op, nn, vr, at_, a, (b2 + cn)⟩) := Lib.hid (by rw [HN.out]; simp [upN, ha, hb2'])
        have I6 : Hid ((w5.setCell ⟨W1.heap.size, 5, none⟩ (.int .i64 (b2 + cn))).heap[W1.heap.size]? = some (.cells #[.int .i64 op, .int .i64 nn, .string vr, .string at_, .int .i64 a, .int .i64 (b2 + cn)] 60 (0, 0))) := Lib.hid (blk_set I5.out 5 (.int .i64 (b2 + cn)))
        have HV6 := Lib.hid (rowown_far (g := W1.heap.size) (i := 5) HV5.out hnb (.int .i64 (b2 + cn)))
        have hb6 := (hb5.setCell (p := ⟨W1.heap.size, 5, none⟩) hbs (.int .i64 (b2 + cn)))
        have hz6 : W1.heap.size < (w5.setCell ⟨W1.heap.size, 5, none⟩ (.int .i64 (b2 + cn))).heap.size := by simpa using hz5
        go_upto_region 11 with fail
        generalize World.setCell _ _ _ = w6 at *
        clear t4 t5 r4 r5
        go_wp2_with (first | (refine wpList_load_row rfl 60 _ rfl W1.heap.size rfl 60 _ (0, 0) _ I6.out Tryd.underlying60 rfl (by kernel_rfl) ?_) | (at_builtin; go_loud (refine wpList_append_lies _ rfl _ _ _ rfl w.heap.size 60 i0 _ 6 64 Tryd.underlying22 hi0 hy0 hy1 hy2 rfl (by omega) v (cn + k) (flat (fun j => nodCell (bothF cn cf dn df j)) 6 (cn + k)) rfl (HV6.out.alloc _) ⟨w6.heap.size, 0, none⟩ 1 1 [.int .i64 op, .int .i64 nn, .string vr, .string at_, .int .i64 a, .int .i64 (b2 + cn)] rfl rfl (World.news_of_block (cs := #[.int .i64 op, .int .i64 nn, .string vr, .string at_, .int .i64 a, .int .i64 (b2 + cn)]) (t := 60) (fr := (0, 0)) (heap_alloc_new w6 _)) (by simp [Value.oneCell']) (by omega) (by unfold maxLen; omega) (by omega) (by simp; omega) (w6.heap.size + 1) (by simp) ?_; intro gg gcap w9 hown9 hgrow hat hlt9)))
        have hb9 := below_grown (hb6.alloc (by omega) (.cells #[.int .i64 op, .int .i64 nn, .string vr, .string at_, .int .i64 a, .int .i64 (b2 + cn)] 60)) hgrow (by simp; omega) (fun x hx => (HV6.out.lt x hx).1)
        have HV9 : Hid (w9.ownsRow w.heap.size 60 6 (.slice (some ⟨gg, 0, none⟩) (cn + k + 1) gcap) (cn + (k + 1)) (flat (fun j => nodCell (bothF cn cf dn df j)) 6 (cn + (k + 1)))) := Lib.hid (by
          rw [show cn + (k + 1) = cn + k + 1 from rfl, flat_succ, HN6.out]
          exact hown9)
        go_roundw
        case rel => exact ⟨k + 1, _, by omega, by go_num, rfl, hb9, HV9⟩
        case measure => simp [intOf]; omega
      · have HN6 : Hid (bothF cn cf dn df (cn + k) = ⟨op, nn, vr, at_, a, b2⟩) := Lib.hid (by rw [HN.out]; simp [upN, ha, hb2'])
        have I6 : Hid (w5.heap[W1.heap.size]? = some (.cells #[.int .i64 op, .int .i64 nn, .string vr, .string at_, .int .i64 a, .int .i64 b2] 60 (0, 0))) := Lib.hid I5.out
        have HV6 := Lib.hid HV5.out
        have hb6 := hb5
        have hz6 : W1.heap.size < w5.heap.size := by simpa using hz5
        go_upto_region 11 with fail
        clear t4 t5 r4 r5
        go_wp2_with (first | (refine wpList_load_row rfl 60 _ rfl W1.heap.size rfl 60 _ (0, 0) _ I6.out Tryd.underlying60 rfl (by kernel_rfl) ?_) | (at_builtin; go_loud (refine wpList_append_lies _ rfl _ _ _ rfl w.heap.size 60 i0 _ 6 64 Tryd.underlying22 hi0 hy0 hy1 hy2 rfl (by omega) v (cn + k) (flat (fun j => nodCell (bothF cn cf dn df j)) 6 (cn + k)) rfl (HV6.out.alloc _) ⟨w5.heap.size, 0, none⟩ 1 1 [.int .i64 op, .int .i64 nn, .string vr, .string at_, .int .i64 a, .int .i64 b2] rfl rfl (World.news_of_block (cs := #[.int .i64 op, .int .i64 nn, .string vr, .string at_, .int .i64 a, .int .i64 b2]) (t := 60) (fr := (0, 0)) (heap_alloc_new w5 _)) (by simp [Value.oneCell']) (by omega) (by unfold maxLen; omega) (by omega) (by simp; omega) (w5.heap.size + 1) (by simp) ?_; intro gg gcap w9 hown9 hgrow hat hlt9)))
        have hb9 := below_grown (hb6.alloc (by omega) (.cells #[.int .i64 op, .int .i64 nn, .string vr, .string at_, .int .i64 a, .int .i64 b2] 60)) hgrow (by simp; omega) (fun x hx => (HV6.out.lt x hx).1)
        have HV9 : Hid (w9.ownsRow w.heap.size 60 6 (.slice (some ⟨gg, 0, none⟩) (cn + k + 1) gcap) (cn + (k + 1)) (flat (fun j => nodCell (bothF cn cf dn df j)) 6 (cn + (k + 1)))) := Lib.hid (by
          rw [show cn + (k + 1) = cn + k + 1 from rfl, flat_succ, HN6.out]
          exact hown9)
        go_roundw
        case rel => exact ⟨k + 1, _, by omega, by go_num, rfl, hb9, HV9⟩
        case measure => simp [intOf]; omega
    · obtain rfl : k = dn := by omega
      have HNL := Lib.hid (both_last (cn := cn) (cf := cf) (dn := k) (df := df))
      have hbs := hb.size
      go_wp2_with (at_builtin; go_loud (refine wpList_append_lies _ rfl _ _ _ rfl w.heap.size 60 i0 _ 6 64 Tryd.underlying22 hi0 hy0 hy1 hy2 rfl (by omega) v (cn + k) (flat (fun j => nodCell (bothF cn cf k df j)) 6 (cn + k)) rfl (HV.out.alloc _) ⟨W1.heap.size, 0, none⟩ 1 1 [.int .i64 25, .int .i64 0, .string ⟨#[]⟩, .string ⟨#[]⟩, .int .i64 ((cn : Int) - 1), .int .i64 ((cn : Int) + (k : Int) - 1)] rfl rfl (World.news_of_block (cs := #[.int .i64 25, .int .i64 0, .string ⟨#[]⟩, .string ⟨#[]⟩, .int .i64 ((cn : Int) - 1), .int .i64 ((cn : Int) + (k : Int) - 1)]) (t := 60) (fr := (0, 0)) (heap_alloc_new W1 _)) (by simp [Value.oneCell']) (by omega) (by unfold maxLen; omega) (by omega) (by simp; omega) (W1.heap.size + 1) (by simp) ?_; intro gg gcap w9 hown9 hgrow hat hlt9))
      have hb9 := below_grown (hb.alloc (by omega) (.cells #[.int .i64 25, .int .i64 0, .string ⟨#[]⟩, .string ⟨#[]⟩, .int .i64 ((cn : Int) - 1), .int .i64 ((cn : Int) + (k : Int) - 1)] 60)) hgrow (by simp; omega) (fun x hx => (HV.out.lt x hx).1)
      go_ret
      refine ⟨_, rfl, hb9, ?_⟩
      rw [flat_succ, HNL.out]
      exact hown9
end Go.Proofs.YtagcbljfaflhoaaDoor

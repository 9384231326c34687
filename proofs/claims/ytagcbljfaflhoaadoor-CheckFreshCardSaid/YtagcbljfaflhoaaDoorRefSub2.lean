/-
  The walk of the reference's Sub.
-/
import Derived.Test.YtagcbljfaflhoaaDoorRefSub
set_option linter.unusedSimpArgs false
set_option linter.unusedVariables false
namespace Go.Proofs.YtagcbljfaflhoaaDoor
open Go.RowKit Go.ChangeShapes Go.WideShapes Go.ChangeAt Go.Deep Go.Joins
set_option maxRecDepth 100000 in
set_option maxHeartbeats 4000000 in
theorem refSub_any (A : Option Addr) (n c : Nat) (f : Nat → Nod) (root : Int) (w : World) (h : NodRd w w.heap.size A n f) {tt : TypeId} {fr : Nat × Nat} (hkw : w.heap[0]? = some (.cells kwArr tt fr)) :
    Calls Tryd.prog 17 #[.slice A n c, .int .i64 root] w fun e w' => ∃ v', e = .returned v' ∧ Below w.heap.size w w' ∧ w'.ownsRow w.heap.size 60 6 v' (sizeI n f root) (flat (fun j => nodCell (subF n f root j)) 6 (sizeI n f root)) := by
  obtain ⟨i0, hi0, hy0, hy1, hy2⟩ := info_parts infoNode
  have hn := h.small
  have HT := Lib.hid h
  have HK := Lib.hid hkw
  clear h hkw
  go_enter Tryd.func17, Tryd.ntmps17
  go_wp2_with fail
  refine (refTree_any A n c f _ HT.out HK.out).mono ?_
  rintro e w2 ⟨rfl, hb2⟩
  cases ht : treeB n f
  · have HE := Lib.hid (sizeI_bad (n := n) (f := f) (root := root) ht)
    clear ht
    go_wp2_with fail
    go_ret
    exact ⟨_, rfl, hb2, by rw [HE.out, flat_zero]; exact World.ownsRow_nil _ _ _ _⟩
  · obtain ⟨h0, hs, hl0, _⟩ := tree_shp ht
    have HE := Lib.hid (cnt_in_end (root := root) ht)
    have hf : ∀ j, subF n f root j = shiftN (f (begF n f root.toNat + j)) (begF n f root.toNat) := fun _ => rfl
    obtain ⟨l, hl⟩ : ∃ l, begF n f = l := ⟨_, rfl⟩
    rw [hl] at HE hs hl0 hf
    obtain ⟨q, hq⟩ : ∃ q, l root.toNat = q := ⟨_, rfl⟩
    rw [hq] at hf
    have HF := Lib.hid hf
    have HC : Hid (∀ i, subB n l root i = true → cntIn n l root i = i - q ∧ cntIn n l root (i + 1) = i - q + 1 ∧ q ≤ i) := Lib.hid (fun i hi => by obtain ⟨_, _, a, _, b, c⟩ := cnt_in_hit hi; rw [hq] at a b c; exact ⟨b, c, a⟩)
    have HS := Lib.hid hs
    clear ht hl hf hq
    go_wp2_with fail
    refine (below_any A n c f l root hs h0 hl0 _ (HT.out.later hb2)).mono ?_
    rintro e w3 ⟨g, rfl, hb23, hg, hG⟩
    have hb3 := bcall hb2 hb23
    have G := Lib.hid hG
    clear hG hs hl0
    have hz := cnt_in_zero (n := n) (l := l) (root := root)
    go_wp2_with fail
    go_loopw [9, 8, 7] (fun i s v wr => ∃ (k : Nat) (s0 : Int) (v0 : Value), k ≤ n ∧ i = .int .i64 k ∧ s = .int .i64 s0 ∧ v = v0 ∧ ((cntIn n l root k = 0 → s0 = -1) ∧ (cntIn n l root k ≠ 0 → s0 = q)) ∧ Below w3.heap.size w3 wr ∧ Hid (wr.ownsRow w3.heap.size 60 6 v0 (cntIn n l root k) (flat (fun j => nodCell (subF n f root j)) 6 (cntIn n l root k)))) (fun i _ _ _ => n - (intOf i).toNat)
    case atStart => exact ⟨0, -1, _, Nat.zero_le _, rfl, rfl, rfl, ⟨fun _ => rfl, fun h => absurd hz h⟩, Below.refl _ _, Lib.hid (by rw [hz, flat_zero]; exact World.ownsRow_nil _ _ _ _)⟩
    case round =>
      obtain ⟨k, s0, v, hk, rfl, rfl, hv, ⟨hs1, hs2⟩, hb, HV⟩ := hrel
      have hv := hv.symm
      subst hv
      obtain ⟨W1, e1⟩ : ∃ W1 : World, W1 = wr := ⟨_, rfl⟩
      subst e1
      have hck := cnt_in_le (n := n) (l := l) (root := root) (i := k)
      by_cases hlt : k < n
      · have GU := Lib.hid (blk_below G.out hb)
        cases hin : subB n l root k
        · have e4 := bol_cell GU.out hlt hin
          have hnx := cnt_in_miss hin
          go_wp2_with fail
          go_roundw
          case rel => exact ⟨k + 1, s0, v, by omega, by go_num, rfl, rfl, by rw [hnx]; exact ⟨hs1, hs2⟩, hb, by rw [hnx]; exact HV⟩
          case measure => simp [intOf]; omega
        · have e4 := bol_cell GU.out hlt hin
          obtain ⟨hn1, hn2, hn3⟩ := HC.out k hin
          obtain ⟨b, off, rfl, hbl, hcs⟩ := (HT.out.later (bcall hb3 hb)).spot (by omega)
          obtain ⟨g0, g1, g2, g3, g4, g5⟩ := hcs k hlt
          have HN := Lib.hid (HF.out (k - q))
          have hkq : q + (k - q) = k := by omega
          rw [hkq] at HN
          obtain ⟨x, hx⟩ : ∃ x, f k = x := ⟨_, rfl⟩
          rw [hx] at g0 g1 g2 g3 g4 g5 HN
          obtain ⟨op, nn, vr, at_, a, b2⟩ := x
          have HX := Lib.hid hx
          rw [hn1] at HV
          have hne : ∀ u, Value.ownBlock u = some W1.heap.size → ¬ W1.ownsRow w3.heap.size 60 6 u (k - q) (flat (fun j => nodCell (subF n f root j)) 6 (k - q)) := fun u hu hr => by have := (hr.lt _ hu).2; omega
          have I5 := Lib.hid (blk_new W1 #[.int .i64 op, .int .i64 nn, .string vr, .string at_, .int .i64 a, .int .i64 b2] 60)
          have hb5 := hb.alloc hb.size (.cells #[.int .i64 op, .int .i64 nn, .string vr, .string at_, .int .i64 a, .int .i64 b2] 60)
          have hz5 : W1.heap.size < (W1.alloc (.cells #[.int .i64 op, .int .i64 nn, .string vr, .string at_, .int .i64 a, .int .i64 b2] 60)).heap.size := by simp
          have HV5 := Lib.hid (World.ownsRow.alloc HV.out (.cells #[.int .i64 op, .int .i64 nn, .string vr, .string at_, .int .i64 a, .int .i64 b2] 60))
          have hnb := fun hv => hne _ hv HV.out
          have hbs := hb.size
          obtain ⟨rg1, rg2, rg3, rg4⟩ : -1 ≤ a ∧ a < (k : Int) ∧ -1 ≤ b2 ∧ b2 < (k : Int) := by have := HS.out.rng hlt; rw [hx] at this; exact this
          clear hcs hn3 hne HV hx
          by_cases hkq2 : k = q
          · subst hkq2
            obtain rfl := hs1 (by omega)
            go_upto_region 14 with fail
            generalize W1.alloc _ = w5 at *
            clear g0 g1 g2 g3 g4 g5
            have t4 := blk_cell I5.out (j := 4) rfl
            have t5 := blk_cell I5.out (j := 5) rfl
            have r4 := blk_free I5.out 4
            have r5 := blk_free I5.out 5
            by_cases ha : 0 ≤ a
            all_goals by_cases hb2' : 0 ≤ b2
            · have HN6 : Hid (subF n f root (k - k) = ⟨op, nn, vr, at_, (a - k), (b2 - k)⟩) := Lib.hid (by rw [HN.out]; simp [shiftN, ha, hb2'])
              have I6 : Hid (((w5.setCell ⟨W1.heap.size, 4, none⟩ (.int .i64 (a - k))).setCell ⟨W1.heap.size, 5, none⟩ (.int .i64 (b2 - k))).heap[W1.heap.size]? = some (.cells #[.int .i64 op, .int .i64 nn, .string vr, .string at_, .int .i64 (a - k), .int .i64 (b2 - k)] 60 (0, 0))) := Lib.hid (blk_set (blk_set I5.out 4 (.int .i64 (a - k))) 5 (.int .i64 (b2 - k)))
              have HV6 := Lib.hid (rowown_far (g := W1.heap.size) (i := 5) (rowown_far (g := W1.heap.size) (i := 4) HV5.out hnb (.int .i64 (a - k))) hnb (.int .i64 (b2 - k)))
              have hb6 := ((hb5.setCell (p := ⟨W1.heap.size, 4, none⟩) hbs (.int .i64 (a - k))).setCell (p := ⟨W1.heap.size, 5, none⟩) hbs (.int .i64 (b2 - k)))
              have hz6 : W1.heap.size < ((w5.setCell ⟨W1.heap.size, 4, none⟩ (.int .i64 (a - k))).setCell ⟨W1.heap.size, 5, none⟩ (.int .i64 (b2 - k))).heap.size := by simpa using hz5
              go_upto_region 18 with fail
              generalize World.setCell _ _ _ = w6 at *
              clear t4 t5 r4 r5
              go_wp2_with (first | (refine wpList_load_row rfl 60 _ rfl W1.heap.size rfl 60 _ (0, 0) _ I6.out Tryd.underlying60 rfl (by kernel_rfl) ?_) | (at_builtin; go_loud (refine wpList_append_lies _ rfl _ _ _ rfl w3.heap.size 60 i0 _ 6 64 Tryd.underlying22 hi0 hy0 hy1 hy2 rfl (by omega) v (k - k) (flat (fun j => nodCell (subF n f root j)) 6 (k - k)) rfl (HV6.out.alloc _) ⟨w6.heap.size, 0, none⟩ 1 1 [.int .i64 op, .int .i64 nn, .string vr, .string at_, .int .i64 (a - k), .int .i64 (b2 - k)] rfl rfl (World.news_of_block (cs := #[.int .i64 op, .int .i64 nn, .string vr, .string at_, .int .i64 (a - k), .int .i64 (b2 - k)]) (t := 60) (fr := (0, 0)) (heap_alloc_new w6 _)) (by simp [Value.oneCell']) (by omega) (by unfold maxLen; omega) (by omega) (by simp; omega) (w6.heap.size + 1) (by simp) ?_; intro gg gcap w9 hown9 hgrow hat hlt9)))
              have hb9 := below_grown (hb6.alloc (by omega) (.cells #[.int .i64 op, .int .i64 nn, .string vr, .string at_, .int .i64 (a - k), .int .i64 (b2 - k)] 60)) hgrow (by simp; omega) (fun x hx => (HV6.out.lt x hx).1)
              have HV9 : Hid (w9.ownsRow w3.heap.size 60 6 (.slice (some ⟨gg, 0, none⟩) (k - k + 1) gcap) (cntIn n l root (k + 1)) (flat (fun j => nodCell (subF n f root j)) 6 (cntIn n l root (k + 1)))) := Lib.hid (by
                rw [hn2, flat_succ, HN6.out]
                exact hown9)
              go_roundw
              case rel => exact ⟨k + 1, _, _, by omega, by go_num, rfl, rfl, ⟨fun h => by omega, fun _ => by omega⟩, hb9, (by first | exact HV9 | simpa using HV9)⟩
              case measure => simp [intOf]; omega
            · have HN6 : Hid (subF n f root (k - k) = ⟨op, nn, vr, at_, (a - k), b2⟩) := Lib.hid (by rw [HN.out]; simp [shiftN, ha, hb2'])
              have I6 : Hid ((w5.setCell ⟨W1.heap.size, 4, none⟩ (.int .i64 (a - k))).heap[W1.heap.size]? = some (.cells #[.int .i64 op, .int .i64 nn, .string vr, .string at_, .int .i64 (a - k), .int .i64 b2] 60 (0, 0))) := Lib.hid (blk_set I5.out 4 (.int .i64 (a - k)))
              have HV6 := Lib.hid (rowown_far (g := W1.heap.size) (i := 4) HV5.out hnb (.int .i64 (a - k)))
              have hb6 := (hb5.setCell (p := ⟨W1.heap.size, 4, none⟩) hbs (.int .i64 (a - k)))
              have hz6 : W1.heap.size < (w5.setCell ⟨W1.heap.size, 4, none⟩ (.int .i64 (a - k))).heap.size := by simpa using hz5
              go_upto_region 18 with fail
              generalize World.setCell _ _ _ = w6 at *
              clear t4 t5 r4 r5
              go_wp2_with (first | (refine wpList_load_row rfl 60 _ rfl W1.heap.size rfl 60 _ (0, 0) _ I6.out Tryd.underlying60 rfl (by kernel_rfl) ?_) | (at_builtin; go_loud (refine wpList_append_lies _ rfl _ _ _ rfl w3.heap.size 60 i0 _ 6 64 Tryd.underlying22 hi0 hy0 hy1 hy2 rfl (by omega) v (k - k) (flat (fun j => nodCell (subF n f root j)) 6 (k - k)) rfl (HV6.out.alloc _) ⟨w6.heap.size, 0, none⟩ 1 1 [.int .i64 op, .int .i64 nn, .string vr, .string at_, .int .i64 (a - k), .int .i64 b2] rfl rfl (World.news_of_block (cs := #[.int .i64 op, .int .i64 nn, .string vr, .string at_, .int .i64 (a - k), .int .i64 b2]) (t := 60) (fr := (0, 0)) (heap_alloc_new w6 _)) (by simp [Value.oneCell']) (by omega) (by unfold maxLen; omega) (by omega) (by simp; omega) (w6.heap.size + 1) (by simp) ?_; intro gg gcap w9 hown9 hgrow hat hlt9)))
              have hb9 := below_grown (hb6.alloc (by omega) (.cells #[.int .i64 op, .int .i64 nn, .string vr, .string at_, .int .i64 (a - k), .int .i64 b2] 60)) hgrow (by simp; omega) (fun x hx => (HV6.out.lt x hx).1)
              have HV9 : Hid (w9.ownsRow w3.heap.size 60 6 (.slice (some ⟨gg, 0, none⟩) (k - k + 1) gcap) (cntIn n l root (k + 1)) (flat (fun j => nodCell (subF n f root j)) 6 (cntIn n l root (k + 1)))) := Lib.hid (by
                rw [hn2, flat_succ, HN6.out]
                exact hown9)
              go_roundw
              case rel => exact ⟨k + 1, _, _, by omega, by go_num, rfl, rfl, ⟨fun h => by omega, fun _ => by omega⟩, hb9, (by first | exact HV9 | simpa using HV9)⟩
              case measure => simp [intOf]; omega
            · have HN6 : Hid (subF n f root (k - k) = ⟨op, nn, vr, at_, a, (b2 - k)⟩) := Lib.hid (by rw [HN.out]; simp [shiftN, ha, hb2'])
              have I6 : Hid ((w5.setCell ⟨W1.heap.size, 5, none⟩ (.int .i64 (b2 - k))).heap[W1.heap.size]? = some (.cells #[.int .i64 op, .int .i64 nn, .string vr, .string at_, .int .i64 a, .int .i64 (b2 - k)] 60 (0, 0))) := Lib.hid (blk_set I5.out 5 (.int .i64 (b2 - k)))
              have HV6 := Lib.hid (rowown_far (g := W1.heap.size) (i := 5) HV5.out hnb (.int .i64 (b2 - k)))
              have hb6 := (hb5.setCell (p := ⟨W1.heap.size, 5, none⟩) hbs (.int .i64 (b2 - k)))
              have hz6 : W1.heap.size < (w5.setCell ⟨W1.heap.size, 5, none⟩ (.int .i64 (b2 - k))).heap.size := by simpa using hz5
              go_upto_region 18 with fail
              generalize World.setCell _ _ _ = w6 at *
              clear t4 t5 r4 r5
              go_wp2_with (first | (refine wpList_load_row rfl 60 _ rfl W1.heap.size rfl 60 _ (0, 0) _ I6.out Tryd.underlying60 rfl (by kernel_rfl) ?_) | (at_builtin; go_loud (refine wpList_append_lies _ rfl _ _ _ rfl w3.heap.size 60 i0 _ 6 64 Tryd.underlying22 hi0 hy0 hy1 hy2 rfl (by omega) v (k - k) (flat (fun j => nodCell (subF n f root j)) 6 (k - k)) rfl (HV6.out.alloc _) ⟨w6.heap.size, 0, none⟩ 1 1 [.int .i64 op, .int .i64 nn, .string vr, .string at_, .int .i64 a, .int .i64 (b2 - k)] rfl rfl (World.news_of_block (cs := #[.int .i64 op, .int .i64 nn, .string vr, .string at_, .int .i64 a, .int .i64 (b2 - k)]) (t := 60) (fr := (0, 0)) (heap_alloc_new w6 _)) (by simp [Value.oneCell']) (by omega) (by unfold maxLen; omega) (by omega) (by simp; omega) (w6.heap.size + 1) (by simp) ?_; intro gg gcap w9 hown9 hgrow hat hlt9)))
              have hb9 := below_grown (hb6.alloc (by omega) (.cells #[.int .i64 op, .int .i64 nn, .string vr, .string at_, .int .i64 a, .int .i64 (b2 - k)] 60)) hgrow (by simp; omega) (fun x hx => (HV6.out.lt x hx).1)
              have HV9 : Hid (w9.ownsRow w3.heap.size 60 6 (.slice (some ⟨gg, 0, none⟩) (k - k + 1) gcap) (cntIn n l root (k + 1)) (flat (fun j => nodCell (subF n f root j)) 6 (cntIn n l root (k + 1)))) := Lib.hid (by
                rw [hn2, flat_succ, HN6.out]
                exact hown9)
              go_roundw
              case rel => exact ⟨k + 1, _, _, by omega, by go_num, rfl, rfl, ⟨fun h => by omega, fun _ => by omega⟩, hb9, (by first | exact HV9 | simpa using HV9)⟩
              case measure => simp [intOf]; omega
            · have HN6 : Hid (subF n f root (k - k) = ⟨op, nn, vr, at_, a, b2⟩) := Lib.hid (by rw [HN.out]; simp [shiftN, ha, hb2'])
              have I6 : Hid (w5.heap[W1.heap.size]? = some (.cells #[.int .i64 op, .int .i64 nn, .string vr, .string at_, .int .i64 a, .int .i64 b2] 60 (0, 0))) := Lib.hid I5.out
              have HV6 := Lib.hid HV5.out
              have hb6 := hb5
              have hz6 : W1.heap.size < w5.heap.size := by simpa using hz5
              go_upto_region 18 with fail
              clear t4 t5 r4 r5
              go_wp2_with (first | (refine wpList_load_row rfl 60 _ rfl W1.heap.size rfl 60 _ (0, 0) _ I6.out Tryd.underlying60 rfl (by kernel_rfl) ?_) | (at_builtin; go_loud (refine wpList_append_lies _ rfl _ _ _ rfl w3.heap.size 60 i0 _ 6 64 Tryd.underlying22 hi0 hy0 hy1 hy2 rfl (by omega) v (k - k) (flat (fun j => nodCell (subF n f root j)) 6 (k - k)) rfl (HV6.out.alloc _) ⟨w5.heap.size, 0, none⟩ 1 1 [.int .i64 op, .int .i64 nn, .string vr, .string at_, .int .i64 a, .int .i64 b2] rfl rfl (World.news_of_block (cs := #[.int .i64 op, .int .i64 nn, .string vr, .string at_, .int .i64 a, .int .i64 b2]) (t := 60) (fr := (0, 0)) (heap_alloc_new w5 _)) (by simp [Value.oneCell']) (by omega) (by unfold maxLen; omega) (by omega) (by simp; omega) (w5.heap.size + 1) (by simp) ?_; intro gg gcap w9 hown9 hgrow hat hlt9)))
              have hb9 := below_grown (hb6.alloc (by omega) (.cells #[.int .i64 op, .int .i64 nn, .string vr, .string at_, .int .i64 a, .int .i64 b2] 60)) hgrow (by simp; omega) (fun x hx => (HV6.out.lt x hx).1)
              have HV9 : Hid (w9.ownsRow w3.heap.size 60 6 (.slice (some ⟨gg, 0, none⟩) (k - k + 1) gcap) (cntIn n l root (k + 1)) (flat (fun j => nodCell (subF n f root j)) 6 (cntIn n l root (k + 1)))) := Lib.hid (by
                rw [hn2, flat_succ, HN6.out]
                exact hown9)
              go_roundw
              case rel => exact ⟨k + 1, _, _, by omega, by go_num, rfl, rfl, ⟨fun h => by omega, fun _ => by omega⟩, hb9, (by first | exact HV9 | simpa using HV9)⟩
              case measure => simp [intOf]; omega
          · obtain rfl := hs2 (by omega)
            have hq0 : ¬ (q : Int) < 0 := by omega
            go_upto_region 14 with fail
            generalize W1.alloc _ = w5 at *
            clear g0 g1 g2 g3 g4 g5
            have t4 := blk_cell I5.out (j := 4) rfl
            have t5 := blk_cell I5.out (j := 5) rfl
            have r4 := blk_free I5.out 4
            have r5 := blk_free I5.out 5
            by_cases ha : 0 ≤ a
            all_goals by_cases hb2' : 0 ≤ b2
            · have HN6 : Hid (subF n f root (k - q) = ⟨op, nn, vr, at_, (a - q), (b2 - q)⟩) := Lib.hid (by rw [HN.out]; simp [shiftN, ha, hb2'])
              have I6 : Hid (((w5.setCell ⟨W1.heap.size, 4, none⟩ (.int .i64 (a - q))).setCell ⟨W1.heap.size, 5, none⟩ (.int .i64 (b2 - q))).heap[W1.heap.size]? = some (.cells #[.int .i64 op, .int .i64 nn, .string vr, .string at_, .int .i64 (a - q), .int .i64 (b2 - q)] 60 (0, 0))) := Lib.hid (blk_set (blk_set I5.out 4 (.int .i64 (a - q))) 5 (.int .i64 (b2 - q)))
              have HV6 := Lib.hid (rowown_far (g := W1.heap.size) (i := 5) (rowown_far (g := W1.heap.size) (i := 4) HV5.out hnb (.int .i64 (a - q))) hnb (.int .i64 (b2 - q)))
              have hb6 := ((hb5.setCell (p := ⟨W1.heap.size, 4, none⟩) hbs (.int .i64 (a - q))).setCell (p := ⟨W1.heap.size, 5, none⟩) hbs (.int .i64 (b2 - q)))
              have hz6 : W1.heap.size < ((w5.setCell ⟨W1.heap.size, 4, none⟩ (.int .i64 (a - q))).setCell ⟨W1.heap.size, 5, none⟩ (.int .i64 (b2 - q))).heap.size := by simpa using hz5
              go_upto_region 18 with fail
              generalize World.setCell _ _ _ = w6 at *
              clear t4 t5 r4 r5
              go_wp2_with (first | (refine wpList_load_row rfl 60 _ rfl W1.heap.size rfl 60 _ (0, 0) _ I6.out Tryd.underlying60 rfl (by kernel_rfl) ?_) | (at_builtin; go_loud (refine wpList_append_lies _ rfl _ _ _ rfl w3.heap.size 60 i0 _ 6 64 Tryd.underlying22 hi0 hy0 hy1 hy2 rfl (by omega) v (k - q) (flat (fun j => nodCell (subF n f root j)) 6 (k - q)) rfl (HV6.out.alloc _) ⟨w6.heap.size, 0, none⟩ 1 1 [.int .i64 op, .int .i64 nn, .string vr, .string at_, .int .i64 (a - q), .int .i64 (b2 - q)] rfl rfl (World.news_of_block (cs := #[.int .i64 op, .int .i64 nn, .string vr, .string at_, .int .i64 (a - q), .int .i64 (b2 - q)]) (t := 60) (fr := (0, 0)) (heap_alloc_new w6 _)) (by simp [Value.oneCell']) (by omega) (by unfold maxLen; omega) (by omega) (by simp; omega) (w6.heap.size + 1) (by simp) ?_; intro gg gcap w9 hown9 hgrow hat hlt9)))
              have hb9 := below_grown (hb6.alloc (by omega) (.cells #[.int .i64 op, .int .i64 nn, .string vr, .string at_, .int .i64 (a - q), .int .i64 (b2 - q)] 60)) hgrow (by simp; omega) (fun x hx => (HV6.out.lt x hx).1)
              have HV9 : Hid (w9.ownsRow w3.heap.size 60 6 (.slice (some ⟨gg, 0, none⟩) (k - q + 1) gcap) (cntIn n l root (k + 1)) (flat (fun j => nodCell (subF n f root j)) 6 (cntIn n l root (k + 1)))) := Lib.hid (by
                rw [hn2, flat_succ, HN6.out]
                exact hown9)
              go_roundw
              case rel => exact ⟨k + 1, _, _, by omega, by go_num, rfl, rfl, ⟨fun h => by omega, fun _ => by omega⟩, hb9, (by first | exact HV9 | simpa using HV9)⟩
              case measure => simp [intOf]; omega
            · have HN6 : Hid (subF n f root (k - q) = ⟨op, nn, vr, at_, (a - q), b2⟩) := Lib.hid (by rw [HN.out]; simp [shiftN, ha, hb2'])
              have I6 : Hid ((w5.setCell ⟨W1.heap.size, 4, none⟩ (.int .i64 (a - q))).heap[W1.heap.size]? = some (.cells #[.int .i64 op, .int .i64 nn, .string vr, .string at_, .int .i64 (a - q), .int .i64 b2] 60 (0, 0))) := Lib.hid (blk_set I5.out 4 (.int .i64 (a - q)))
              have HV6 := Lib.hid (rowown_far (g := W1.heap.size) (i := 4) HV5.out hnb (.int .i64 (a - q)))
              have hb6 := (hb5.setCell (p := ⟨W1.heap.size, 4, none⟩) hbs (.int .i64 (a - q)))
              have hz6 : W1.heap.size < (w5.setCell ⟨W1.heap.size, 4, none⟩ (.int .i64 (a - q))).heap.size := by simpa using hz5
              go_upto_region 18 with fail
              generalize World.setCell _ _ _ = w6 at *
              clear t4 t5 r4 r5
              go_wp2_with (first | (refine wpList_load_row rfl 60 _ rfl W1.heap.size rfl 60 _ (0, 0) _ I6.out Tryd.underlying60 rfl (by kernel_rfl) ?_) | (at_builtin; go_loud (refine wpList_append_lies _ rfl _ _ _ rfl w3.heap.size 60 i0 _ 6 64 Tryd.underlying22 hi0 hy0 hy1 hy2 rfl (by omega) v (k - q) (flat (fun j => nodCell (subF n f root j)) 6 (k - q)) rfl (HV6.out.alloc _) ⟨w6.heap.size, 0, none⟩ 1 1 [.int .i64 op, .int .i64 nn, .string vr, .string at_, .int .i64 (a - q), .int .i64 b2] rfl rfl (World.news_of_block (cs := #[.int .i64 op, .int .i64 nn, .string vr, .string at_, .int .i64 (a - q), .int .i64 b2]) (t := 60) (fr := (0, 0)) (heap_alloc_new w6 _)) (by simp [Value.oneCell']) (by omega) (by unfold maxLen; omega) (by omega) (by simp; omega) (w6.heap.size + 1) (by simp) ?_; intro gg gcap w9 hown9 hgrow hat hlt9)))
              have hb9 := below_grown (hb6.alloc (by omega) (.cells #[.int .i64 op, .int .i64 nn, .string vr, .string at_, .int .i64 (a - q), .int .i64 b2] 60)) hgrow (by simp; omega) (fun x hx => (HV6.out.lt x hx).1)
              have HV9 : Hid (w9.ownsRow w3.heap.size 60 6 (.slice (some ⟨gg, 0, none⟩) (k - q + 1) gcap) (cntIn n l root (k + 1)) (flat (fun j => nodCell (subF n f root j)) 6 (cntIn n l root (k + 1)))) := Lib.hid (by
                rw [hn2, flat_succ, HN6.out]
                exact hown9)
              go_roundw
              case rel => exact ⟨k + 1, _, _, by omega, by go_num, rfl, rfl, ⟨fun h => by omega, fun _ => by omega⟩, hb9, (by first | exact HV9 | simpa using HV9)⟩
              case measure => simp [intOf]; omega
            · have HN6 : Hid (subF n f root (k - q) = ⟨op, nn, vr, at_, a, (b2 - q)⟩) := Lib.hid (by rw [HN.out]; simp [shiftN, ha, hb2'])
              have I6 : Hid ((w5.setCell ⟨W1.heap.size, 5, none⟩ (.int .i64 (b2 - q))).heap[W1.heap.size]? = some (.cells #[.int .i64 op, .int .i64 nn, .string vr, .string at_, .int .i64 a, .int .i64 (b2 - q)] 60 (0, 0))) := Lib.hid (blk_set I5.out 5 (.int .i64 (b2 - q)))
              have HV6 := Lib.hid (rowown_far (g := W1.heap.size) (i := 5) HV5.out hnb (.int .i64 (b2 - q)))
              have hb6 := (hb5.setCell (p := ⟨W1.heap.size, 5, none⟩) hbs (.int .i64 (b2 - q)))
              have hz6 : W1.heap.size < (w5.setCell ⟨W1.heap.size, 5, none⟩ (.int .i64 (b2 - q))).heap.size := by simpa using hz5
              go_upto_region 18 with fail
              generalize World.setCell _ _ _ = w6 at *
              clear t4 t5 r4 r5
              go_wp2_with (first | (refine wpList_load_row rfl 60 _ rfl W1.heap.size rfl 60 _ (0, 0) _ I6.out Tryd.underlying60 rfl (by kernel_rfl) ?_) | (at_builtin; go_loud (refine wpList_append_lies _ rfl _ _ _ rfl w3.heap.size 60 i0 _ 6 64 Tryd.underlying22 hi0 hy0 hy1 hy2 rfl (by omega) v (k - q) (flat (fun j => nodCell (subF n f root j)) 6 (k - q)) rfl (HV6.out.alloc _) ⟨w6.heap.size, 0, none⟩ 1 1 [.int .i64 op, .int .i64 nn, .string vr, .string at_, .int .i64 a, .int .i64 (b2 - q)] rfl rfl (World.news_of_block (cs := #[.int .i64 op, .int .i64 nn, .string vr, .string at_, .int .i64 a, .int .i64 (b2 - q)]) (t := 60) (fr := (0, 0)) (heap_alloc_new w6 _)) (by simp [Value.oneCell']) (by omega) (by unfold maxLen; omega) (by omega) (by simp; omega) (w6.heap.size + 1) (by simp) ?_; intro gg gcap w9 hown9 hgrow hat hlt9)))
              have hb9 := below_grown (hb6.alloc (by omega) (.cells #[.int .i64 op, .int .i64 nn, .string vr, .string at_, .int .i64 a, .int .i64 (b2 - q)] 60)) hgrow (by simp; omega) (fun x hx => (HV6.out.lt x hx).1)
              have HV9 : Hid (w9.ownsRow w3.heap.size 60 6 (.slice (some ⟨gg, 0, none⟩) (k - q + 1) gcap) (cntIn n l root (k + 1)) (flat (fun j => nodCell (subF n f root j)) 6 (cntIn n l root (k + 1)))) := Lib.hid (by
                rw [hn2, flat_succ, HN6.out]
                exact hown9)
              go_roundw
              case rel => exact ⟨k + 1, _, _, by omega, by go_num, rfl, rfl, ⟨fun h => by omega, fun _ => by omega⟩, hb9, (by first | exact HV9 | simpa using HV9)⟩
              case measure => simp [intOf]; omega
            · have HN6 : Hid (subF n f root (k - q) = ⟨op, nn, vr, at_, a, b2⟩) := Lib.hid (by rw [HN.out]; simp [shiftN, ha, hb2'])
              have I6 : Hid (w5.heap[W1.heap.size]? = some (.cells #[.int .i64 op, .int .i64 nn, .string vr, .string at_, .int .i64 a, .int .i64 b2] 60 (0, 0))) := Lib.hid I5.out
              have HV6 := Lib.hid HV5.out
              have hb6 := hb5
              have hz6 : W1.heap.size < w5.heap.size := by simpa using hz5
              go_upto_region 18 with fail
              clear t4 t5 r4 r5
              go_wp2_with (first | (refine wpList_load_row rfl 60 _ rfl W1.heap.size rfl 60 _ (0, 0) _ I6.out Tryd.underlying60 rfl (by kernel_rfl) ?_) | (at_builtin; go_loud (refine wpList_append_lies _ rfl _ _ _ rfl w3.heap.size 60 i0 _ 6 64 Tryd.underlying22 hi0 hy0 hy1 hy2 rfl (by omega) v (k - q) (flat (fun j => nodCell (subF n f root j)) 6 (k - q)) rfl (HV6.out.alloc _) ⟨w5.heap.size, 0, none⟩ 1 1 [.int .i64 op, .int .i64 nn, .string vr, .string at_, .int .i64 a, .int .i64 b2] rfl rfl (World.news_of_block (cs := #[.int .i64 op, .int .i64 nn, .string vr, .string at_, .int .i64 a, .int .i64 b2]) (t := 60) (fr := (0, 0)) (heap_alloc_new w5 _)) (by simp [Value.oneCell']) (by omega) (by unfold maxLen; omega) (by omega) (by simp; omega) (w5.heap.size + 1) (by simp) ?_; intro gg gcap w9 hown9 hgrow hat hlt9)))
              have hb9 := below_grown (hb6.alloc (by omega) (.cells #[.int .i64 op, .int .i64 nn, .string vr, .string at_, .int .i64 a, .int .i64 b2] 60)) hgrow (by simp; omega) (fun x hx => (HV6.out.lt x hx).1)
              have HV9 : Hid (w9.ownsRow w3.heap.size 60 6 (.slice (some ⟨gg, 0, none⟩) (k - q + 1) gcap) (cntIn n l root (k + 1)) (flat (fun j => nodCell (subF n f root j)) 6 (cntIn n l root (k + 1)))) := Lib.hid (by
                rw [hn2, flat_succ, HN6.out]
                exact hown9)
              go_roundw
              case rel => exact ⟨k + 1, _, _, by omega, by go_num, rfl, rfl, ⟨fun h => by omega, fun _ => by omega⟩, hb9, (by first | exact HV9 | simpa using HV9)⟩
              case measure => simp [intOf]; omega
      · obtain rfl : k = n := by omega
        go_wp2_with fail
        go_ret
        exact ⟨_, rfl, bcall hb3 hb, by rw [← HE.out]; exact own_wide HV.out (by have := hb3.size; omega)⟩
end Go.Proofs.YtagcbljfaflhoaaDoor

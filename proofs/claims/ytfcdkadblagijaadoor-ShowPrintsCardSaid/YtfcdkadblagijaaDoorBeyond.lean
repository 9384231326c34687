/-
  Lists of nodes: whether they are nested too deep, whatever the answer is.
-/
import Derived.Test.YtfcdkadblagijaaDoorNodes
import Derived.Test.YtfcdkadblagijaaDoorIntC
import Derived.Test.YtfcdkadblagijaaDoorBlk
import Derived.OwnWalk
import Derived.Handy
import Derived.Deep.QuietTactic
import Derived.BigQuiet
set_option linter.unusedSimpArgs false
namespace Go.Proofs.YtfcdkadblagijaaDoor
open Go.RowKit Go.ChangeShapes Go.WideShapes Go.ChangeAt Go.Deep Go.Joins
/-- A truth is handed back. -/
def IsBool (e : Ending) : Prop := ∃ b, e = .returned (.bool b)
theorem infoInt0 : (Tryd.prog.info? 3).map (fun i => (i.zero, i.size, i.bytes)) = some (some (.int .i64 0), 1, 8) := by kernel_rfl
set_option maxRecDepth 100000 in
set_option maxHeartbeats 2000000 in
theorem beyond_any (A : Option Addr) (n c : Nat) (f : Nat → Nod) (w : World) (h : NodRd w w.heap.size A n f) :
    Calls Tryd.prog 6 #[.slice A n c] w fun e w' => IsBool e ∧ Below w.heap.size w w' := by
  obtain ⟨i0, hi0, hz0, hz1, hz2⟩ := info_parts infoInt0
  have hn := h.small
  have HT := Lib.hid h
  clear h
  go_enter Tryd.func6, Tryd.ntmps6
  go_wp2_with fail
  go_loopw [4, 3] (fun i d wr => ∃ (k : Nat) (dv : Value) (D : Nat → Int), k ≤ n ∧ i = .int .i64 k ∧ dv = d ∧ Hid (wr.ownsRow w.heap.size 3 1 dv k (flat (intC D) 1 k)) ∧ Hid (∀ j, j < k → 0 ≤ D j ∧ D j ≤ 65536) ∧ Below w.heap.size w wr) (fun i _ _ => n - (intOf i).toNat)
  case atStart => exact ⟨0, .slice none 0 0, fun _ => 0, Nat.zero_le _, rfl, rfl, Lib.hid (by rw [flat_zero]; exact World.ownsRow_nil _ _ _ _), Lib.hid (fun j hj => absurd hj (Nat.not_lt_zero _)), Below.refl _ _⟩
  case round =>
    obtain ⟨k, dv, D, hk, rfl, rfl, HO, HD, hb⟩ := hrel
    obtain ⟨W1, e1⟩ : ∃ W1 : World, W1 = wr := ⟨_, rfl⟩
    subst e1
    by_cases hlt : k < n
    · obtain ⟨b, off, rfl, hbl, hcs⟩ := HT.out.spot (by omega)
      obtain ⟨c0, c1, c2, c3, c4, c5⟩ := hcs k hlt
      have d4 := (hb.cell (p := ⟨b, off + k * 6 + 4, none⟩) hbl).trans c4
      have d5 := (hb.cell (p := ⟨b, off + k * 6 + 5, none⟩) hbl).trans c5
      clear hcs c0 c1 c2 c3 c4 c5
      obtain ⟨x, hx⟩ : ∃ x, f k = x := ⟨_, rfl⟩
      rw [hx] at d4 d5
      obtain ⟨op, nn, vr, at_, a, b2⟩ := x
      have d4 : W1.cell? ⟨b, off + k * 6 + 4, none⟩ = some (.int .i64 a) := d4
      have d5 : W1.cell? ⟨b, off + k * 6 + 5, none⟩ = some (.int .i64 b2) := d5
      clear hx
      have hcell : ∀ z : Int, (∃ x : Nat, z = x ∧ x < k ∧ ∃ g cap, dv = .slice (some ⟨g, 0, none⟩) k cap ∧ W1.cell? ⟨g, x, none⟩ = some (.int .i64 (D x)) ∧ 0 ≤ D x ∧ D x ≤ 65536) ∨ z < 0 ∨ (0 ≤ z ∧ (k : Int) ≤ z) := by
        intro z
        by_cases h1 : z < 0
        · exact Or.inr (Or.inl h1)
        · by_cases h2 : (k : Int) ≤ z
          · exact Or.inr (Or.inr ⟨by omega, h2⟩)
          · left
            obtain ⟨g, cap, e, _, _⟩ := HO.out.form (by omega)
            refine ⟨z.toNat, by omega, by omega, g, cap, e, ?_, HD.out _ (by omega)⟩
            have h3 := HO.out
            rw [e] at h3
            exact intC_cell h3 (by omega)
      have keyD : ∀ M : Int, 0 ≤ M → M ≤ 65536 → ∀ j, j < k + 1 → 0 ≤ upd1 D k M j ∧ upd1 D k M j ≤ 65536 := by
        intro M h1 h2 j hj
        by_cases e : j = k
        · subst e; simp only [upd1, if_true]; exact ⟨h1, h2⟩
        · simp only [upd1, if_neg e]; exact HD.out j (by omega)
      have KEYD := Lib.hid keyD
      have hcA := hcell a
      have hcB := hcell b2
      clear keyD hcell
      rcases hcA with ⟨x, rfl, hxk, g, cap, rfl, y1, y2, y3⟩ | hA | ⟨hA, hA2⟩
      all_goals rcases hcB with ⟨x', rfl, hxk', g', cap', e', y1', y2', y3'⟩ | hB | ⟨hB, hB2⟩
      · injection e' with e1 _ e2
        injection e1 with e1
        injection e1 with e1
        subst e1 e2
        by_cases hgt : D x < D x'
        all_goals
          go_wp2_with (at_builtin; go_loud (refine wpList_append_lies _ rfl _ _ _ rfl w.heap.size 3 i0 _ 1 8 Tryd.underlying45 hi0 hz0 hz1 hz2 rfl (by omega) _ k (flat (intC D) 1 k) rfl (HO.out.alloc _) ⟨W1.heap.size, 0, none⟩ 1 1 [.int .i64 _] rfl rfl (World.news_of_block (cs := #[.int .i64 _]) (t := 3) (fr := (0, 0)) (heap_alloc_new W1 _)) (by simp [Value.oneCell']) (by omega) (by unfold maxLen; omega) (by omega) (by have := hb.size; simp; omega) (W1.heap.size + 1) (by simp) ?_; intro gg gcap w9 hown9 hgrow hat hlt9))
          all_goals (try (go_ret; exact ⟨⟨_, rfl⟩, hb⟩))
          all_goals
            have hb9 := below_grown (bnew hb (.cells #[.int .i64 _] 3)) hgrow (by have := hb.size; simp; omega) (fun x hx => by have := (HO.out.lt x hx).1; omega)
            go_roundw
            case rel => exact ⟨k + 1, _, _, by omega, by go_num, rfl, Lib.hid (intC_snoc _ _ hown9), Lib.hid (KEYD.out _ (by omega) (by omega)), hb9⟩
            case measure => simp [intOf]; omega
      · go_wp2_with (at_builtin; go_loud (refine wpList_append_lies _ rfl _ _ _ rfl w.heap.size 3 i0 _ 1 8 Tryd.underlying45 hi0 hz0 hz1 hz2 rfl (by omega) _ k (flat (intC D) 1 k) rfl (HO.out.alloc _) ⟨W1.heap.size, 0, none⟩ 1 1 [.int .i64 _] rfl rfl (World.news_of_block (cs := #[.int .i64 _]) (t := 3) (fr := (0, 0)) (heap_alloc_new W1 _)) (by simp [Value.oneCell']) (by omega) (by unfold maxLen; omega) (by omega) (by have := hb.size; simp; omega) (W1.heap.size + 1) (by simp) ?_; intro gg gcap w9 hown9 hgrow hat hlt9))
        all_goals (try (go_ret; exact ⟨⟨_, rfl⟩, hb⟩))
        all_goals
          have hb9 := below_grown (bnew hb (.cells #[.int .i64 _] 3)) hgrow (by have := hb.size; simp; omega) (fun x hx => by have := (HO.out.lt x hx).1; omega)
          go_roundw
          case rel => exact ⟨k + 1, _, _, by omega, by go_num, rfl, Lib.hid (intC_snoc _ _ hown9), Lib.hid (KEYD.out _ (by omega) (by omega)), hb9⟩
          case measure => simp [intOf]; omega
      · go_wp2_with (at_builtin; go_loud (refine wpList_append_lies _ rfl _ _ _ rfl w.heap.size 3 i0 _ 1 8 Tryd.underlying45 hi0 hz0 hz1 hz2 rfl (by omega) _ k (flat (intC D) 1 k) rfl (HO.out.alloc _) ⟨W1.heap.size, 0, none⟩ 1 1 [.int .i64 _] rfl rfl (World.news_of_block (cs := #[.int .i64 _]) (t := 3) (fr := (0, 0)) (heap_alloc_new W1 _)) (by simp [Value.oneCell']) (by omega) (by unfold maxLen; omega) (by omega) (by have := hb.size; simp; omega) (W1.heap.size + 1) (by simp) ?_; intro gg gcap w9 hown9 hgrow hat hlt9))
        all_goals (try (go_ret; exact ⟨⟨_, rfl⟩, hb⟩))
        all_goals
          have hb9 := below_grown (bnew hb (.cells #[.int .i64 _] 3)) hgrow (by have := hb.size; simp; omega) (fun x hx => by have := (HO.out.lt x hx).1; omega)
          go_roundw
          case rel => exact ⟨k + 1, _, _, by omega, by go_num, rfl, Lib.hid (intC_snoc _ _ hown9), Lib.hid (KEYD.out _ (by omega) (by omega)), hb9⟩
          case measure => simp [intOf]; omega
      · subst e'
        by_cases hgt : 0 < D x'
        all_goals
          go_wp2_with (at_builtin; go_loud (refine wpList_append_lies _ rfl _ _ _ rfl w.heap.size 3 i0 _ 1 8 Tryd.underlying45 hi0 hz0 hz1 hz2 rfl (by omega) _ k (flat (intC D) 1 k) rfl (HO.out.alloc _) ⟨W1.heap.size, 0, none⟩ 1 1 [.int .i64 _] rfl rfl (World.news_of_block (cs := #[.int .i64 _]) (t := 3) (fr := (0, 0)) (heap_alloc_new W1 _)) (by simp [Value.oneCell']) (by omega) (by unfold maxLen; omega) (by omega) (by have := hb.size; simp; omega) (W1.heap.size + 1) (by simp) ?_; intro gg gcap w9 hown9 hgrow hat hlt9))
          all_goals (try (go_ret; exact ⟨⟨_, rfl⟩, hb⟩))
          all_goals
            have hb9 := below_grown (bnew hb (.cells #[.int .i64 _] 3)) hgrow (by have := hb.size; simp; omega) (fun x hx => by have := (HO.out.lt x hx).1; omega)
            go_roundw
            case rel => exact ⟨k + 1, _, _, by omega, by go_num, rfl, Lib.hid (intC_snoc _ _ hown9), Lib.hid (KEYD.out _ (by omega) (by omega)), hb9⟩
            case measure => simp [intOf]; omega
      · go_wp2_with (at_builtin; go_loud (refine wpList_append_lies _ rfl _ _ _ rfl w.heap.size 3 i0 _ 1 8 Tryd.underlying45 hi0 hz0 hz1 hz2 rfl (by omega) _ k (flat (intC D) 1 k) rfl (HO.out.alloc _) ⟨W1.heap.size, 0, none⟩ 1 1 [.int .i64 _] rfl rfl (World.news_of_block (cs := #[.int .i64 _]) (t := 3) (fr := (0, 0)) (heap_alloc_new W1 _)) (by simp [Value.oneCell']) (by omega) (by unfold maxLen; omega) (by omega) (by have := hb.size; simp; omega) (W1.heap.size + 1) (by simp) ?_; intro gg gcap w9 hown9 hgrow hat hlt9))
        all_goals (try (go_ret; exact ⟨⟨_, rfl⟩, hb⟩))
        all_goals
          have hb9 := below_grown (bnew hb (.cells #[.int .i64 _] 3)) hgrow (by have := hb.size; simp; omega) (fun x hx => by have := (HO.out.lt x hx).1; omega)
          go_roundw
          case rel => exact ⟨k + 1, _, _, by omega, by go_num, rfl, Lib.hid (intC_snoc _ _ hown9), Lib.hid (KEYD.out _ (by omega) (by omega)), hb9⟩
          case measure => simp [intOf]; omega
      · go_wp2_with (at_builtin; go_loud (refine wpList_append_lies _ rfl _ _ _ rfl w.heap.size 3 i0 _ 1 8 Tryd.underlying45 hi0 hz0 hz1 hz2 rfl (by omega) _ k (flat (intC D) 1 k) rfl (HO.out.alloc _) ⟨W1.heap.size, 0, none⟩ 1 1 [.int .i64 _] rfl rfl (World.news_of_block (cs := #[.int .i64 _]) (t := 3) (fr := (0, 0)) (heap_alloc_new W1 _)) (by simp [Value.oneCell']) (by omega) (by unfold maxLen; omega) (by omega) (by have := hb.size; simp; omega) (W1.heap.size + 1) (by simp) ?_; intro gg gcap w9 hown9 hgrow hat hlt9))
        all_goals (try (go_ret; exact ⟨⟨_, rfl⟩, hb⟩))
        all_goals
          have hb9 := below_grown (bnew hb (.cells #[.int .i64 _] 3)) hgrow (by have := hb.size; simp; omega) (fun x hx => by have := (HO.out.lt x hx).1; omega)
          go_roundw
          case rel => exact ⟨k + 1, _, _, by omega, by go_num, rfl, Lib.hid (intC_snoc _ _ hown9), Lib.hid (KEYD.out _ (by omega) (by omega)), hb9⟩
          case measure => simp [intOf]; omega
      · subst e'
        by_cases hgt : 0 < D x'
        all_goals
          go_wp2_with (at_builtin; go_loud (refine wpList_append_lies _ rfl _ _ _ rfl w.heap.size 3 i0 _ 1 8 Tryd.underlying45 hi0 hz0 hz1 hz2 rfl (by omega) _ k (flat (intC D) 1 k) rfl (HO.out.alloc _) ⟨W1.heap.size, 0, none⟩ 1 1 [.int .i64 _] rfl rfl (World.news_of_block (cs := #[.int .i64 _]) (t := 3) (fr := (0, 0)) (heap_alloc_new W1 _)) (by simp [Value.oneCell']) (by omega) (by unfold maxLen; omega) (by omega) (by have := hb.size; simp; omega) (W1.heap.size + 1) (by simp) ?_; intro gg gcap w9 hown9 hgrow hat hlt9))
          all_goals (try (go_ret; exact ⟨⟨_, rfl⟩, hb⟩))
          all_goals
            have hb9 := below_grown (bnew hb (.cells #[.int .i64 _] 3)) hgrow (by have := hb.size; simp; omega) (fun x hx => by have := (HO.out.lt x hx).1; omega)
            go_roundw
            case rel => exact ⟨k + 1, _, _, by omega, by go_num, rfl, Lib.hid (intC_snoc _ _ hown9), Lib.hid (KEYD.out _ (by omega) (by omega)), hb9⟩
            case measure => simp [intOf]; omega
      · go_wp2_with (at_builtin; go_loud (refine wpList_append_lies _ rfl _ _ _ rfl w.heap.size 3 i0 _ 1 8 Tryd.underlying45 hi0 hz0 hz1 hz2 rfl (by omega) _ k (flat (intC D) 1 k) rfl (HO.out.alloc _) ⟨W1.heap.size, 0, none⟩ 1 1 [.int .i64 _] rfl rfl (World.news_of_block (cs := #[.int .i64 _]) (t := 3) (fr := (0, 0)) (heap_alloc_new W1 _)) (by simp [Value.oneCell']) (by omega) (by unfold maxLen; omega) (by omega) (by have := hb.size; simp; omega) (W1.heap.size + 1) (by simp) ?_; intro gg gcap w9 hown9 hgrow hat hlt9))
        all_goals (try (go_ret; exact ⟨⟨_, rfl⟩, hb⟩))
        all_goals
          have hb9 := below_grown (bnew hb (.cells #[.int .i64 _] 3)) hgrow (by have := hb.size; simp; omega) (fun x hx => by have := (HO.out.lt x hx).1; omega)
          go_roundw
          case rel => exact ⟨k + 1, _, _, by omega, by go_num, rfl, Lib.hid (intC_snoc _ _ hown9), Lib.hid (KEYD.out _ (by omega) (by omega)), hb9⟩
          case measure => simp [intOf]; omega
      · go_wp2_with (at_builtin; go_loud (refine wpList_append_lies _ rfl _ _ _ rfl w.heap.size 3 i0 _ 1 8 Tryd.underlying45 hi0 hz0 hz1 hz2 rfl (by omega) _ k (flat (intC D) 1 k) rfl (HO.out.alloc _) ⟨W1.heap.size, 0, none⟩ 1 1 [.int .i64 _] rfl rfl (World.news_of_block (cs := #[.int .i64 _]) (t := 3) (fr := (0, 0)) (heap_alloc_new W1 _)) (by simp [Value.oneCell']) (by omega) (by unfold maxLen; omega) (by omega) (by have := hb.size; simp; omega) (W1.heap.size + 1) (by simp) ?_; intro gg gcap w9 hown9 hgrow hat hlt9))
        all_goals (try (go_ret; exact ⟨⟨_, rfl⟩, hb⟩))
        all_goals
          have hb9 := below_grown (bnew hb (.cells #[.int .i64 _] 3)) hgrow (by have := hb.size; simp; omega) (fun x hx => by have := (HO.out.lt x hx).1; omega)
          go_roundw
          case rel => exact ⟨k + 1, _, _, by omega, by go_num, rfl, Lib.hid (intC_snoc _ _ hown9), Lib.hid (KEYD.out _ (by omega) (by omega)), hb9⟩
          case measure => simp [intOf]; omega
    · go_wp2_with fail
      go_ret
      exact ⟨⟨_, rfl⟩, hb⟩
end Go.Proofs.YtfcdkadblagijaaDoor

/-
  The walk of the law's twin: a copy that shares nothing.
-/
import Derived.Test.YtppeonlpocdhkaaDoorSchemaOwn
import Derived.Deep.RegionLaw
import Derived.Deep.DrawnRows
import Derived.StillTactics
import Derived.OwnWalk
import Derived.Handy
import Derived.Laws.Pointers
set_option linter.unusedSimpArgs false
namespace Go.Proofs.YtppeonlpocdhkaaDoor
open Go.RowKit Go.ChangeShapes Go.WideShapes Go.ChangeAt
attribute [local go_sem ↓] Go.wp_at_zero Go.wp_at_succ
/-- What the outer loop keeps. -/
structure TwOut (w wr : World) (A : Option Addr) (cap : Nat) (S : Sch) (k : Nat) (ov : Value) : Prop where
  below : Below w.heap.size w wr
  size : w.heap.size + 3 ≤ wr.heap.size
  own : TypOwn wr (w.heap.size + 3) ov { S with n := k }
set_option maxRecDepth 100000 in
set_option maxHeartbeats 2000000 in
theorem twin_any (A : Option Addr) (cap : Nat) (S : Sch) (w : World) (h : TypRd w w.heap.size A S) :
    Calls Tryd.prog 15 #[.agg #[.slice A S.n cap]] w fun e w' => ∃ A' c', e = .returned (.agg #[.slice A' S.n c']) ∧ Below w.heap.size w w' ∧ TypOwn w' w.heap.size (.slice A' S.n c') S := by
  have hn := h.1
  obtain ⟨i0, hi0, hz0, hz1, hz2⟩ := info_parts infoStr
  obtain ⟨i1, hi1, hy0, hy1, hy2⟩ := info_parts infoType
  have HT := Lib.hid h
  have HB := bnew (bnew (bnew (Below.refl w.heap.size w) (.cells #[.slice A S.n cap] 25)) (.cells #[.slice none 0 0] 25)) (.cells #[.slice none 0 0] 25)
  clear h
  go_enter Tryd.func15, Tryd.ntmps15
  go_wp2_with fail
  go_loopw [4] (fun i wr => ∃ (k : Nat) (ov : Value), k ≤ S.n ∧ i = .int .i64 k ∧ Hid (TwOut w wr A cap S k ov) ∧ wr.cell? ⟨w.heap.size, 0, none⟩ = some (.slice A S.n cap) ∧ wr.cell? ⟨w.heap.size + 1, 0, none⟩ = some (.slice none 0 0) ∧ wr.cell? ⟨w.heap.size + 1 + 1, 0, none⟩ = some ov ∧
    wr.frozen? ⟨w.heap.size + 1, 0, none⟩ = false ∧ wr.frozen? ⟨w.heap.size + 1 + 1, 0, none⟩ = false) (fun i _ => S.n - (intOf i).toNat)
  case atStart =>
    refine ⟨0, .slice none 0 0, Nat.zero_le _, rfl, Lib.hid ⟨HB, by simp, by simp, fun _ => .slice none 0 0, ⟨rfl, Or.inl ⟨rfl, rfl⟩⟩, fun j hj => absurd hj (Nat.not_lt_zero _), fun i j _ hj => absurd hj (Nat.not_lt_zero _)⟩, ?_⟩
    simp [go_sem]
  case round =>
    obtain ⟨k, ov, hk, rfl, HO, hx1, hx2, hx3, hf2, hf3⟩ := hrel
    obtain ⟨W1, e1⟩ : ∃ W1 : World, W1 = wr := ⟨_, rfl⟩
    subst e1
    by_cases hlt : k < S.n
    · obtain ⟨b, off, rfl, hbl, hcs⟩ := HT.out.2 (by omega)
      obtain ⟨c1, aa, ac, c2, hsr⟩ := hcs k hlt
      have hb := HO.out.below
      have hsz := HO.out.size
      have d1 := (hb.cell (p := ⟨b, off + k * 2, none⟩) hbl).trans c1
      have d2 := (hb.cell (p := ⟨b, off + k * 2 + 1, none⟩) hbl).trans c2
      have HS := Lib.hid (hsr.below hb)
      have hln := hsr.1
      clear hcs c1 c2 hsr
      go_wp2_with fail
      have e4 : ∃ w4, W1.alloc (.cells #[.string (S.nm k), .slice none 0 0] 40) = w4 := ⟨_, rfl⟩
      obtain ⟨w4, e4⟩ := e4
      have hb4 : Below W1.heap.size W1 w4 := by rw [← e4]; exact bnew (Below.refl _ _) _
      have hs4 : w4.heap.size = W1.heap.size + 1 := by rw [← e4]; simp
      have t0 : w4.cell? ⟨W1.heap.size, 0, none⟩ = some (.string (S.nm k)) := by rw [← e4]; simp [go_sem]
      have t1 : w4.cell? ⟨W1.heap.size, 1, none⟩ = some (.slice none 0 0) := by rw [← e4]; simp [go_sem]
      have t2 : w4.frozen? ⟨W1.heap.size, 1, none⟩ = false := by rw [← e4]; simp [go_sem]
      rw [e4]
      clear e4
      go_loopw [6] (fun i w5 => ∃ (m : Nat) (tv : Value), m ≤ S.ln k ∧ i = .int .i64 m ∧ Below W1.heap.size W1 w5 ∧ W1.heap.size + 1 ≤ w5.heap.size ∧ w5.cell? ⟨W1.heap.size, 0, none⟩ = some (.string (S.nm k)) ∧ w5.cell? ⟨W1.heap.size, 1, none⟩ = some tv ∧ w5.frozen? ⟨W1.heap.size, 1, none⟩ = false ∧
        Hid (w5.ownsRow (W1.heap.size + 1) 9 1 tv m (strCells (S.atr k) m))) (fun i _ => S.ln k - (intOf i).toNat)
      case atStart => exact ⟨0, _, Nat.zero_le _, rfl, hb4, by omega, t0, t1, t2, Lib.hid ⟨rfl, Or.inl ⟨rfl, rfl⟩⟩⟩
      case round =>
        obtain ⟨m, tv, hm, rfl, hb5, hs5, t0, t1, t2, HW⟩ := hrel
        have f1 := (hb5.cell (p := ⟨w.heap.size, 0, none⟩) (by simp; omega)).trans hx1
        have f2 := (hb5.cell (p := ⟨b, off + k * 2 + 1, none⟩) (by simp; omega)).trans d2
        by_cases hlm : m < S.ln k
        · obtain ⟨b2, off2, rfl, hbl2, hcs2⟩ := HS.out.2 (by omega)
          have f3 := (hb5.cell (p := ⟨b2, off2 + m, none⟩) (by simp; omega)).trans (hcs2 m hlm)
          clear hcs2
          go_wp2_with fail
          have hs5' : W1.heap.size < wr.heap.size := hs5
          go_region_law
            ((refine step_append_lies _ (by rfl) _ _ _ (by rfl) (W1.heap.size + 1) 9 i0 _ 1 16 Tryd.underlying38 hi0 hz0 hz1 hz2 rfl (by omega) tv m (strCells (S.atr k) m) (by rfl) ((HW.out.drew).alloc _)
                ⟨wr.heap.size, 0, none⟩ 1 1 [.string (S.atr k m)] (by rfl) (by rfl) (World.news_of_block (cs := #[.string (S.atr k m)]) (t := 9) (fr := (0, 0)) (heap_alloc_new wr.drew _)) (by simp [Value.oneCell'])
                (by omega) (by unfold maxLen; omega) (by omega) (by simp; omega) (wr.heap.size + 1) (by simp) ?_; intro gg gcap w6 hown6 hgrow hat hlt6; have g1 : w6.cell? ⟨W1.heap.size, 1, none⟩ = some tv := (hgrow.cell_far _ (by simp; omega) (Ne.symm (own_ne HW.out (by simp)))).trans (cell_alloc (w := wr.drew) t1 _); have g2 : w6.frozen? ⟨W1.heap.size, 1, none⟩ = false := (hgrow.frozen_far _ (by simp; omega) (Ne.symm (own_ne HW.out (by simp)))).trans (frozen_alloc (w := wr.drew) (p := ⟨W1.heap.size, 1, none⟩) hs5' t2 _); have g0 : w6.cell? ⟨W1.heap.size, 0, none⟩ = some (.string (S.nm k)) := (hgrow.cell_far _ (by simp; omega) (Ne.symm (own_ne HW.out (by simp)))).trans (cell_alloc (w := wr.drew) t0 _)))
          all_goals
            go_wp2_with fail
            have hb6 : Below W1.heap.size W1 w6 := (bnew (bdrew hb5) (.cells #[.string (S.atr k m)] 9)).grown hgrow (by simp; omega) (fun x hx => by have := (HW.out.lt x hx).1; omega)
            have hs6 : W1.heap.size + 1 ≤ w6.heap.size := by have := hgrow.size; simp at this; omega
            go_roundw
            case rel =>
              exact ⟨m + 1, .slice (some ⟨gg, 0, none⟩) (m + 1) gcap, by omega, by go_num, bset hb6 (Nat.le_refl _) _, by simpa using hs6, (World.cell?_setCell_other _ _ _ _ (by simp)).trans g0, World.cell?_setCell_same _ _ _ g1, by rw [World.frozen?_setCell]; exact g2,
                Lib.hid (by rw [strCells_succ]; exact ownsRow_setCell_below hown6 (by simp) _)⟩
            case measure => simp [intOf]; omega
        · obtain ⟨hnk, sl, hrow, hattr, hdist⟩ := HO.out.own
          obtain rfl : m = S.ln k := by omega
          have h1c := own_oneCell HW.out
          have HROW := Lib.hid hrow
          have HATT := Lib.hid hattr
          have HDIST := Lib.hid hdist
          clear hattr hdist hrow
          have f4 := (hb5.cell (p := ⟨w.heap.size + 1 + 1, 0, none⟩) (by simp; omega)).trans hx3
          have f5 := (hb5.frozen (p := ⟨w.heap.size + 1 + 1, 0, none⟩) (by simp; omega)).trans hf3
          obtain ⟨ta, tc, rfl⟩ := own_shape HW.out
          go_wp2_with (at_builtin; go_loud (refine wpList_append_lies _ rfl _ _ _ rfl (w.heap.size + 3) 40 i1 _ 2 40 Tryd.underlying23 hi1 hy0 hy1 hy2 rfl (by omega) ov k (rowCells S.nm sl k) rfl ((own_below HROW.out hb5).alloc _) ⟨wr.heap.size, 0, none⟩ 1 1 [.string (S.nm k), .slice ta (S.ln k) tc] rfl rfl (World.news_of_block (cs := #[.string (S.nm k), .slice ta (S.ln k) tc]) (t := 40) (fr := (0, 0)) (heap_alloc_new wr _)) (by simp [Value.oneCell']) (by omega) (by unfold maxLen; omega) (by omega) (by simp; omega) (wr.heap.size + 1) (by simp) ?_; intro gg gcap w6 hown6 hgrow hat hlt6; have g1 : w6.cell? ⟨w.heap.size + 1 + 1, 0, none⟩ = some ov := (hgrow.cell_far _ (by simp; omega) (Ne.symm (own_ne HROW.out (by simp)))).trans (cell_alloc f4 _); have g2 : w6.frozen? ⟨w.heap.size + 1 + 1, 0, none⟩ = false := (hgrow.frozen_far _ (by simp; omega) (Ne.symm (own_ne HROW.out (by simp)))).trans (frozen_alloc (by simp; omega) f5 _)))
          have hown := TypOwn.more (p := ⟨w.heap.size + 1 + 1, 0, none⟩) (u := .slice (some ⟨gg, 0, none⟩) (k + 1) gcap) (ln := S.ln) (at_ := S.atr) (by omega) hln HROW.out HATT.out HDIST.out hb5 (Nat.le_succ _) (by omega) HW.out (.cells #[.string (S.nm k), .slice ta (S.ln k) tc] 40) hown6 hgrow (by simp)
          have hs6 := hgrow.size
          have hb6 : Below w.heap.size w w6 := (bnew (hb.trans (hb5.mono (by omega))) (.cells #[.string (S.nm k), .slice ta (S.ln k) tc] 40)).grown hgrow (by have := hb5.size; simp; omega) (fun x hx => by have := (HROW.out.lt x hx).1; omega)
          have q1 : ∀ p : Addr, p.block < w.heap.size + 3 → (wr.alloc (.cells #[.string (S.nm k), .slice ta (S.ln k) tc] 40)).cell? p = W1.cell? p := fun p hp => (World.cell?_alloc_lt wr _ p (by omega)).trans (hb5.cell (by omega))
          have q2 : ∀ p : Addr, p.block < w.heap.size + 3 → w6.cell? p = W1.cell? p := fun p hp => (hgrow.cell_far p (by simp; omega) (Ne.symm (own_ne HROW.out hp))).trans (q1 p hp)
          have q3 : w6.frozen? ⟨w.heap.size + 1, 0, none⟩ = false := (hgrow.frozen_far _ (by simp; omega) (Ne.symm (own_ne HROW.out (by simp)))).trans (frozen_alloc (by simp; omega) ((hb5.frozen (p := ⟨w.heap.size + 1, 0, none⟩) (by simp; omega)).trans hf2) _)
          clear hs5
          go_roundw
          case rel =>
            exact ⟨k + 1, .slice (some ⟨gg, 0, none⟩) (k + 1) gcap, by omega, by go_num, Lib.hid ⟨bset hb6 (by simp; omega) _, by simp at hs6 ⊢; have := hb5.size; omega, hown⟩, (World.cell?_setCell_other _ _ _ _ (by simp)).trans ((q2 _ (by simp)).trans hx1), (World.cell?_setCell_other _ _ _ _ (by simp)).trans ((q2 _ (by simp)).trans hx2),
              World.cell?_setCell_same _ _ _ g1, by rw [World.frozen?_setCell]; exact q3, by rw [World.frozen?_setCell]; exact g2⟩
          case measure => simp [intOf]; omega
    · obtain ⟨A', c', rfl⟩ := HO.out.own.shape
      obtain rfl : k = S.n := by omega
      have hsz := HO.out.size
      have hfin := (HO.out.own.set_below (p := ⟨w.heap.size + 1, 0, none⟩) (by simp) (.slice A' S.n c')).mono (Nat.le_add_right w.heap.size 3)
      have hbf := bset HO.out.below (p := ⟨w.heap.size + 1, 0, none⟩) (by simp) (.slice A' S.n c')
      have hcf := World.cell?_setCell_same W1 ⟨w.heap.size + 1, 0, none⟩ (.slice A' S.n c') hx2
      go_wp2_with fail
      (try simp only [Exit.inBlock, Exit.then])
      generalize W1.setCell ⟨w.heap.size + 1, 0, none⟩ (.slice A' S.n c') = wf at *
      refine bodyPost_ret (v := .agg #[.slice A' S.n c']) ?_ rfl ?_
      · simp [results, Tryd.results15, go_sem, hcf]
      · exact ⟨A', c', rfl, hbf, hfin⟩
end Go.Proofs.YtppeonlpocdhkaaDoor

/-
  Several texts in one: Schema6, Bulk.
-/
import Derived.Test.YtagcbljfaflhoaaDoorFlw32
import Derived.Test.YtagcbljfaflhoaaDoorFlw13
import Derived.Deep.RegionLaw
import Derived.Deep.DrawnRows
import Derived.StillTactics
import Derived.OwnWalk
import Derived.Handy
import Derived.Laws.Pointers
import Derived.Test.YtagcbljfaflhoaaDoorFlw0
set_option linter.unusedSimpArgs false
set_option linter.unusedVariables false
/-! ### A schema's copy, and that a schema and its copy are the same (sluiceref6's TwinSchema, SameSchema). -/
namespace Go.Proofs.YtagcbljfaflhoaaDoor
open Go.RowKit Go.ChangeShapes Go.WideShapes Go.ChangeAt Go.Deep Go.Joins
attribute [local go_sem ↓] Go.wp_at_zero Go.wp_at_succ
theorem txt_of {w : World} {B n : Nat} {A : Option Addr} {f : Nat → ByteArray} (h : StrRd w B A n f) : TxtRd w B A n f :=
  ⟨h.1, fun hn => by
    obtain ⟨b, off, e, hb, hc⟩ := h.2 hn
    refine ⟨b, off, e, hb, fun j hj i hi => ?_⟩
    obtain rfl : i = 0 := by omega
    rw [Nat.mul_one, Nat.add_zero]
    exact hc j hj⟩
/-- What the loop keeps. -/
structure TwOut6 (w wr : World) (S : Sch) (k : Nat) (ov : Value) : Prop where
  below : Below w.heap.size w wr
  size : w.heap.size + 3 ≤ wr.heap.size
  own : TypOwn wr (w.heap.size + 3) ov { S with n := k }
set_option maxRecDepth 100000 in
set_option maxHeartbeats 2000000 in
theorem twin6_any (A : Option Addr) (cap : Nat) (S : Sch) (w : World) (h : TypRd w w.heap.size A S) (hcp : TypCaps w A S.n) :
    Calls Tryd.prog 24 #[.agg #[.slice A S.n cap]] w fun e w' => ∃ A' c', e = .returned (.agg #[.slice A' S.n c']) ∧ Below w.heap.size w w' ∧ TypRd w' w'.heap.size A' S := by
  have hn := h.1
  obtain ⟨i1, hi1, hy0, hy1, hy2⟩ := info_parts infoType
  have HT := Lib.hid h
  have HC := Lib.hid hcp
  have HB := bnew (bnew (bnew (Below.refl w.heap.size w) (.cells #[.slice A S.n cap] 34)) (.cells #[.slice none 0 0] 34)) (.cells #[.slice none 0 0] 34)
  clear h hcp
  go_enter Tryd.func24, Tryd.ntmps24
  go_wp2_with fail
  go_loopw [4] (fun i wr => ∃ (k : Nat) (ov : Value), k ≤ S.n ∧ i = .int .i64 k ∧ Hid (TwOut6 w wr S k ov) ∧ wr.cell? ⟨w.heap.size, 0, none⟩ = some (.slice A S.n cap) ∧ wr.cell? ⟨w.heap.size + 1, 0, none⟩ = some (.slice none 0 0) ∧ wr.cell? ⟨w.heap.size + 1 + 1, 0, none⟩ = some ov ∧
    wr.frozen? ⟨w.heap.size + 1, 0, none⟩ = false ∧ wr.frozen? ⟨w.heap.size + 1 + 1, 0, none⟩ = false) (fun i _ => S.n - (intOf i).toNat)
  case atStart =>
    refine ⟨0, .slice none 0 0, Nat.zero_le _, rfl, Lib.hid ⟨HB, by simp, by simp, fun _ => .slice none 0 0, ⟨rfl, Or.inl ⟨rfl, rfl⟩⟩, fun j hj => absurd hj (Nat.not_lt_zero _), fun i j _ hj => absurd hj (Nat.not_lt_zero _)⟩, ?_⟩
    simp [go_sem]
  case round =>
    obtain ⟨k, ov, hk, rfl, HO, hx1, hx2, hx3, hf2, hf3⟩ := hrel
    obtain ⟨W1, e1⟩ : ∃ W1 : World, W1 = wr := ⟨_, rfl⟩
    subst e1
    by_cases hlt : k < S.n
    · obtain ⟨b, off, rfl, hbl, hcs⟩ := HT.out.2 (by omega)
      obtain ⟨c1, aa, ac, c2, hsr⟩ := hcs k hlt
      obtain ⟨hl, hz⟩ := HC.out b off rfl k hlt aa _ ac c2
      have hb := HO.out.below
      have hsz := HO.out.size
      have d1 := (hb.cell (p := ⟨b, off + k * 2, none⟩) hbl).trans c1
      have d2 := (hb.cell (p := ⟨b, off + k * 2 + 1, none⟩) hbl).trans c2
      have HS := Lib.hid (txt_of (hsr.later hb))
      have HZ := Lib.hid hz
      have hln := hsr.1
      clear hcs c1 c2 hsr hz
      go_wp2_with fail
      refine (twinStrs_any aa (S.ln k) ac (S.atr k) _ hl HZ.out HS.out).mono ?_
      rintro e w5 ⟨tv, rfl, hb5, hown5⟩
      rw [flat_txt] at hown5
      obtain ⟨ta, tc, rfl⟩ := own_shape hown5
      have HW := Lib.hid hown5
      obtain ⟨hnk, sl, hrow, hattr, hdist⟩ := HO.out.own
      have HROW := Lib.hid hrow
      have HATT := Lib.hid hattr
      have HDIST := Lib.hid hdist
      clear hown5 hrow hattr hdist hl
      have f1 := (hb5.cell (p := ⟨w.heap.size, 0, none⟩) (by simp; omega)).trans hx1
      have f2 := (hb5.cell (p := ⟨b, off + k * 2, none⟩) (by simp; omega)).trans d1
      have f4 := (hb5.cell (p := ⟨w.heap.size + 1 + 1, 0, none⟩) (by simp; omega)).trans hx3
      have f5 := (hb5.frozen (p := ⟨w.heap.size + 1 + 1, 0, none⟩) (by simp; omega)).trans hf3
      have hs5 := hb5.size
      have hs5' : w.heap.size + 1 + 1 < w5.heap.size := by omega
      obtain ⟨W5, e5⟩ : ∃ W5 : World, W5 = w5 := ⟨_, rfl⟩
      subst e5
      go_upto_region 6 with fail
      go_region_law
        ((refine step_append_lies _ (by rfl) _ _ _ (by rfl) (w.heap.size + 3) 78 i1 _ 2 40 Tryd.underlying32 hi1 hy0 hy1 hy2 rfl (by omega) ov k (rowCells S.nm sl k) (by rfl) (((own_below HROW.out hb5).drew).alloc _)
            ⟨W5.heap.size, 0, none⟩ 1 1 [.string (S.nm k), .slice ta (S.ln k) tc] (by rfl) (by rfl) (World.news_of_block (cs := #[.string (S.nm k), .slice ta (S.ln k) tc]) (t := 78) (fr := (0, 0)) (heap_alloc_new W5.drew _)) (by simp [Value.oneCell'])
            (by omega) (by unfold maxLen; omega) (by omega) (by simp; omega) (W5.heap.size + 1) (by simp) ?_; intro gg gcap w6 hown6 hgrow hat hlt6; have g1 : w6.cell? ⟨w.heap.size + 1 + 1, 0, none⟩ = some ov := (hgrow.cell_far _ (by simp; omega) (Ne.symm (own_ne HROW.out (by simp)))).trans (cell_alloc (w := W5.drew) f4 _); have g2 : w6.frozen? ⟨w.heap.size + 1 + 1, 0, none⟩ = false := (hgrow.frozen_far _ (by simp; omega) (Ne.symm (own_ne HROW.out (by simp)))).trans (frozen_alloc (w := W5.drew) (p := ⟨w.heap.size + 1 + 1, 0, none⟩) hs5' f5 _)))
      all_goals
        go_wp2_with fail
        have hown := TypOwn.more (p := ⟨w.heap.size + 1 + 1, 0, none⟩) (u := .slice (some ⟨gg, 0, none⟩) (k + 1) gcap) (ln := S.ln) (at_ := S.atr) (by omega) hln HROW.out HATT.out HDIST.out (hb5.drew) (Nat.le_refl _) (by omega) (HW.out.drew) (.cells #[.string (S.nm k), .slice ta (S.ln k) tc] 78) hown6 hgrow (by simp)
        have hs6 := hgrow.size
        have hb6 : Below w.heap.size w w6 := (bnew (bdrew (bcall hb hb5)) (.cells #[.string (S.nm k), .slice ta (S.ln k) tc] 78)).grown hgrow (by simp; omega) (fun x hx => by have := (HROW.out.lt x hx).1; omega)
        have q1 : ∀ p : Addr, p.block < w.heap.size + 3 → (W5.drew.alloc (.cells #[.string (S.nm k), .slice ta (S.ln k) tc] 78)).cell? p = W1.cell? p := fun p hp => (World.cell?_alloc_lt W5.drew _ p (by simp; omega)).trans (hb5.cell (by omega))
        have q2 : ∀ p : Addr, p.block < w.heap.size + 3 → w6.cell? p = W1.cell? p := fun p hp => (hgrow.cell_far p (by simp; omega) (Ne.symm (own_ne HROW.out hp))).trans (q1 p hp)
        have q3 : w6.frozen? ⟨w.heap.size + 1, 0, none⟩ = false := (hgrow.frozen_far _ (by simp; omega) (Ne.symm (own_ne HROW.out (by simp)))).trans (frozen_alloc (w := W5.drew) (by simp; omega) ((hb5.frozen (p := ⟨w.heap.size + 1, 0, none⟩) (by simp; omega)).trans hf2) _)
        go_roundw
        case rel =>
          exact ⟨k + 1, .slice (some ⟨gg, 0, none⟩) (k + 1) gcap, by omega, by go_num, Lib.hid ⟨bset hb6 (by simp; omega) _, by simp at hs6 ⊢; omega, hown⟩, (World.cell?_setCell_other _ _ _ _ (by simp)).trans ((q2 _ (by simp)).trans hx1), (World.cell?_setCell_other _ _ _ _ (by simp)).trans ((q2 _ (by simp)).trans hx2),
            World.cell?_setCell_same _ _ _ g1, by rw [World.frozen?_setCell]; exact q3, by rw [World.frozen?_setCell]; exact g2⟩
        case measure => simp [intOf]; omega
    · obtain ⟨A', c', rfl⟩ := HO.out.own.shape
      obtain rfl : k = S.n := by omega
      have hsz := HO.out.size
      have hfin := (HO.out.own.set_below (p := ⟨w.heap.size + 1, 0, none⟩) (by simp) (.slice A' S.n c')).mono (Nat.le_add_right w.heap.size 3)
      have hbf := bset HO.out.below (p := ⟨w.heap.size + 1, 0, none⟩) (by simp) (.slice A' S.n c')
      have hcf := World.cell?_setCell_same W1 ⟨w.heap.size + 1, 0, none⟩ (.slice A' S.n c') hx2
      go_wp2_with fail
      (try simp only [Exit.inBlock, Exit.then])
      generalize W1.setCell ⟨w.heap.size + 1, 0, none⟩ (.slice A' S.n c') = wf at *
      refine bodyPost_ret (v := .agg #[.slice A' S.n c']) ?_ rfl ?_
      · simp [results, Tryd.results24, go_sem, hcf]
      · first | exact ⟨A', c', rfl, hbf, hfin.rd⟩ | exact ⟨A', ⟨c', rfl⟩, hbf, hfin.rd⟩
set_option maxHeartbeats 1000000 in
theorem sameSchema6_same (A A' : Option Addr) (c c' : Nat) (S : Sch) (w : World) (h : TypRd w w.heap.size A S) (h' : TypRd w w.heap.size A' S) :
    Calls Tryd.prog 28 #[.agg #[.slice A S.n c], .agg #[.slice A' S.n c']] w fun e w' => e = .returned (.bool true) ∧ Below w.heap.size w w' := by
  have hn := h.1
  have HB := bnew (bnew (Below.refl w.heap.size w) (.cells #[.slice A S.n c] 34)) (.cells #[.slice A' S.n c'] 34)
  have HT := Lib.hid (h.below HB)
  have HT' := Lib.hid (h'.below HB)
  clear h h'
  go_enter Tryd.func28, Tryd.ntmps28
  go_wp2_with fail
  have hx1 : ((w.alloc (.cells #[.slice A S.n c] 34)).alloc (.cells #[.slice A' S.n c'] 34)).cell? ⟨w.heap.size, 0, none⟩ = some (.slice A S.n c) := by simp [go_sem]
  have hx2 : ((w.alloc (.cells #[.slice A S.n c] 34)).alloc (.cells #[.slice A' S.n c'] 34)).cell? ⟨w.heap.size + 1, 0, none⟩ = some (.slice A' S.n c') := by simp [go_sem]
  generalize ((w.alloc (.cells #[.slice A S.n c] 34)).alloc (.cells #[.slice A' S.n c'] 34)) = w2 at *
  go_loopw [5] (fun i wr => ∃ k : Nat, k ≤ S.n ∧ i = .int .i64 k ∧ Below w.heap.size w wr ∧ Hid (TypRd wr w.heap.size A S) ∧ Hid (TypRd wr w.heap.size A' S) ∧ wr.cell? ⟨w.heap.size, 0, none⟩ = some (.slice A S.n c) ∧ wr.cell? ⟨w.heap.size + 1, 0, none⟩ = some (.slice A' S.n c')) (fun i _ => S.n - (intOf i).toNat)
  case atStart => exact ⟨0, Nat.zero_le _, rfl, HB, HT, HT', hx1, hx2⟩
  case round =>
    obtain ⟨k, hk, rfl, HB, HT, HT', hx1, hx2⟩ := hrel
    by_cases hlt : k < S.n
    · obtain ⟨b, off, rfl, hbl, hcs⟩ := HT.out.2 (by omega)
      obtain ⟨b', off', rfl, hbl', hcs'⟩ := HT'.out.2 (by omega)
      obtain ⟨c1, aa, ac, c2, hs⟩ := hcs k hlt
      obtain ⟨c1', aa', ac', c2', hs'⟩ := hcs' k hlt
      have heq : ((S.nm k).toList == (S.nm k).toList) = true := beq_self_eq_true _
      have HS := Lib.hid (txt_of (hs.more HB.size))
      have HS' := Lib.hid (txt_of (hs'.more HB.size))
      clear hcs hcs' hs hs'
      go_wp2_with fail
      go_quiet (first | (go_at_call 66; exact Calls.quiet_of (sameStrs6_same aa aa' (S.ln k) ac ac' (S.atr k) _ (by exact HS.out) (by exact HS'.out))))
      go_wp2_with fail
      go_quiet (fail)
      go_wp2_with fail
      go_roundw
      case rel => exact ⟨k + 1, by omega, by go_num, bdrewN HB _, HT, HT', hx1, hx2⟩
      case measure => simp [intOf]; omega
    · go_wp2_with fail
      go_ret
      exact ⟨rfl, HB⟩
end Go.Proofs.YtagcbljfaflhoaaDoor

/-! ### What a reading's bulk bounds. -/
namespace Go.Proofs.YtagcbljfaflhoaaDoor
open Go.RowKit Go.ChangeShapes Go.WideShapes Go.Deep
theorem bulk_mem {H : Type} {d : DataW H} {l : List (DataW H)} (h : d ∈ l) : Rows.uptoBulk d ≤ Rows.uptoBulkAll l := by
  induction l with
  | nil => cases h
  | cons x r ih =>
    simp only [Rows.uptoBulkAll]
    rcases List.mem_cons.1 h with rfl | h
    · omega
    · have := ih h
      omega
theorem bulk_at {H : Type} {d : DataW H} {l : List (DataW H)} (hk : Rows.uptoSmall H l = true) (h : d ∈ l) : Rows.uptoBulk d ≤ 1048576 := by
  have h1 : Rows.uptoBulkAll l ≤ 1048576 := of_decide_eq_true hk
  exact Nat.le_trans (bulk_mem h) h1
theorem bulk_one {H : Type} (d : DataW H) : 1 ≤ Rows.uptoBulk d := by
  cases d with
  | lit l => cases l <;> simp [Rows.uptoBulk]
  | nil => simp [Rows.uptoBulk]
  | ptr d => simp [Rows.uptoBulk]
  | slice es sp => simp [Rows.uptoBulk]
  | agg ps => simp [Rows.uptoBulk]
  | iface t d => simp [Rows.uptoBulk]
  | map es => simp [Rows.uptoBulk]
  | held h => simp [Rows.uptoBulk]
theorem bulk_len {H : Type} : ∀ (l : List (DataW H)), l.length ≤ Rows.uptoBulkAll l
  | [] => Nat.zero_le _
  | d :: r => by
    have h1 := bulk_one d
    have h2 := bulk_len r
    simp only [Rows.uptoBulkAll, List.length_cons]
    omega
section
variable {H : Type} {enc : TypeId × Value → H} {P : Program} {w : World} {base : Nat} {sp : Nat → Bool} {held : Bool}
/-- A slice is no longer than its reading is great. -/
theorem bulk_slice {t e : TypeId} {fuel n cap : Nat} {A : Option Addr} {y : DataW H × List MemPlace} (ht : P.underlying t = some (.slice e)) (h : DataW.trod enc P w base sp held fuel t [.slice A n cap] = some y) : n ≤ Rows.uptoBulk y.1 := by
  rcases open_slice ht h with ⟨ev, _⟩ | ⟨a, len, cap', m, k, D, Pl, ev, hb, hl, hm, hmm, hx, hi⟩
  · injection ev with ev
    injection ev with _ e2 _
    subst e2
    exact Nat.zero_le _
  · injection ev with ev
    injection ev with _ e2 _
    subst e2
    rw [hx]
    have := bulk_len ((List.range n).map D)
    simp only [List.length_map, List.length_range] at this
    simp only [Rows.uptoBulk]
    omega
end
theorem bulk_nodes {H : Type} {enc : TypeId × Value → H} {w : World} {base : Nat} {sp : Nat → Bool} {held : Bool} {fuel n cap : Nat} {A : Option Addr} {y : DataW H × List MemPlace} (h : DataW.trod enc Tryd.prog w base sp held fuel 22 [.slice A n cap] = some y) : n ≤ Rows.uptoBulk y.1 :=
  bulk_slice Tryd.underlying22 h
end Go.Proofs.YtagcbljfaflhoaaDoor

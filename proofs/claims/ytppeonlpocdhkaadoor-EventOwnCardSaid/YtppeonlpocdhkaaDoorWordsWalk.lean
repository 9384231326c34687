/-
  The walks of the program's pieces and of the reference's words, wordOf.
-/
import Derived.Test.YtppeonlpocdhkaaDoorEventText
import Derived.Test.YtppeonlpocdhkaaDoorPceFns
set_option linter.unusedSimpArgs false
set_option linter.unusedVariables false
namespace Go.Proofs.YtppeonlpocdhkaaDoor
open Go.RowKit Go.ChangeShapes Go.WideShapes Go.ChangeAt Go.Deep Go.Joins
theorem infoEPce : (Tryd.prog.info? 88).map (fun i => (i.zero, i.size, i.bytes)) = some (some (.agg #[.string .empty, .int .i64 0]), 2, 24) := by kernel_rfl
/-- A piece of a line, as the program keeps it. -/
def eC (s : ByteArray) (L : List Pce) (j i : Nat) : Value := match i with | 0 => .string (wdAt s L j) | _ => .int .i64 (gp L j).a
theorem flat_eC {s : ByteArray} {l r : List Pce} {n : Nat} {x : Pce} (h : l.drop n = x :: r) : flat (eC s l) 2 (n + 1) = flat (eC s l) 2 n ++ [.string (s.extract x.a x.z), .int .i64 x.a] := by
  have h1 := gp_drop h
  rw [flat_succ]
  simp [List.range_succ, eC, wdAt, h1]
def gap2 (n : Nat) : Prop := (((n : Nat) : Int) != 32) = true ∧ (((n : Nat) : Int) != 9) = true
theorem gap_no {n : Nat} (h : gapI n = false) : gap2 n := by
  simp only [gapI, Bool.or_eq_false_iff, beq_eq_false_iff_ne] at h
  unfold gap2
  simp only [bne_iff_ne]
  omega
theorem gap_yes {n : Nat} (h : gapI n = true) : (((n : Nat) : Int) != 32) = false ∨ (((n : Nat) : Int) != 32) = true ∧ (((n : Nat) : Int) != 9) = false := by
  simp only [gapI, Bool.or_eq_true, beq_iff_eq] at h
  simp only [bne_iff_ne, bne_eq_false_iff_eq]
  omega
set_option maxRecDepth 100000 in
set_option maxHeartbeats 4000000 in
theorem words_walk (s : ByteArray) (hs : s.size ≤ 1048576) (w : World) :
    Calls Tryd.prog 53 #[.string s] w fun e w' => ∃ A c, e = .returned (.slice A (wordsE s 0).length c) ∧ Below w.heap.size w w' ∧ w'.ownsRow w.heap.size 96 3 (.slice A (wordsE s 0).length c) (wordsE s 0).length (flat (pC (wordsE s 0)) 3 (wordsE s 0).length) := by
  obtain ⟨L, hL⟩ : ∃ L, wordsE s 0 = L := ⟨_, rfl⟩
  have hll : L.length ≤ 1048576 := by
    have := words_len s 0
    rw [hL] at this
    omega
  have HL := Lib.hid hL
  rw [hL]
  clear hL
  obtain ⟨i0, hi0, hz0, hz1, hz2⟩ := info_parts infoPce
  go_enter Tryd.func53, Tryd.ntmps53
  go_wp2_with fail
  go_loopw [3, 4, 5] (fun l i _ wr => ∃ p n : Nat, i = .int .i64 p ∧ p ≤ s.size + 1 ∧ n ≤ L.length ∧ Hid (L.drop n = wordsE s p) ∧ Below w.heap.size w wr ∧ Hid (wr.ownsRow w.heap.size 96 3 l n (flat (pC L) 3 n))) (fun _ i _ _ => s.size + 1 - (intOf i).toNat)
  case atStart => exact ⟨0, 0, rfl, Nat.zero_le _, Nat.zero_le _, Lib.hid (by rw [HL.out]; rfl), Below.refl _ _, Lib.hid (World.ownsRow_nil _ _ _ _)⟩
  case round =>
    obtain ⟨p, n, rfl, hp, hn, HD0, hb, HO⟩ := hrel
    by_cases hlt : p < s.size
    · obtain ⟨w5, e5⟩ : ∃ w5 : World, w5 = wr := ⟨_, rfl⟩
      subst e5
      go_wp2_with fail
      go_loop [5] (fun k => ∃ k' : Nat, k = .int .i64 k' ∧ p ≤ k' ∧ k' ≤ s.size ∧ Hid (skipE s p = skipE s k')) (fun k => s.size - (intOf k).toNat)
      case atStart => exact ⟨p, rfl, Nat.le_refl _, by omega, Lib.hid rfl⟩
      case round =>
        obtain ⟨k, rfl, hpk, hk, HK⟩ := hrel
        have fin : skipE s k = k → (p = k ∧ Hid (L.drop n = wordsE s (k + 1))) ∨ (p < k ∧ n < L.length ∧ Hid (L.drop n = ⟨p, k, true⟩ :: wordsE s k) ∧ Hid (L.drop (n + 1) = wordsE s (k + 1))) := by
          intro hke
          have hpe : skipE s p = k := HK.out.trans hke
          cases hg : gapI s[p].toNat
          · have h1 := skipE_on hlt hg
            have h2 := skipE_ge s (p + 1)
            have h3 := HD0.out.trans (words_word hlt hg)
            rw [← h1, hpe] at h3
            have h4 := words_skip s p
            rw [hpe] at h4
            exact Or.inr ⟨by omega, drop_lt h3, Lib.hid h3, Lib.hid ((drop_next h3).trans h4)⟩
          · have h1 := skipE_off hlt hg
            have e : p = k := h1.symm.trans hpe
            subst e
            exact Or.inl ⟨rfl, Lib.hid (HD0.out.trans (words_gap hlt hg))⟩
        by_cases hkl : k < s.size
        · cases hg : gapI s[k].toNat
          · have HE := Lib.hid (HK.out.trans (skipE_on hkl hg))
            obtain ⟨q1, q2⟩ := gap_no hg
            clear hg fin
            go_wp2_with fail
            go_round
            case rel => exact ⟨k + 1, by go_num, by omega, hkl, HE⟩
            case measure => simp [intOf]; omega
          · have hf := fin (skipE_off hkl hg)
            have hq := gap_yes hg
            clear hg fin
            rcases hf with ⟨rfl, HN⟩ | ⟨hlt2, hnl, HD, HN⟩
            · rcases hq with h1 | ⟨h1, h2⟩
              all_goals
                go_wp2_with fail
                go_roundw
                case rel => exact ⟨p + 1, n, rfl, by omega, hn, HN, hb, HO⟩
                case measure => simp [intOf]; omega
            · obtain ⟨lA, lc, rfl, hlc, hl0⟩ := rowown_shape HO.out
              have hbz := hb.size
              rcases hq with h1 | ⟨h1, h2⟩
              all_goals
                go_wp2_with (at_builtin; go_loud (refine wpList_append_lies _ rfl _ _ _ rfl w.heap.size 96 i0 _ 3 24 Tryd.underlying78 hi0 hz0 hz1 hz2 rfl (by omega) (.slice lA n lc) n (flat (pC L) 3 n) rfl (HO.out.alloc _) ⟨w5.heap.size, 0, none⟩ 1 1 [.int .i64 p, .int .i64 (k : Nat), .bool true] rfl rfl (World.news_of_block (cs := #[.int .i64 p, .int .i64 (k : Nat), .bool true]) (t := 96) (fr := (0, 0)) (heap_alloc_new w5 _)) (by simp [Value.oneCell']) (by omega) (by unfold maxLen; omega) (by omega) (by simp; omega) (w5.heap.size + 1) (by simp) ?_; intro gg gcap w9 hown9 hgrow hat hlt9))
                have hb8 := bnew hb (.cells #[.int .i64 p, .int .i64 (k : Nat), .bool true] 96)
                have hb9 : Below w.heap.size w w9 := below_grown hb8 hgrow hb8.size (fun x hx => (HO.out.lt x hx).1)
                go_roundw
                case rel => exact ⟨k + 1, n + 1, rfl, by omega, by omega, HN, hb9, Lib.hid (by rw [flat_piece HD.out]; exact hown9)⟩
                case measure => simp [intOf]; omega
        · obtain rfl : k = s.size := by omega
          have hf := fin (skipE_out hkl)
          clear fin
          rcases hf with ⟨rfl, HN⟩ | ⟨hlt2, hnl, HD, HN⟩
          · omega
          · obtain ⟨lA, lc, rfl, hlc, hl0⟩ := rowown_shape HO.out
            have hbz := hb.size
            go_wp2_with (at_builtin; go_loud (refine wpList_append_lies _ rfl _ _ _ rfl w.heap.size 96 i0 _ 3 24 Tryd.underlying78 hi0 hz0 hz1 hz2 rfl (by omega) (.slice lA n lc) n (flat (pC L) 3 n) rfl (HO.out.alloc _) ⟨w5.heap.size, 0, none⟩ 1 1 [.int .i64 p, .int .i64 (s.size : Nat), .bool true] rfl rfl (World.news_of_block (cs := #[.int .i64 p, .int .i64 (s.size : Nat), .bool true]) (t := 96) (fr := (0, 0)) (heap_alloc_new w5 _)) (by simp [Value.oneCell']) (by omega) (by unfold maxLen; omega) (by omega) (by simp; omega) (w5.heap.size + 1) (by simp) ?_; intro gg gcap w9 hown9 hgrow hat hlt9))
            have hb8 := bnew hb (.cells #[.int .i64 p, .int .i64 (s.size : Nat), .bool true] 96)
            have hb9 : Below w.heap.size w w9 := below_grown hb8 hgrow hb8.size (fun x hx => (HO.out.lt x hx).1)
            go_roundw
            case rel => exact ⟨s.size + 1, n + 1, rfl, Nat.le_refl _, by omega, HN, hb9, Lib.hid (by rw [flat_piece HD.out]; exact hown9)⟩
            case measure => simp [intOf]; omega
    · obtain rfl := drop_nil (HD0.out.trans (words_end hlt)) hn
      obtain ⟨lA, lc, rfl, hlc, hl0⟩ := rowown_shape HO.out
      have hle : s.size ≤ p := by omega
      go_wp2_with fail
      go_ret
      exact ⟨lA, lc, rfl, hb, HO.out⟩
set_option maxRecDepth 100000 in
theorem wordOf_any (s : ByteArray) (hs : s.size ≤ 1048576) (A : Option Addr) (cap : Nat) (L : List Pce) (i : Nat) (w : World) (h : PRd w A L) (ha : WOk s L) (hl : L.length ≤ 1048576) :
    Calls Tryd.prog 56 #[.string s, .slice A L.length cap, .int .i64 i] w fun e w' => e = .returned (.string (wtx s L i)) ∧ Below w.heap.size w w' := by
  by_cases hi : i < L.length
  · obtain ⟨b, off, rfl, hb, c0, c1, c2⟩ := PRd.at_ h hi
    obtain ⟨e1, e2⟩ := ha i hi
    have e3 := Nat.le_of_lt e1
    have HB : Hid (wtx s L i = s.extract (gp L i).a (gp L i).z) := Lib.hid (wtx_in hi)
    clear h ha
    generalize gp L i = p at *
    have hi2 : (i : Int) < (L.length : Int) := by omega
    go_enter Tryd.func56, Tryd.ntmps56
    go_wp2_with fail
    go_quiet (fail)
    go_wp2_with fail
    go_ret
    exact ⟨by rw [HB.out]; rfl, bdrewN (Below.refl _ _) _⟩
  · have HB := Lib.hid (wtx_out (s := s) hi)
    have hi2 : (L.length : Int) ≤ (i : Int) := by omega
    clear h ha
    go_enter Tryd.func56, Tryd.ntmps56
    go_wp2_with fail
    go_ret
    exact ⟨by rw [HB.out]; rfl, Below.refl _ _⟩
end Go.Proofs.YtppeonlpocdhkaaDoor

/-
  The walks of the program's pieces and of its places; the reference's placeAt, of a line.
-/
import Derived.Test.YtppeonlpocdhkaaDoorWordsWalk
set_option linter.unusedSimpArgs false
set_option linter.unusedVariables false
namespace Go.Proofs.YtppeonlpocdhkaaDoor
open Go.RowKit Go.ChangeShapes Go.WideShapes Go.ChangeAt Go.Deep Go.Joins
abbrev ERd (w : World) (s : ByteArray) (A : Option Addr) (L : List Pce) : Prop := RowRd w w.heap.size A L.length 2 24 (eC s L)
section
variable {w : World} {s : ByteArray} {A : Option Addr} {L : List Pce}
theorem ERd.at_ (h : ERd w s A L) {i : Nat} (hi : i < L.length) : ∃ b off, A = some ⟨b, off, none⟩ ∧ b < w.heap.size ∧ w.cell? ⟨b, off + i * 2, none⟩ = some (.string (wdAt s L i)) ∧ w.cell? ⟨b, off + i * 2 + 1, none⟩ = some (.int .i64 (gp L i).a) := by
  obtain ⟨b, off, e, hb, hc, h0⟩ := RowRd.spot h (by omega)
  exact ⟨b, off, e, hb, h0 i hi (by omega), hc i hi 1 (by omega)⟩
end
/-- Where the program's cut stands: no word begun, or one that began at k. -/
def EInv (s : ByteArray) (R : List Pce) (p : Nat) (b : Int) : Prop := (b = -1 ∧ R = wordsE s p) ∨ (∃ k : Nat, b = k ∧ k < p ∧ p ≤ s.size ∧ R = ⟨k, skipE s p, true⟩ :: wordsE s (skipE s p))
set_option maxRecDepth 100000 in
set_option maxHeartbeats 4000000 in
theorem pieces_walk (s : ByteArray) (hs : s.size ≤ 1048576) (w : World) :
    Calls Tryd.prog 49 #[.string s] w fun e w' => ∃ A c, e = .returned (.slice A (wordsE s 0).length c) ∧ Below w.heap.size w w' ∧ w'.ownsRow w.heap.size 88 2 (.slice A (wordsE s 0).length c) (wordsE s 0).length (flat (eC s (wordsE s 0)) 2 (wordsE s 0).length) := by
  obtain ⟨L, hL⟩ : ∃ L, wordsE s 0 = L := ⟨_, rfl⟩
  have hll : L.length ≤ 1048576 := by
    have := words_len s 0
    rw [hL] at this
    omega
  have HL := Lib.hid hL
  rw [hL]
  clear hL
  obtain ⟨i0, hi0, hz0, hz1, hz2⟩ := info_parts infoEPce
  go_enter Tryd.func49, Tryd.ntmps49
  go_wp2_with fail
  go_loopw [3, 4, 5] (fun l b i wr => ∃ (p n : Nat) (bg : Int), i = .int .i64 p ∧ b = .int .i64 bg ∧ p ≤ s.size + 1 ∧ n ≤ L.length ∧ Hid (EInv s (L.drop n) p bg) ∧ Below w.heap.size w wr ∧ Hid (wr.ownsRow w.heap.size 88 2 l n (flat (eC s L) 2 n))) (fun _ _ i _ => s.size + 2 - (intOf i).toNat)
  case atStart => exact ⟨0, 0, -1, rfl, rfl, Nat.zero_le _, Nat.zero_le _, Lib.hid (Or.inl ⟨rfl, by rw [HL.out]; rfl⟩), Below.refl _ _, Lib.hid (World.ownsRow_nil _ _ _ _)⟩
  case round =>
    obtain ⟨p, n, bg, rfl, rfl, hp, hn, HD0, hb, HO⟩ := hrel
    obtain ⟨w5, e5⟩ : ∃ w5 : World, w5 = wr := ⟨_, rfl⟩
    subst e5
    by_cases hle : p ≤ s.size
    · by_cases hstop : ∃ h : p < s.size, gapI s[p].toNat = false
      · obtain ⟨hlt, hg⟩ := hstop
        rcases HD0.out with ⟨rfl, hD⟩ | ⟨k, rfl, hkp, _, hD⟩
        · have HN : Hid (EInv s (L.drop n) (p + 1) p) := Lib.hid (Or.inr ⟨p, rfl, by omega, hlt, hD.trans (words_word hlt hg)⟩)
          obtain ⟨q1, q2⟩ := gap_no hg
          clear hg HD0 hD
          go_wp2_with fail
          go_roundw
          case rel => exact ⟨p + 1, n, p, by go_num, rfl, by omega, hn, HN, hb, HO⟩
          case measure => simp [intOf]; omega
        · have HN : Hid (EInv s (L.drop n) (p + 1) k) := Lib.hid (Or.inr ⟨k, rfl, by omega, hlt, by rw [hD, skipE_on hlt hg]⟩)
          obtain ⟨q1, q2⟩ := gap_no hg
          clear hg HD0 hD
          go_wp2_with fail
          go_roundw
          case rel => exact ⟨p + 1, n, k, by go_num, rfl, by omega, hn, HN, hb, HO⟩
          case measure => simp [intOf]; omega
      · have hse : skipE s p = p := by
          by_cases h : p < s.size
          · cases hg : gapI s[p].toNat
            · exact absurd ⟨h, hg⟩ hstop
            · exact skipE_off h hg
          · exact skipE_out h
        have hnx : wordsE s p = wordsE s (p + 1) := by
          have := words_skip s p
          rw [hse] at this
          exact this
        have hq : s.size ≤ p ∨ ∃ h : p < s.size, (((s[p].toNat : Nat) : Int) != 32) = false ∨ (((s[p].toNat : Nat) : Int) != 32) = true ∧ (((s[p].toNat : Nat) : Int) != 9) = false := by
          by_cases h : p < s.size
          · cases hg : gapI s[p].toNat
            · exact absurd ⟨h, hg⟩ hstop
            · exact Or.inr ⟨h, gap_yes hg⟩
          · exact Or.inl (by omega)
        rcases HD0.out with ⟨rfl, hD⟩ | ⟨k, rfl, hkp, _, hD⟩
        · have HN : Hid (EInv s (L.drop n) (p + 1) (-1)) := Lib.hid (Or.inl ⟨rfl, hD.trans hnx⟩)
          clear HD0 hD hse hnx hstop
          rcases hq with hge | ⟨hlt, h1 | ⟨h1, h2⟩⟩
          all_goals
            go_wp2_with fail
            go_roundw
            case rel => exact ⟨p + 1, n, -1, by go_num, rfl, by omega, hn, HN, hb, HO⟩
            case measure => first | (simp [intOf]; done) | (simp [intOf]; omega)
        · rw [hse] at hD
          have HD := Lib.hid hD
          have HN : Hid (EInv s (L.drop (n + 1)) (p + 1) (-1)) := Lib.hid (Or.inl ⟨rfl, (drop_next hD).trans hnx⟩)
          have hnl := drop_lt hD
          obtain ⟨lA, lc, rfl, hlc, hl0⟩ := rowown_shape HO.out
          have hbz := hb.size
          have hkp' := Nat.le_of_lt hkp
          clear HD0 hD hse hnx hstop
          rcases hq with hge | ⟨hlt, h1 | ⟨h1, h2⟩⟩
          all_goals
            go_wp2_with (at_builtin; go_loud (refine wpList_append_lies _ rfl _ _ _ rfl w.heap.size 88 i0 _ 2 24 Tryd.underlying85 hi0 hz0 hz1 hz2 rfl (by omega) (.slice lA n lc) n (flat (eC s L) 2 n) rfl (HO.out.alloc _) ⟨w5.heap.size, 0, none⟩ 1 1 [.string (s.extract k p), .int .i64 (k : Nat)] rfl rfl (World.news_of_block (cs := #[.string (s.extract k p), .int .i64 (k : Nat)]) (t := 88) (fr := (0, 0)) (heap_alloc_new w5 _)) (by simp [Value.oneCell']) (by omega) (by unfold maxLen; omega) (by omega) (by simp; omega) (w5.heap.size + 1) (by simp) ?_; intro gg gcap w9 hown9 hgrow hat hlt9))
          all_goals
            have hb8 := bnew hb (.cells #[.string (s.extract k p), .int .i64 (k : Nat)] 88)
            have hb9 : Below w.heap.size w w9 := below_grown hb8 hgrow hb8.size (fun x hx => (HO.out.lt x hx).1)
            go_roundw
            case rel => exact ⟨p + 1, n + 1, -1, by go_num, rfl, by omega, by omega, HN, hb9, Lib.hid (by rw [flat_eC HD.out]; exact hown9)⟩
            case measure => first | (simp [intOf]; done) | (simp [intOf]; omega)
    · have hD : L.drop n = [] := by
        rcases HD0.out with ⟨_, hD⟩ | ⟨k, _, _, h, _⟩
        · exact hD.trans (words_end (by omega))
        · exact absurd h hle
      obtain rfl := drop_nil hD hn
      obtain ⟨lA, lc, rfl, hlc, hl0⟩ := rowown_shape HO.out
      have hgt : s.size < p := by omega
      go_wp2_with fail
      go_ret
      exact ⟨lA, lc, rfl, hb, HO.out⟩
set_option maxRecDepth 100000 in
theorem placeOn_any (s : ByteArray) (hs : s.size ≤ 1048576) (A : Option Addr) (cap : Nat) (L : List Pce) (i : Nat) (w : World) (h : PRd w A L) (hl : L.length ≤ 1048576) :
    Calls Tryd.prog 46 #[.string s, .slice A L.length cap, .int .i64 i] w fun e w' => e = .returned (.int .i64 (placeN s L i)) ∧ w' = w := by
  by_cases hi : i < L.length
  · obtain ⟨b, off, rfl, hb, c0, c1, c2⟩ := PRd.at_ h hi
    have HB := Lib.hid (place_in (s := s) hi)
    clear h
    generalize gp L i = p at *
    go_enter Tryd.func46, Tryd.ntmps46
    go_wp2_with fail
    go_ret
    exact ⟨by rw [HB.out]; rfl, rfl⟩
  · have HB := Lib.hid (place_out (s := s) hi)
    clear h
    go_enter Tryd.func46, Tryd.ntmps46
    go_wp2_with fail
    go_ret
    exact ⟨by rw [HB.out]; rfl, rfl⟩
set_option maxRecDepth 100000 in
/-- The program's own places: a closure over the pieces and the line. -/
theorem at_any (s : ByteArray) (hs : s.size ≤ 1048576) (A : Option Addr) (cap : Nat) (L : List Pce) (i : Nat) (b1 b2 : Nat) (w : World) (h : ERd w s A L) (hl : L.length ≤ 1048576) (h1 : w.cell? ⟨b1, 0, none⟩ = some (.slice A L.length cap)) (h2 : w.cell? ⟨b2, 0, none⟩ = some (.string s)) :
    Calls Tryd.prog 50 #[.int .i64 i, .pointer (some ⟨b1, 0, none⟩), .pointer (some ⟨b2, 0, none⟩)] w fun e w' => e = .returned (.int .i64 (placeN s L i)) ∧ w' = w := by
  by_cases hi : i < L.length
  · obtain ⟨b, off, rfl, hb, c0, c1⟩ := ERd.at_ h hi
    have HB := Lib.hid (place_in (s := s) hi)
    clear h
    generalize gp L i = p at *
    go_enter Tryd.func50, Tryd.ntmps50
    go_wp2_with fail
    go_ret
    exact ⟨by rw [HB.out]; rfl, rfl⟩
  · have HB := Lib.hid (place_out (s := s) hi)
    clear h
    go_enter Tryd.func50, Tryd.ntmps50
    go_wp2_with fail
    go_ret
    exact ⟨by rw [HB.out]; rfl, rfl⟩
end Go.Proofs.YtppeonlpocdhkaaDoor

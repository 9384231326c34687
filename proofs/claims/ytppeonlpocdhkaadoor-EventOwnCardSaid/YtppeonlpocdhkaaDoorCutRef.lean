/-
  The walk of the reference's cut: a schema text's pieces.
-/
import Derived.Test.YtppeonlpocdhkaaDoorParseSchema
import Derived.Test.YtppeonlpocdhkaaDoorCheckSchemaRef
set_option linter.unusedSimpArgs false
set_option linter.unusedVariables false
namespace Go.Proofs.YtppeonlpocdhkaaDoor
open Go.RowKit Go.ChangeShapes Go.WideShapes Go.ChangeAt Go.Deep Go.Joins
def gp (l : List Pce) (j : Nat) : Pce := l.getD j ⟨0, 0, false⟩
def pC (l : List Pce) (j i : Nat) : Value := match i with | 0 => .int .i64 (gp l j).a | 1 => .int .i64 (gp l j).z | _ => .bool (gp l j).wd
theorem infoPce : (Tryd.prog.info? 96).map (fun i => (i.zero, i.size, i.bytes)) = some (some (.agg #[.int .i64 0, .int .i64 0, .bool false]), 3, 24) := by kernel_rfl
def blank3 (n : Nat) : Prop := (((n : Nat) : Int) == 32) = false ∧ (((n : Nat) : Int) == 9) = false ∧ (((n : Nat) : Int) == 10) = false ∧ (((n : Nat) : Int) == 13) = false
theorem blank_no {n : Nat} (h : blankI n = false) : blank3 n := by
  simp only [blankI, Bool.or_eq_false_iff, beq_eq_false_iff_ne] at h
  unfold blank3
  simp only [beq_eq_false_iff_ne]
  omega
theorem blank_yes {n : Nat} (h : blankI n = true) : (((n : Nat) : Int) == 32) = true ∨ (((n : Nat) : Int) == 32) = false ∧ (((n : Nat) : Int) == 9) = true ∨ (((n : Nat) : Int) == 32) = false ∧ (((n : Nat) : Int) == 9) = false ∧ (((n : Nat) : Int) == 10) = true ∨ (((n : Nat) : Int) == 32) = false ∧ (((n : Nat) : Int) == 9) = false ∧ (((n : Nat) : Int) == 10) = false ∧ (((n : Nat) : Int) == 13) = true := by
  simp only [blankI, Bool.or_eq_true, beq_iff_eq] at h
  simp only [beq_eq_false_iff_ne, beq_iff_eq]
  omega
theorem drop_next {l r : List Pce} {n : Nat} {x : Pce} (h : l.drop n = x :: r) : l.drop (n + 1) = r := by
  rw [← List.drop_drop, h]
  rfl
theorem drop_lt {l r : List Pce} {n : Nat} {x : Pce} (h : l.drop n = x :: r) : n < l.length := by
  have h1 := congrArg List.length h
  simp only [List.length_drop, List.length_cons] at h1
  omega
theorem gp_drop {l r : List Pce} {n : Nat} {x : Pce} (h : l.drop n = x :: r) : gp l n = x := by
  have h1 : (l.drop n)[0]? = some x := by rw [h]; rfl
  rw [List.getElem?_drop, Nat.add_zero] at h1
  simp [gp, h1]
theorem flat_piece {l r : List Pce} {n : Nat} {x : Pce} (h : l.drop n = x :: r) : flat (pC l) 3 (n + 1) = flat (pC l) 3 n ++ [.int .i64 x.a, .int .i64 x.z, .bool x.wd] := by
  have h1 := gp_drop h
  rw [flat_succ]
  simp [List.range_succ, pC, h1]
theorem drop_nil {l : List Pce} {n : Nat} (h : l.drop n = []) (hn : n ≤ l.length) : n = l.length := by
  have h1 := congrArg List.length h
  simp only [List.length_drop, List.length_nil] at h1
  omega
set_option maxRecDepth 100000 in
set_option maxHeartbeats 4000000 in
theorem cut_walk (s : ByteArray) (hs : s.size ≤ 4096) (w : World) :
    Calls Tryd.prog 44 #[.string s] w fun e w' => ∃ A c, e = .returned (.slice A (cutFrom s 0).length c) ∧ Below w.heap.size w w' ∧ w'.ownsRow w.heap.size 96 3 (.slice A (cutFrom s 0).length c) (cutFrom s 0).length (flat (pC (cutFrom s 0)) 3 (cutFrom s 0).length) := by
  obtain ⟨L, hL⟩ : ∃ L, cutFrom s 0 = L := ⟨_, rfl⟩
  have hll : L.length ≤ 4096 := by
    have := cut_len s 0
    rw [hL] at this
    omega
  have HL := Lib.hid hL
  rw [hL]
  clear hL
  obtain ⟨i0, hi0, hz0, hz1, hz2⟩ := info_parts infoPce
  go_enter Tryd.func44, Tryd.ntmps44
  go_wp2_with fail
  go_loopw [3, 4] (fun l i wr => ∃ p n : Nat, i = .int .i64 p ∧ p ≤ s.size ∧ n ≤ L.length ∧ Hid (L.drop n = cutFrom s p) ∧ Below w.heap.size w wr ∧ Hid (wr.ownsRow w.heap.size 96 3 l n (flat (pC L) 3 n))) (fun _ i _ => s.size - (intOf i).toNat)
  case atStart => exact ⟨0, 0, rfl, Nat.zero_le _, Nat.zero_le _, Lib.hid (by rw [HL.out]; rfl), Below.refl _ _, Lib.hid (World.ownsRow_nil _ _ _ _)⟩
  case round =>
    obtain ⟨p, n, rfl, hp, hn, HD0, hb, HO⟩ := hrel
    by_cases hlt : p < s.size
    · obtain ⟨w5, e5⟩ : ∃ w5 : World, w5 = wr := ⟨_, rfl⟩
      subst e5
      cases hbl : blankI s[p].toNat
      · by_cases h35 : s[p].toNat = 35
        · have HD1 : Hid (L.drop n = cutFrom s (skipC s (p + 1))) := Lib.hid (HD0.out.trans (cut_note hlt h35))
          have hq : blank3 s[p].toNat := blank_no hbl
          obtain ⟨q1, q2, q3, q4⟩ := hq
          have q5 : (((s[p].toNat : Nat) : Int) == 35) = true := by rw [beq_iff_eq]; omega
          clear hbl h35
          go_wp2_with fail
          go_loop [6] (fun k => ∃ k' : Nat, k = .int .i64 k' ∧ p < k' ∧ k' ≤ s.size ∧ Hid (skipC s (p + 1) = skipC s k')) (fun k => s.size - (intOf k).toNat)
          case atStart => exact ⟨p + 1, rfl, by omega, hlt, Lib.hid rfl⟩
          case round =>
            obtain ⟨k, rfl, hpk, hk, HK⟩ := hrel
            by_cases hkl : k < s.size
            · by_cases h10 : s[k].toNat = 10
              · have HE := Lib.hid (HK.out.trans (skipC_off hkl h10))
                have q6 : (((s[k].toNat : Nat) : Int) != 10) = false := by rw [bne_eq_false_iff_eq]; omega
                go_wp2_with fail
                go_roundw
                case rel => exact ⟨k, n, rfl, hk, hn, Lib.hid (by rw [← HE.out]; exact HD1.out), hb, HO⟩
                case measure => simp [intOf]; omega
              · have HE := Lib.hid (HK.out.trans (skipC_on hkl h10))
                have q6 : (((s[k].toNat : Nat) : Int) != 10) = true := by rw [bne_iff_ne]; omega
                go_wp2_with fail
                go_round
                case rel => exact ⟨k + 1, by go_num, by omega, hkl, HE⟩
                case measure => simp [intOf]; omega
            · have HE := Lib.hid (HK.out.trans (skipC_out hkl))
              go_wp2_with fail
              go_roundw
              case rel => exact ⟨k, n, rfl, hk, hn, Lib.hid (by rw [← HE.out]; exact HD1.out), hb, HO⟩
              case measure => simp [intOf]; omega
        · have q5 : (((s[p].toNat : Nat) : Int) == 35) = false := by rw [beq_eq_false_iff_ne]; omega
          have hq : blank3 s[p].toNat := blank_no hbl
          obtain ⟨q1, q2, q3, q4⟩ := hq
          cases hw : wordI s[p].toNat
          · have HD := Lib.hid (HD0.out.trans (cut_mark hlt hbl h35 hw))
            have hnl := drop_lt HD.out
            have HW := Lib.hid hw
            clear hbl h35 hw
            go_wp2_with fail
            refine (refInWord_any s[p].toNat _).mono ?_
            rintro e w3 ⟨rfl, rfl⟩
            rw [HW.out]
            have hbz := hb.size
            obtain ⟨lA, lc, rfl, hlc, hl0⟩ := rowown_shape HO.out
            go_wp2_with (at_builtin; go_loud (refine wpList_append_lies _ rfl _ _ _ rfl w.heap.size 96 i0 _ 3 24 Tryd.underlying78 hi0 hz0 hz1 hz2 rfl (by omega) (.slice lA n lc) n (flat (pC L) 3 n) rfl (HO.out.alloc _) ⟨w3.heap.size, 0, none⟩ 1 1 [.int .i64 p, .int .i64 ((p : Int) + 1), .bool false] rfl rfl (World.news_of_block (cs := #[.int .i64 p, .int .i64 ((p : Int) + 1), .bool false]) (t := 96) (fr := (0, 0)) (heap_alloc_new w3 _)) (by simp [Value.oneCell']) (by omega) (by unfold maxLen; omega) (by omega) (by simp; omega) (w3.heap.size + 1) (by simp) ?_; intro gg gcap w9 hown9 hgrow hat hlt9))
            have hb8 := bnew hb (.cells #[.int .i64 p, .int .i64 ((p : Int) + 1), .bool false] 96)
            have hb9 : Below w.heap.size w w9 := below_grown hb8 hgrow hb8.size (fun x hx => (HO.out.lt x hx).1)
            go_roundw
            case rel => exact ⟨p + 1, n + 1, rfl, by omega, by omega, Lib.hid (drop_next HD.out), hb9, Lib.hid (by rw [flat_piece HD.out]; exact hown9)⟩
            case measure => simp [intOf]; omega
          · have HD := Lib.hid (HD0.out.trans (cut_word hlt hw))
            have hnl := drop_lt HD.out
            have HW := Lib.hid hw
            clear hbl h35 hw
            go_wp2_with fail
            refine (refInWord_any s[p].toNat _).mono ?_
            rintro e w3 ⟨rfl, rfl⟩
            rw [HW.out]
            go_wp2_with fail
            go_loop [6] (fun k => ∃ k' : Nat, k = .int .i64 k' ∧ p < k' ∧ k' ≤ s.size ∧ Hid (skipW s (p + 1) = skipW s k')) (fun k => s.size - (intOf k).toNat)
            case atStart => exact ⟨p + 1, rfl, by omega, hlt, Lib.hid rfl⟩
            case round =>
              obtain ⟨k, rfl, hpk, hk, HK⟩ := hrel
              by_cases hkl : k < s.size
              · cases hwk : wordI s[k].toNat
                · have HE := Lib.hid (HK.out.trans (skipW_off hkl hwk))
                  have HWK := Lib.hid hwk
                  clear hwk
                  rw [HE.out] at HD
                  go_wp2_with fail
                  refine (refInWord_any s[k].toNat _).mono ?_
                  rintro e w4 ⟨rfl, rfl⟩
                  rw [HWK.out]
                  have hbz := hb.size
                  obtain ⟨lA, lc, rfl, hlc, hl0⟩ := rowown_shape HO.out
                  go_wp2_with (at_builtin; go_loud (refine wpList_append_lies _ rfl _ _ _ rfl w.heap.size 96 i0 _ 3 24 Tryd.underlying78 hi0 hz0 hz1 hz2 rfl (by omega) (.slice lA n lc) n (flat (pC L) 3 n) rfl (HO.out.alloc _) ⟨w4.heap.size, 0, none⟩ 1 1 [.int .i64 p, .int .i64 (k : Nat), .bool true] rfl rfl (World.news_of_block (cs := #[.int .i64 p, .int .i64 (k : Nat), .bool true]) (t := 96) (fr := (0, 0)) (heap_alloc_new w4 _)) (by simp [Value.oneCell']) (by omega) (by unfold maxLen; omega) (by omega) (by simp; omega) (w4.heap.size + 1) (by simp) ?_; intro gg gcap w9 hown9 hgrow hat hlt9))
                  have hb8 := bnew hb (.cells #[.int .i64 p, .int .i64 (k : Nat), .bool true] 96)
                  have hb9 : Below w.heap.size w w9 := below_grown hb8 hgrow hb8.size (fun x hx => (HO.out.lt x hx).1)
                  go_roundw
                  case rel => exact ⟨k, n + 1, rfl, by omega, by omega, Lib.hid (drop_next HD.out), hb9, Lib.hid (by rw [flat_piece HD.out]; exact hown9)⟩
                  case measure => simp [intOf]; omega
                · have HE := Lib.hid (HK.out.trans (skipW_on hkl hwk))
                  have HWK := Lib.hid hwk
                  clear hwk
                  go_wp2_with fail
                  refine (refInWord_any s[k].toNat _).mono ?_
                  rintro e w4 ⟨rfl, rfl⟩
                  rw [HWK.out]
                  go_wp2_with fail
                  go_round
                  case rel => exact ⟨k + 1, by go_num, by omega, hkl, HE⟩
                  case measure => simp [intOf]; omega
              · have HE := Lib.hid (HK.out.trans (skipW_out hkl))
                rw [HE.out] at HD
                have hbz := hb.size
                obtain ⟨lA, lc, rfl, hlc, hl0⟩ := rowown_shape HO.out
                go_wp2_with (at_builtin; go_loud (refine wpList_append_lies _ rfl _ _ _ rfl w.heap.size 96 i0 _ 3 24 Tryd.underlying78 hi0 hz0 hz1 hz2 rfl (by omega) (.slice lA n lc) n (flat (pC L) 3 n) rfl (HO.out.alloc _) ⟨w3.heap.size, 0, none⟩ 1 1 [.int .i64 p, .int .i64 (k : Nat), .bool true] rfl rfl (World.news_of_block (cs := #[.int .i64 p, .int .i64 (k : Nat), .bool true]) (t := 96) (fr := (0, 0)) (heap_alloc_new w3 _)) (by simp [Value.oneCell']) (by omega) (by unfold maxLen; omega) (by omega) (by simp; omega) (w3.heap.size + 1) (by simp) ?_; intro gg gcap w9 hown9 hgrow hat hlt9))
                have hb8 := bnew hb (.cells #[.int .i64 p, .int .i64 (k : Nat), .bool true] 96)
                have hb9 : Below w.heap.size w w9 := below_grown hb8 hgrow hb8.size (fun x hx => (HO.out.lt x hx).1)
                go_roundw
                case rel => exact ⟨k, n + 1, rfl, by omega, by omega, Lib.hid (drop_next HD.out), hb9, Lib.hid (by rw [flat_piece HD.out]; exact hown9)⟩
                case measure => simp [intOf]; omega
      · have hq := blank_yes hbl
        have HD := Lib.hid (HD0.out.trans (cut_blank hlt hbl))
        clear hbl
        rcases hq with h1 | ⟨h1, h2⟩ | ⟨h1, h2, h3⟩ | ⟨h1, h2, h3, h4⟩
        all_goals
          go_wp2_with fail
          go_roundw
          case rel => exact ⟨p + 1, n, by go_num, hlt, hn, HD, hb, HO⟩
          case measure => simp [intOf]; omega
    · obtain rfl : p = s.size := by omega
      obtain rfl := drop_nil (HD0.out.trans (cut_end hlt)) hn
      obtain ⟨lA, lc, rfl, hlc, hl0⟩ := rowown_shape HO.out
      go_wp2_with fail
      go_ret
      exact ⟨lA, lc, rfl, hb, HO.out⟩
end Go.Proofs.YtppeonlpocdhkaaDoor

/-
  The walks of the reference's CheckSchema and of what it calls.
-/
import Derived.Test.YtppeonlpocdhkaaDoorSchemaErr
import Derived.Test.YtppeonlpocdhkaaDoorSchemaOwn
import Derived.Test.YtppeonlpocdhkaaDoorNameRef
set_option linter.unusedSimpArgs false
namespace Go.Proofs.YtppeonlpocdhkaaDoor
open Go.RowKit Go.ChangeShapes Go.WideShapes Go.ChangeAt
theorem refIn_any (A : Option Addr) (n cap : Nat) (f : Nat → ByteArray) (nm : ByteArray) (w : World) (h : StrRd w w.heap.size A n f) :
    Calls Tryd.prog 77 #[.slice A n cap, .string nm] w fun e w' => e = .returned (.bool (inB n f nm)) ∧ w' = w := by
  have hn := h.1
  have HT := Lib.hid h
  clear h
  go_enter Tryd.func77, Tryd.ntmps77
  go_wp2_with fail
  go_loop [5] (fun i => ∃ k : Nat, k ≤ n ∧ i = .int .i64 k ∧ Hid (∀ j, j < k → ((f j).toList == nm.toList) = false)) (fun i => n - (intOf i).toNat)
  case atStart => exact ⟨0, Nat.zero_le _, rfl, Lib.hid none_zero⟩
  case round =>
    obtain ⟨k, hk, rfl, HN⟩ := hrel
    by_cases hlt : k < n
    · obtain ⟨b, off, rfl, hbl, hcs⟩ := HT.out.2 (by omega)
      have c1 := hcs k hlt
      clear hcs
      cases hp : ((f k).toList == nm.toList)
      all_goals
        have HP := Lib.hid hp
        go_wp2_with fail
      · go_round
        case rel => exact ⟨k + 1, by omega, by go_num, Lib.hid (none_step (p := fun j => (f j).toList == nm.toList) HN.out HP.out)⟩
        case measure => simp [intOf]; omega
      · go_ret
        exact ⟨ret_bool (inB_hit hlt HP.out).symm, rfl⟩
    · go_wp2_with fail
      go_ret
      exact ⟨ret_bool (inB_none (fun j hj => HN.out j (by omega))).symm, rfl⟩
set_option maxRecDepth 100000 in
set_option maxHeartbeats 400000 in
theorem refCheckType_any (A : Option Addr) (cap : Nat) (S : Sch) (i : Nat) (w : World) (h : TypRd w w.heap.size A S) {tt : TypeId} {fr : Nat × Nat} (hkw : w.heap[0]? = some (.cells kwArr tt fr)) (hi : i < S.n) :
    Calls Tryd.prog 60 #[.agg #[.slice A S.n cap], .int .i64 i] w fun e w' => e = .returned (.int .i64 (typeErr S i)) ∧ Below w.heap.size w w' := by
  have hn := h.1
  obtain ⟨i0, hi0, hz0, hz1, hz2⟩ := info_parts infoStr
  obtain ⟨b, off, rfl, hbl, hcs⟩ := h.2 (by omega)
  obtain ⟨c1, aa, ac, c2, hsr⟩ := hcs i hi
  have hln := hsr.1
  have HS := Lib.hid hsr
  have HT := Lib.hid h
  have HC := Lib.hid hcs
  have HK := Lib.hid hkw
  have hb0 := bnew (Below.refl w.heap.size w) (.cells #[.slice (some ⟨b, off, none⟩) S.n cap] 25)
  have hb2 := bnew hb0 (.cells #[.string (S.nm i), .slice aa (S.ln i) ac] 40)
  have x0 : ((w.alloc (.cells #[.slice (some ⟨b, off, none⟩) S.n cap] 25)).alloc (.cells #[.string (S.nm i), .slice aa (S.ln i) ac] 40)).cell? ⟨w.heap.size, 0, none⟩ = some (.slice (some ⟨b, off, none⟩) S.n cap) := by simp [go_sem]
  have t0 : ((w.alloc (.cells #[.slice (some ⟨b, off, none⟩) S.n cap] 25)).alloc (.cells #[.string (S.nm i), .slice aa (S.ln i) ac] 40)).cell? ⟨w.heap.size + 1, 0, none⟩ = some (.string (S.nm i)) := by simp [go_sem]
  have t1 : ((w.alloc (.cells #[.slice (some ⟨b, off, none⟩) S.n cap] 25)).alloc (.cells #[.string (S.nm i), .slice aa (S.ln i) ac] 40)).cell? ⟨w.heap.size + 1, 1, none⟩ = some (.slice aa (S.ln i) ac) := by simp [go_sem]
  have hz2' : ((w.alloc (.cells #[.slice (some ⟨b, off, none⟩) S.n cap] 25)).alloc (.cells #[.string (S.nm i), .slice aa (S.ln i) ac] 40)).heap.size = w.heap.size + 2 := by simp
  have d1 := (hb0.cell (p := ⟨b, off + i * 2, none⟩) hbl).trans c1
  have d2 := (hb0.cell (p := ⟨b, off + i * 2 + 1, none⟩) hbl).trans c2
  clear hcs hsr h hkw c1 c2
  cases hq : nameB (S.nm i)
  · have HQ := Lib.hid hq
    clear hq
    go_enter Tryd.func60, Tryd.ntmps60
    go_wp2_with fail
    refine (refIsName_any (S.nm i) _ (block_below HK.out hb2)).mono ?_
    rintro e w5 ⟨rfl, rfl⟩
    rw [HQ.out]
    go_wp2_with fail
    go_ret
    exact ⟨ret_int (typeErr_name HQ.out).symm, hb2⟩
  · have HQ := Lib.hid hq
    clear hq
    go_enter Tryd.func60, Tryd.ntmps60
    go_wp2_with fail
    generalize ((w.alloc (.cells #[.slice (some ⟨b, off, none⟩) S.n cap] 25)).alloc (.cells #[.string (S.nm i), .slice aa (S.ln i) ac] 40)) = w2 at *
    refine (refIsName_any (S.nm i) _ (block_below HK.out hb2)).mono ?_
    rintro e w5 ⟨rfl, rfl⟩
    rw [HQ.out]
    clear d1 d2 hb0
    go_wp2_with fail
    go_loopw [6] (fun v wr => ∃ k : Nat, k ≤ i ∧ v = .int .i64 k ∧ Hid (∀ j, j < k → ((S.nm j).toList == (S.nm i).toList) = false) ∧ ∃ q, wr = w5.drewN q) (fun v _ => i - (intOf v).toNat)
    case atStart => exact ⟨0, Nat.zero_le _, rfl, Lib.hid none_zero, 0, rfl⟩
    case round =>
      obtain ⟨k, hk, rfl, HN, q, rfl⟩ := hrel
      by_cases hlt : k < i
      · obtain ⟨c1, _⟩ := HC.out k (by omega)
        have d1 := (hb2.cell (p := ⟨b, off + k * 2, none⟩) hbl).trans c1
        have hkn : (k : Int) < (S.n : Int) := by omega
        clear c1
        cases hp : ((S.nm k).toList == (S.nm i).toList)
        all_goals
          have HP := Lib.hid hp
          go_wp2_with fail
          go_quiet (fail)
          go_wp2_with fail
        · go_roundw
          case rel => exact ⟨k + 1, by omega, by go_num, Lib.hid (none_step (p := fun j => (S.nm j).toList == (S.nm i).toList) HN.out HP.out), _, rfl⟩
          case measure => simp [intOf]; omega
        · go_ret
          exact ⟨ret_int (typeErr_twice HQ.out (inB_hit hlt HP.out)).symm, bdrewN (bdrewN hb2 _) _⟩
      · have hw : twiceB S.nm i = false := inB_none (fun j hj => HN.out j (by omega))
        have HW := Lib.hid hw
        have hb3 := bdrewN hb2 q
        have y1 : (w5.drewN q).cell? ⟨w.heap.size + 1, 1, none⟩ = some (.slice aa (S.ln i) ac) := t1
        have hz3 : w.heap.size + 2 ≤ (w5.drewN q).heap.size := Nat.le_of_eq hz2'.symm
        clear hw t0 t1 x0 hz2' hb2
        generalize w5.drewN q = w6 at *
        by_cases h8 : 8 < S.ln i
        · go_wp2_with fail
          go_ret
          exact ⟨ret_int (typeErr_many HQ.out HW.out h8).symm, hb3⟩
        · have HE := Lib.hid (typeErr_rest HQ.out HW.out h8)
          go_wp2_with fail
          go_loopw [8, 7] (fun v hv wr => ∃ m : Nat, m ≤ S.ln i ∧ v = .int .i64 m ∧ Hid (∀ j, j < m → attrErr (S.atr i) j = 0) ∧ Below w.heap.size w wr ∧ w.heap.size + 2 ≤ wr.heap.size ∧ wr.cell? ⟨w.heap.size + 1, 1, none⟩ = some (.slice aa (S.ln i) ac) ∧ Hid (wr.ownsRow (w.heap.size + 2) 9 1 hv m (strCells (S.atr i) m))) (fun v _ _ => S.ln i - (intOf v).toNat)
          case atStart => exact ⟨0, Nat.zero_le _, rfl, Lib.hid (fun _ h => absurd h (Nat.not_lt_zero _)), hb3, by omega, y1, Lib.hid ⟨rfl, Or.inl ⟨rfl, rfl⟩⟩⟩
          case round =>
            clear hz3 y1 hb3
            obtain ⟨m, hm, rfl, HM, hb7, hz7, v7, HO⟩ := hrel
            obtain ⟨w7, e7⟩ : ∃ w7 : World, w7 = wr := ⟨_, rfl⟩
            subst e7
            obtain ⟨hA, hc, rfl⟩ := own_shape HO.out
            by_cases hlm : m < S.ln i
            · obtain ⟨b2, off2, rfl, hbl2, hcs2⟩ := HS.out.2 (by omega)
              have c3 := (hb7.cell (p := ⟨b2, off2 + m, none⟩) hbl2).trans (hcs2 m hlm)
              clear hcs2
              cases hq2 : nameB (S.atr i m)
              · have HQ2 := Lib.hid hq2
                have HE2 := Lib.hid (attrErr_name hq2)
                clear hq2
                go_wp2_with fail
                refine (refIsName_any (S.atr i m) _ (block_below HK.out hb7)).mono ?_
                rintro e w8 ⟨rfl, rfl⟩
                rw [HQ2.out]
                go_wp2_with fail
                go_ret
                exact ⟨ret_int (by rw [HE.out, firstNZ_hit hlm (by rw [HE2.out]; decide) HM.out, HE2.out]), hb7⟩
              · have HQ2 := Lib.hid hq2
                clear hq2
                cases hts : ((S.atr i m).toList == [116, 115])
                · have HTS := Lib.hid hts
                  cases hw2 : twiceB (S.atr i) m
                  · have HW2 := Lib.hid hw2
                    have HE2 := Lib.hid (attrErr_ok HQ2.out HTS.out hw2)
                    clear hw2
                    go_wp2_with fail
                    refine (refIsName_any (S.atr i m) _ (block_below HK.out hb7)).mono ?_
                    rintro e w8 ⟨rfl, rfl⟩
                    rw [HQ2.out]
                    go_wp2_with fail
                    refine (refIn_any hA m hc (S.atr i) (S.atr i m) _ (own_str HO.out (by omega))).mono ?_
                    rintro e w8 ⟨rfl, rfl⟩
                    rw [show inB m (S.atr i) (S.atr i m) = false from HW2.out]
                    go_wp2_with (at_builtin; go_loud (refine wpList_append_lies _ rfl _ _ _ rfl (w.heap.size + 2) 9 i0 _ 1 16 Tryd.underlying38 hi0 hz0 hz1 hz2 rfl (by omega) (.slice hA m hc) m (strCells (S.atr i) m) rfl (HO.out.alloc _) ⟨w8.heap.size, 0, none⟩ 1 1 [.string (S.atr i m)] rfl rfl (World.news_of_block (cs := #[.string (S.atr i m)]) (t := 9) (fr := (0, 0)) (heap_alloc_new w8 _)) (by simp [Value.oneCell']) (by omega) (by unfold maxLen; omega) (by omega) (by simp; omega) (w8.heap.size + 1) (by simp) ?_; intro gg gcap w9 hown9 hgrow hat hlt9))
                    have hb8 := bnew hb7 (.cells #[.string (S.atr i m)] 9)
                    have hz8 := hgrow.size
                    go_roundw
                    case rel =>
                      refine ⟨m + 1, by omega, by go_num, Lib.hid (fun j hj => ?_), hb8.grown hgrow hb8.size (fun x hx => by have := (HO.out.lt x hx).1; omega), by simp at hz8; omega, ?_, Lib.hid (by rw [strCells_succ]; exact hown9)⟩
                      · by_cases e : j = m
                        · rw [e]; exact HE2.out
                        · exact HM.out j (by omega)
                      · exact (hgrow.cell_far _ (by simp; omega) (Ne.symm (own_ne HO.out (by simp)))).trans (cell_alloc v7 _)
                    case measure => simp [intOf]; omega
                  · have HW2 := Lib.hid hw2
                    have HE2 := Lib.hid (attrErr_twice HQ2.out HTS.out hw2)
                    clear hw2
                    go_wp2_with fail
                    refine (refIsName_any (S.atr i m) _ (block_below HK.out hb7)).mono ?_
                    rintro e w8 ⟨rfl, rfl⟩
                    rw [HQ2.out]
                    go_wp2_with fail
                    refine (refIn_any hA m hc (S.atr i) (S.atr i m) _ (own_str HO.out (by omega))).mono ?_
                    rintro e w8 ⟨rfl, rfl⟩
                    rw [show inB m (S.atr i) (S.atr i m) = true from HW2.out]
                    go_wp2_with fail
                    go_ret
                    exact ⟨ret_int (by rw [HE.out, firstNZ_hit hlm (by rw [HE2.out]; decide) HM.out, HE2.out]), hb7⟩
                · have HE2 := Lib.hid (attrErr_ts HQ2.out hts)
                  go_wp2_with fail
                  refine (refIsName_any (S.atr i m) _ (block_below HK.out hb7)).mono ?_
                  rintro e w8 ⟨rfl, rfl⟩
                  rw [HQ2.out]
                  go_wp2_with fail
                  go_ret
                  exact ⟨ret_int (by rw [HE.out, firstNZ_hit hlm (by rw [HE2.out]; decide) HM.out, HE2.out]), hb7⟩
            · go_wp2_with fail
              go_ret
              exact ⟨ret_int (by rw [HE.out]; exact (firstNZ_zero fun j hj => HM.out j (by omega)).symm), hb7⟩
theorem refCheckSchema_any (A : Option Addr) (cap : Nat) (S : Sch) (w : World) (h : TypRd w w.heap.size A S) {tt : TypeId} {fr : Nat × Nat} (hkw : w.heap[0]? = some (.cells kwArr tt fr)) :
    Calls Tryd.prog 37 #[.agg #[.slice A S.n cap]] w fun e w' => e = .returned (.int .i64 (schErr S)) ∧ Below w.heap.size w w' := by
  have hn := h.1
  have hb0 := bnew (Below.refl w.heap.size w) (.cells #[.slice A S.n cap] 25)
  by_cases h0 : S.n = 0
  · have HR := Lib.hid (schErr_n (S := S) (Or.inl h0))
    have hz : (S.n : Int) < 1 := by omega
    clear h hkw h0
    go_enter Tryd.func37, Tryd.ntmps37
    go_wp2_with fail
    go_ret
    exact ⟨ret_int HR.out.symm, hb0⟩
  by_cases h1 : 16 < S.n
  · have HR := Lib.hid (schErr_n (S := S) (Or.inr h1))
    clear h hkw
    go_enter Tryd.func37, Tryd.ntmps37
    go_wp2_with fail
    go_ret
    exact ⟨ret_int HR.out.symm, hb0⟩
  have HR := Lib.hid (schErr_rest (S := S) (by omega) (by omega))
  have HT := Lib.hid h
  have HK := Lib.hid hkw
  have hpos : 0 < S.n := by omega
  clear h hkw h0
  go_enter Tryd.func37, Tryd.ntmps37
  go_wp2_with fail
  go_loopw [3] (fun i wr => ∃ k : Nat, k ≤ S.n ∧ i = .int .i64 k ∧ Hid (∀ j, j < k → typeErr S j = 0) ∧ Below w.heap.size w wr ∧ w.heap.size < wr.heap.size ∧ wr.cell? ⟨w.heap.size, 0, none⟩ = some (.slice A S.n cap)) (fun i _ => S.n - (intOf i).toNat)
  case atStart => exact ⟨0, Nat.zero_le _, rfl, Lib.hid (fun _ h => absurd h (Nat.not_lt_zero _)), hb0, by simp, by simp [go_sem]⟩
  case round =>
    obtain ⟨k, hk, rfl, HN, hb, hsz, hx⟩ := hrel
    by_cases hlt : k < S.n
    · go_wp2_with fail
      refine (refCheckType_any A cap S k _ (HT.out.later hb) (block_below HK.out hb) hlt).mono ?_
      rintro e w1 ⟨rfl, hb1⟩
      have hz1 := hb1.size
      have x1 := (hb1.cell (p := ⟨w.heap.size, 0, none⟩) hsz).trans hx
      by_cases he : typeErr S k = 0
      · have hz2 : (typeErr S k != 0) = false := by rw [he]; rfl
        have HE := Lib.hid he
        clear he
        go_wp2_with fail
        go_roundw
        case rel =>
          refine ⟨k + 1, by omega, by go_num, Lib.hid (fun j hj => ?_), bcall hb hb1, by omega, x1⟩
          by_cases e : j = k
          · rw [e]; exact HE.out
          · exact HN.out j (by omega)
        case measure => simp [intOf]; omega
      · have hz2 : (typeErr S k != 0) = true := by rw [bne_iff_ne]; exact he
        have HE := Lib.hid (firstNZ_hit hlt he HN.out)
        clear he
        go_wp2_with fail
        go_ret
        exact ⟨ret_int (by rw [HR.out, HE.out]), bcall hb hb1⟩
    · go_wp2_with fail
      go_ret
      exact ⟨ret_int (by rw [HR.out]; exact (firstNZ_zero fun j hj => HN.out j (by omega)).symm), hb⟩
end Go.Proofs.YtppeonlpocdhkaaDoor

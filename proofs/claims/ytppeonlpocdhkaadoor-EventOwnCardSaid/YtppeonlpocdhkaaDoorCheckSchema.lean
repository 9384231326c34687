/-
  The walk of event.CheckSchema.
-/
import Derived.Test.YtppeonlpocdhkaaDoorSchemaErr
import Derived.Test.YtppeonlpocdhkaaDoorNameWalk
set_option linter.unusedSimpArgs false
namespace Go.Proofs.YtppeonlpocdhkaaDoor
open Go.RowKit Go.ChangeShapes Go.WideShapes Go.ChangeAt
set_option maxHeartbeats 2000000 in
theorem checkSchema_rest (A : Option Addr) (cap : Nat) (S : Sch) (w : World) (h : TypRd w w.heap.size A S) {tt : TypeId} {fr : Nat × Nat} (hkw : w.heap[0]? = some (.cells kwArr tt fr)) (hn0 : 0 < S.n) (hn1 : S.n ≤ 16) :
    Calls Tryd.prog 28 #[.agg #[.slice A S.n cap]] w fun e w' => e = .returned (.int .i64 (schErr S)) ∧ Below w.heap.size w w' := by
  have HT := Lib.hid h
  have HK := Lib.hid hkw
  have HR := Lib.hid (schErr_rest hn0 hn1)
  have hb0 := bnew (Below.refl w.heap.size w) (.cells #[.slice A S.n cap] 25)
  have hz0 : ((S.n : Int) == 0) = false := by rw [beq_eq_false_iff_ne]; omega
  clear h hkw
  go_enter Tryd.func28, Tryd.ntmps28
  go_wp2_with fail
  go_loopw [20] (fun i wr => ∃ k : Nat, k ≤ S.n ∧ i = .int .i64 k ∧ Hid (∀ j, j < k → typeErr S j = 0) ∧ Below w.heap.size w wr ∧ w.heap.size < wr.heap.size ∧ wr.cell? ⟨w.heap.size, 0, none⟩ = some (.slice A S.n cap)) (fun i _ => S.n - (intOf i).toNat)
  case atStart => exact ⟨0, Nat.zero_le _, rfl, Lib.hid (fun _ h => absurd h (Nat.not_lt_zero _)), hb0, by simp, by simp [go_sem]⟩
  case round =>
    obtain ⟨k, hk, rfl, HN, hb, hsz, hx⟩ := hrel
    obtain ⟨W1, e1⟩ : ∃ W1 : World, W1 = wr := ⟨_, rfl⟩
    subst e1
    by_cases hlt : k < S.n
    · obtain ⟨b, off, rfl, hbl, hcs⟩ := HT.out.2 (by omega)
      obtain ⟨c1, aa, ac, c2, hsr⟩ := hcs k hlt
      have d1 := (hb.cell (p := ⟨b, off + k * 2, none⟩) hbl).trans c1
      have d2 := (hb.cell (p := ⟨b, off + k * 2 + 1, none⟩) hbl).trans c2
      have HS := Lib.hid hsr
      have hln := hsr.1
      have hb4 := bnew (Below.refl W1.heap.size W1) (.cells #[.string (S.nm k), .slice aa (S.ln k) ac] 40)
      have hs4 : (W1.alloc (.cells #[.string (S.nm k), .slice aa (S.ln k) ac] 40)).heap.size = W1.heap.size + 1 := by simp
      have t0 : (W1.alloc (.cells #[.string (S.nm k), .slice aa (S.ln k) ac] 40)).cell? ⟨W1.heap.size, 0, none⟩ = some (.string (S.nm k)) := by simp [go_sem]
      have t1 : (W1.alloc (.cells #[.string (S.nm k), .slice aa (S.ln k) ac] 40)).cell? ⟨W1.heap.size, 1, none⟩ = some (.slice aa (S.ln k) ac) := by simp [go_sem]
      clear hcs c1 c2 hsr
      cases hq : nameB (S.nm k)
      all_goals
        have HQ := Lib.hid hq
        clear hq
        go_wp2_with fail
        generalize W1.alloc (.cells #[.string (S.nm k), .slice aa (S.ln k) ac] 40) = w4 at *
        refine (isName_any (S.nm k) _ (block_below HK.out (hb.trans (hb4.mono hb.size)))).mono ?_
        rintro e w5 ⟨rfl, hb5⟩
        rw [HQ.out]
        have hz5 := hb5.size
        have hb5' : Below W1.heap.size W1 w5 := bcall hb4 hb5
        have u0 := (hb5.cell (p := ⟨W1.heap.size, 0, none⟩) (by simp; omega)).trans t0
        have u1 := (hb5.cell (p := ⟨W1.heap.size, 1, none⟩) (by simp; omega)).trans t1
        have x5 := (hb5'.cell (p := ⟨w.heap.size, 0, none⟩) (by simp; omega)).trans hx
        clear t0 t1 hb4 hb5
      · go_wp2_with fail
        go_ret
        exact ⟨ret_int (by rw [HR.out, firstNZ_hit hlt (by rw [typeErr_name HQ.out]; decide) HN.out, typeErr_name HQ.out]), bcall hb hb5'⟩
      · cases hr : twiceB S.nm k
        all_goals
          have HW := Lib.hid hr
        · have HP := Lib.hid (place_once hlt hr)
          clear hr
          by_cases h8 : 8 < S.ln k
          · have HE := Lib.hid (typeErr_many HQ.out HW.out h8)
            go_wp2_with fail
            refine (typeOf_any (some ⟨b, off, none⟩) cap S (S.nm k) _ (HT.out.later (bcall hb hb5'))).mono ?_
            rintro e w6 ⟨rfl, hb6⟩
            rw [typeI, HP.out]
            have v1 := (hb6.cell (p := ⟨W1.heap.size, 1, none⟩) (by simp; omega)).trans u1
            go_wp2_with fail
            go_ret
            exact ⟨ret_int (by rw [HR.out, firstNZ_hit hlt (by rw [HE.out]; decide) HN.out, HE.out]), bcall hb (bcall hb5' hb6)⟩
          · have HE := Lib.hid (typeErr_rest HQ.out HW.out h8)
            go_wp2_with fail
            refine (typeOf_any (some ⟨b, off, none⟩) cap S (S.nm k) _ (HT.out.later (bcall hb hb5'))).mono ?_
            rintro e w6 ⟨rfl, hb6⟩
            rw [typeI, HP.out]
            have v1 := (hb6.cell (p := ⟨W1.heap.size, 1, none⟩) (by simp; omega)).trans u1
            have x6 := (hb6.cell (p := ⟨w.heap.size, 0, none⟩) (by simp; omega)).trans x5
            have hb6' := bcall hb5' hb6
            have hz6 := hb6.size
            clear u0 u1 x5 hb5' hb6
            go_wp2_with fail
            go_loopw [45] (fun i wr => ∃ m : Nat, m ≤ S.ln k ∧ i = .int .i64 m ∧ Hid (∀ j, j < m → attrErr (S.atr k) j = 0) ∧ Below W1.heap.size W1 wr ∧ W1.heap.size < wr.heap.size ∧ wr.cell? ⟨W1.heap.size, 1, none⟩ = some (.slice aa (S.ln k) ac)) (fun i _ => S.ln k - (intOf i).toNat)
            case atStart => exact ⟨0, Nat.zero_le _, rfl, Lib.hid (fun _ h => absurd h (Nat.not_lt_zero _)), hb6', by omega, v1⟩
            case round =>
              clear v1 x6 hb6' hz6
              obtain ⟨m, hm, rfl, HM, hb7, hz7, v7⟩ := hrel
              obtain ⟨w7, e7⟩ : ∃ w7 : World, w7 = wr := ⟨_, rfl⟩
              subst e7
              have hb7' := bcall hb hb7
              by_cases hlm : m < S.ln k
              · obtain ⟨b2, off2, rfl, hbl2, hcs2⟩ := HS.out.2 (by omega)
                have c3 := (hb7'.cell (p := ⟨b2, off2 + m, none⟩) hbl2).trans (hcs2 m hlm)
                clear hcs2
                cases hq2 : nameB (S.atr k m)
                · have HQ2 := Lib.hid hq2
                  clear hq2
                  go_wp2_with fail
                  refine (isName_any (S.atr k m) _ (block_below HK.out hb7')).mono ?_
                  rintro e w8 ⟨rfl, hb8⟩
                  rw [HQ2.out]
                  go_wp2_with fail
                  go_ret
                  exact ⟨ret_int (by rw [HR.out, firstNZ_hit hlt (by rw [HE.out, firstNZ_hit hlm (by rw [attrErr_name HQ2.out]; decide) HM.out, attrErr_name HQ2.out]; decide) HN.out, HE.out, firstNZ_hit hlm (by rw [attrErr_name HQ2.out]; decide) HM.out, attrErr_name HQ2.out]), bcall hb7' hb8⟩
                · have HQ2 := Lib.hid hq2
                  clear hq2
                  cases hts : ((S.atr k m).toList == [116, 115])
                  · have HTS := Lib.hid hts
                    cases hw2 : twiceB (S.atr k) m
                    · have HP2 := Lib.hid (place_once hlm hw2)
                      have HE2 := Lib.hid (attrErr_ok HQ2.out HTS.out hw2)
                      clear hw2
                      go_wp2_with fail
                      refine (isName_any (S.atr k m) _ (block_below HK.out hb7')).mono ?_
                      rintro e w8 ⟨rfl, hb8⟩
                      rw [HQ2.out]
                      have v8 := (hb8.cell (p := ⟨W1.heap.size, 1, none⟩) (by simp; omega)).trans v7
                      have hz8 := hb8.size
                      go_wp2_with fail
                      refine (placeOf_any (some ⟨b2, off2, none⟩) (S.ln k) ac (S.atr k) (S.atr k m) _ (HS.out.below (hb7'.trans (hb8.mono hb7'.size)) |>.more (by have := hb7'.size; omega))).mono ?_
                      rintro e w9 ⟨rfl, rfl⟩
                      rw [HP2.out]
                      go_wp2_with fail
                      go_roundw
                      case rel =>
                        refine ⟨m + 1, by omega, by go_num, Lib.hid (fun j hj => ?_), bcall hb7 hb8, by omega, v8⟩
                        by_cases e : j = m
                        · rw [e]; exact HE2.out
                        · exact HM.out j (by omega)
                      case measure => simp [intOf]; omega
                    · have HE2 := Lib.hid (attrErr_twice HQ2.out HTS.out hw2)
                      obtain ⟨q, hq3, hq4⟩ := place_twice hlm hw2
                      have HP2 := Lib.hid hq4
                      clear hw2 hq4
                      go_wp2_with fail
                      refine (isName_any (S.atr k m) _ (block_below HK.out hb7')).mono ?_
                      rintro e w8 ⟨rfl, hb8⟩
                      rw [HQ2.out]
                      have v8 := (hb8.cell (p := ⟨W1.heap.size, 1, none⟩) (by simp; omega)).trans v7
                      have hz8 := hb8.size
                      go_wp2_with fail
                      refine (placeOf_any (some ⟨b2, off2, none⟩) (S.ln k) ac (S.atr k) (S.atr k m) _ (HS.out.below (hb7'.trans (hb8.mono hb7'.size)) |>.more (by have := hb7'.size; omega))).mono ?_
                      rintro e w9 ⟨rfl, rfl⟩
                      rw [HP2.out]
                      have hne : ((q : Int) != (m : Int)) = true := by rw [bne_iff_ne]; omega
                      go_wp2_with fail
                      go_ret
                      exact ⟨ret_int (by rw [HR.out, firstNZ_hit hlt (by rw [HE.out, firstNZ_hit hlm (by rw [HE2.out]; decide) HM.out, HE2.out]; decide) HN.out, HE.out, firstNZ_hit hlm (by rw [HE2.out]; decide) HM.out, HE2.out]), bcall hb7' hb8⟩
                  · have HE2 := Lib.hid (attrErr_ts HQ2.out hts)
                    go_wp2_with fail
                    refine (isName_any (S.atr k m) _ (block_below HK.out hb7')).mono ?_
                    rintro e w8 ⟨rfl, hb8⟩
                    rw [HQ2.out]
                    go_wp2_with fail
                    go_ret
                    exact ⟨ret_int (by rw [HR.out, firstNZ_hit hlt (by rw [HE.out, firstNZ_hit hlm (by rw [HE2.out]; decide) HM.out, HE2.out]; decide) HN.out, HE.out, firstNZ_hit hlm (by rw [HE2.out]; decide) HM.out, HE2.out]), bcall hb7' hb8⟩
              · go_wp2_with fail
                go_roundw
                case rel =>
                  refine ⟨k + 1, by omega, by go_num, Lib.hid (fun j hj => ?_), hb7', by omega, (hb7.cell (p := ⟨w.heap.size, 0, none⟩) (by simp; omega)).trans hx⟩
                  by_cases e : j = k
                  · rw [e, HE.out]; exact firstNZ_zero fun j hj => HM.out j (by omega)
                  · exact HN.out j (by omega)
                case measure => simp [intOf]; omega
        · have HE := Lib.hid (typeErr_twice HQ.out hr)
          obtain ⟨q, hq3, hq4⟩ := place_twice hlt hr
          have HP := Lib.hid hq4
          clear hr hq4
          go_wp2_with fail
          refine (typeOf_any (some ⟨b, off, none⟩) cap S (S.nm k) _ (HT.out.later (bcall hb hb5'))).mono ?_
          rintro e w6 ⟨rfl, hb6⟩
          rw [typeI, HP.out]
          have hne : ((q : Int) != (k : Int)) = true := by rw [bne_iff_ne]; omega
          go_wp2_with fail
          go_ret
          exact ⟨ret_int (by rw [HR.out, firstNZ_hit hlt (by rw [HE.out]; decide) HN.out, HE.out]), bcall hb (bcall hb5' hb6)⟩
    · go_wp2_with fail
      go_ret
      exact ⟨ret_int (by rw [HR.out]; exact (firstNZ_zero fun j hj => HN.out j (by omega)).symm), hb⟩
theorem checkSchema_any (A : Option Addr) (cap : Nat) (S : Sch) (w : World) (h : TypRd w w.heap.size A S) {tt : TypeId} {fr : Nat × Nat} (hkw : w.heap[0]? = some (.cells kwArr tt fr)) :
    Calls Tryd.prog 28 #[.agg #[.slice A S.n cap]] w fun e w' => e = .returned (.int .i64 (schErr S)) ∧ Below w.heap.size w w' := by
  have hn := h.1
  have hb0 := bnew (Below.refl w.heap.size w) (.cells #[.slice A S.n cap] 25)
  by_cases h0 : S.n = 0
  · have HR := Lib.hid (schErr_n (S := S) (Or.inl h0))
    have hz : ((S.n : Int) == 0) = true := by simp [h0]
    clear h hkw h0
    go_enter Tryd.func28, Tryd.ntmps28
    go_wp2_with fail
    go_ret
    exact ⟨ret_int HR.out.symm, hb0⟩
  by_cases h1 : 16 < S.n
  · have HR := Lib.hid (schErr_n (S := S) (Or.inr h1))
    have hz : ((S.n : Int) == 0) = false := by rw [beq_eq_false_iff_ne]; omega
    clear h hkw
    go_enter Tryd.func28, Tryd.ntmps28
    go_wp2_with fail
    go_ret
    exact ⟨ret_int HR.out.symm, hb0⟩
  exact checkSchema_rest A cap S w h hkw (by omega) (by omega)
end Go.Proofs.YtppeonlpocdhkaaDoor

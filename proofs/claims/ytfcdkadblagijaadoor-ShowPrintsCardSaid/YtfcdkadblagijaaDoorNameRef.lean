/-
  The walks of the reference's IsName and of what it calls, and the law EventNames.
-/
import Derived.Test.YtfcdkadblagijaaDoorLetters2
set_option linter.unusedSimpArgs false
namespace Go.Proofs.YtfcdkadblagijaaDoor
open Go.RowKit Go.ChangeShapes Go.WideShapes Go.ChangeAt
theorem refLetter_any (n : Int) (w : World) : Calls Tryd.prog 69 #[.int .u8 n] w fun e w' => e = .returned (.bool (ltrI n)) ∧ w' = w := by
  go_enter Tryd.func69, Tryd.ntmps69
  go_wp2
  all_goals go_ret
  all_goals refine ⟨ret_bool ?_, rfl⟩
  all_goals (rw [Bool.eq_iff_iff]; simp only [wordI, ltrI, digI, Bool.or_eq_true, Bool.and_eq_true, decide_eq_true_eq, beq_iff_eq, iff_true, true_iff, Bool.false_eq_true, iff_false, false_iff]; omega)
theorem refDigit_any (n : Int) (w : World) : Calls Tryd.prog 62 #[.int .u8 n] w fun e w' => e = .returned (.bool (digI n)) ∧ w' = w := by
  go_enter Tryd.func62, Tryd.ntmps62
  go_wp2
  all_goals go_ret
  all_goals refine ⟨ret_bool ?_, rfl⟩
  all_goals (rw [Bool.eq_iff_iff]; simp only [wordI, ltrI, digI, Bool.or_eq_true, Bool.and_eq_true, decide_eq_true_eq, beq_iff_eq, iff_true, true_iff, Bool.false_eq_true, iff_false, false_iff]; omega)
theorem refInWord_any (n : Int) (w : World) : Calls Tryd.prog 61 #[.int .u8 n] w fun e w' => e = .returned (.bool (wordI n)) ∧ w' = w := by
  have hw : wordI n = (ltrI n || digI n || n == 95) := rfl
  have HW := Lib.hid hw
  clear hw
  cases h1 : ltrI n
  · have H1 := Lib.hid h1
    clear h1
    cases h2 : digI n
    all_goals
      have H2 := Lib.hid h2
      clear h2
      go_enter Tryd.func61, Tryd.ntmps61
      go_wp2_with fail
      refine (refLetter_any n _).mono ?_
      rintro e w' ⟨rfl, rfl⟩
      rw [H1.out]
      go_wp2_with fail
      refine (refDigit_any n _).mono ?_
      rintro e w' ⟨rfl, rfl⟩
      rw [H2.out]
      go_wp2_with fail
      go_ret
      exact ⟨ret_bool (by rw [HW.out, H1.out, H2.out]; simp), rfl⟩
  · have H1 := Lib.hid h1
    clear h1
    go_enter Tryd.func61, Tryd.ntmps61
    go_wp2_with fail
    refine (refLetter_any n _).mono ?_
    rintro e w' ⟨rfl, rfl⟩
    rw [H1.out]
    go_wp2_with fail
    go_ret
    exact ⟨ret_bool (by rw [HW.out, H1.out]; simp), rfl⟩
theorem ltr_iff {n : Int} : ltrI n = true ↔ (65 ≤ n ∧ n ≤ 90) ∨ (97 ≤ n ∧ n ≤ 122) := by simp [ltrI]
theorem up_letter {c d : UInt8} (hc : ltrI (c.toNat : Int) = true) (hd : 65 ≤ d.toNat ∧ d.toNat ≤ 90) : up c = d ↔ (c.toNat : Int) % 32 = (d.toNat : Int) % 32 := by
  rw [ltr_iff] at hc
  by_cases h : 97 ≤ c.toNat ∧ c.toNat ≤ 122
  · have h1 := up_small h.1 h.2
    constructor
    · intro e
      rw [e] at h1
      omega
    · intro e
      apply UInt8.toNat_inj.1
      omega
  · rw [up_other h]
    constructor
    · rintro rfl; rfl
    · intro e
      apply UInt8.toNat_inj.1
      omega
theorem up_nonletter {c : UInt8} (hc : ltrI (c.toNat : Int) = false) : up c = c := by
  apply up_other
  intro h
  rw [Bool.eq_false_iff, ne_eq, ltr_iff] at hc
  omega
theorem great_letter {d : UInt8} (hd : 65 ≤ d.toNat ∧ d.toNat ≤ 90) : ltrI (d.toNat : Int) = true := ltr_iff.2 (Or.inl (by omega))
/-- Great letters alone. -/
def Great (k : ByteArray) : Prop := ∀ i (h : i < k.size), 65 ≤ k[i].toNat ∧ k[i].toNat ≤ 90
set_option maxHeartbeats 400000 in
theorem refAlike_any (s k : ByteArray) (w : World) (hs : s.size ≤ 9223372036854775807) (hg : Great k) :
    Calls Tryd.prog 63 #[.string s, .string k] w fun e w' => e = .returned (.bool (alikeB s k)) ∧ w' = w := by
  have HG := Lib.hid hg
  clear hg
  by_cases hz : s.size = k.size
  · have HZ := Lib.hid hz
    have h0 : ((s.size : Int) != (k.size : Int)) = false := by rw [hz]; simp
    have hz1 : s.size ≤ k.size := by omega
    have hz2 : k.size ≤ s.size := by omega
    clear hz
    go_enter Tryd.func63, Tryd.ntmps63
    go_wp2_with fail
    go_loop [5] (fun i => ∃ j : Nat, j ≤ s.size ∧ i = .int .i64 j ∧ Hid (likeTo s k j)) (fun i => s.size - (intOf i).toNat)
    case atStart => exact ⟨0, Nat.zero_le _, rfl, Lib.hid (likeTo_zero _ _)⟩
    case round =>
      obtain ⟨j, hj, rfl, HL⟩ := hrel
      by_cases hlt : j < s.size
      · have hlk : j < k.size := by omega
        have HU := Lib.hid (HG.out j hlk)
        cases hc : ltrI (s[j].toNat : Int)
        · have HC := Lib.hid hc
          clear hc
          go_wp2_with fail
          refine (refLetter_any _ _).mono ?_
          rintro e w' ⟨rfl, rfl⟩
          rw [HC.out]
          go_wp2_with fail
          · go_ret
            exact ⟨ret_bool (alike_miss hlt hlk (up_ne_other (by have := up_nonletter HC.out; intro h; have h2 := HC.out; rw [Bool.eq_false_iff, ne_eq, ltr_iff] at h2; omega) (by assumption))).symm, rfl⟩
          · go_round
            case rel => exact ⟨j + 1, by omega, by go_num, Lib.hid (likeTo_step HL.out hlt hlk (up_eq_other (by intro h; have h2 := HC.out; rw [Bool.eq_false_iff, ne_eq, ltr_iff] at h2; omega) (by assumption)))⟩
            case measure => simp [intOf]; omega
        · have HC := Lib.hid hc
          clear hc
          have HI := Lib.hid (up_letter HC.out HU.out)
          go_wp2_with fail
          refine (refLetter_any _ _).mono ?_
          rintro e w' ⟨rfl, rfl⟩
          rw [HC.out]
          go_wp2_with fail
          refine (refLetter_any _ _).mono ?_
          rintro e w' ⟨rfl, rfl⟩
          rw [great_letter HU.out]
          go_wp2_with fail
          · go_ret
            exact ⟨ret_bool (alike_miss hlt hlk (by
              rename_i hne
              intro e
              rw [HI.out.1 e] at hne
              simp at hne)).symm, rfl⟩
          · go_round
            case rel => exact ⟨j + 1, by omega, by go_num, Lib.hid (likeTo_step HL.out hlt hlk (HI.out.2 (by
              rename_i hne
              simpa using hne)))⟩
            case measure => simp [intOf]; omega
      · go_wp2_with fail
        go_ret
        exact ⟨ret_bool (likeTo_all HZ.out (by have : j = s.size := by omega
                                               subst this; exact HL.out)).symm, rfl⟩
  · have h0 : ((s.size : Int) != (k.size : Int)) = true := by simp; omega
    go_enter Tryd.func63, Tryd.ntmps63
    go_wp2_with fail
    go_ret
    exact ⟨ret_bool (alike_short hz).symm, rfl⟩
theorem kwAt_great {j : Nat} (hj : j < 27) : Great (kwAt j) := by
  have : ∀ j, j < 27 → ((kwAt j).data.toList.all fun c => decide (65 ≤ c.toNat) && decide (c.toNat ≤ 90)) = true := by decide
  have h := this j hj
  intro i hi
  have h2 := List.all_eq_true.1 h (kwAt j)[i] (List.mem_iff_getElem.2 ⟨i, by simpa using hi, rfl⟩)
  simpa using h2
theorem refIsName_small (s : ByteArray) (w : World) (h : s.size = 0) : Calls Tryd.prog 50 #[.string s] w fun e w' => e = .returned (.bool (nameB s)) ∧ w' = w := by
  have HN := Lib.hid (name_small (s := s) (by omega))
  have hlt : (s.size : Int) < 1 := by omega
  go_enter Tryd.func50, Tryd.ntmps50
  go_wp2_with fail
  go_ret
  exact ⟨ret_bool HN.out.symm, rfl⟩
theorem refIsName_great (s : ByteArray) (w : World) (h : 16 < s.size) : Calls Tryd.prog 50 #[.string s] w fun e w' => e = .returned (.bool (nameB s)) ∧ w' = w := by
  have HN := Lib.hid (name_great (s := s) (by omega))
  go_enter Tryd.func50, Tryd.ntmps50
  go_wp2_with fail
  go_ret
  exact ⟨ret_bool HN.out.symm, rfl⟩
set_option maxHeartbeats 1000000 in
theorem refIsName_rest (s : ByteArray) (w : World) (h0 : 0 < s.size) (h1 : s.size ≤ 16) {tt : TypeId} {fr : Nat × Nat} (hb : w.heap[2]? = some (.cells kwArr tt fr)) :
    Calls Tryd.prog 50 #[.string s] w fun e w' => e = .returned (.bool (nameB s)) ∧ w' = w := by
  have HB := Lib.hid hb
  clear hb
  go_enter Tryd.func50, Tryd.ntmps50
  go_wp2_with fail
  go_loop [3] (fun i => ∃ j : Nat, j ≤ s.size ∧ i = .int .i64 j ∧ Hid (∀ k (hk : k < s.size), k < j → wordI (s[k].toNat) = true)) (fun i => s.size - (intOf i).toNat)
  case atStart => exact ⟨0, Nat.zero_le _, rfl, Lib.hid (fun _ _ h => absurd h (Nat.not_lt_zero _))⟩
  case round =>
    obtain ⟨j, hj, rfl, HL⟩ := hrel
    by_cases hlt : j < s.size
    · cases hw : wordI (s[j].toNat)
      all_goals
        have HW := Lib.hid hw
        clear hw
        go_wp2_with fail
        refine (refInWord_any _ _).mono ?_
        rintro e w' ⟨rfl, rfl⟩
        rw [HW.out]
        go_wp2_with fail
      · go_ret
        exact ⟨ret_bool (name_word hlt HW.out).symm, rfl⟩
      · go_round
        case rel =>
          refine ⟨j + 1, by omega, by go_num, Lib.hid (fun k hk hkj => ?_)⟩
          by_cases e : k = j
          · subst e; exact HW.out
          · exact HL.out k hk (by omega)
        case measure => simp [intOf]; omega
    · have HALL := Lib.hid (show ∀ k (hk : k < s.size), wordI (s[k].toNat) = true from fun k hk => HL.out k hk (by omega))
      cases hd : digI (s[0].toNat)
      · have HD := Lib.hid hd
        clear hd
        go_wp2_with fail
        refine (refDigit_any _ _).mono ?_
        rintro e w' ⟨rfl, rfl⟩
        rw [HD.out]
        go_wp2_with fail
        go_loop [4] (fun i => ∃ j : Nat, j ≤ 27 ∧ i = .int .i64 j ∧ Hid (∀ k, k < j → alikeB s (kwAt k) = false)) (fun i => 27 - (intOf i).toNat)
        case atStart => exact ⟨0, by omega, rfl, Lib.hid (fun _ h => absurd h (Nat.not_lt_zero _))⟩
        case round =>
          obtain ⟨m, hm, rfl, HM⟩ := hrel
          by_cases hlt2 : m < 27
          · have hcell := kwArr_cell HB.out m hlt2
            cases hp : alikeB s (kwAt m)
            all_goals
              have HP := Lib.hid hp
              clear hp
              go_wp2_with fail
              refine (refAlike_any s (kwAt m) _ (by omega) (kwAt_great hlt2)).mono ?_
              rintro e w' ⟨rfl, rfl⟩
              rw [HP.out]
              go_wp2_with fail
            · go_round
              case rel =>
                refine ⟨m + 1, by omega, by go_num, Lib.hid (fun k hk => ?_)⟩
                by_cases e : k = m
                · subst e; exact HP.out
                · exact HM.out k (by omega)
              case measure => simp [intOf]; omega
            · go_ret
              exact ⟨ret_bool (name_kw hlt2 HP.out).symm, rfl⟩
          · go_wp2_with fail
            go_ret
            exact ⟨ret_bool (name_yes h0 h1 HALL.out HD.out (fun k hk => HM.out k (by omega))).symm, rfl⟩
      · have HD := Lib.hid hd
        clear hd
        go_wp2_with fail
        refine (refDigit_any _ _).mono ?_
        rintro e w' ⟨rfl, rfl⟩
        rw [HD.out]
        go_wp2_with fail
        go_ret
        exact ⟨ret_bool (name_digit h0 HD.out).symm, rfl⟩
theorem refIsName_any (s : ByteArray) (w : World) {tt : TypeId} {fr : Nat × Nat} (hb : w.heap[2]? = some (.cells kwArr tt fr)) :
    Calls Tryd.prog 50 #[.string s] w fun e w' => e = .returned (.bool (nameB s)) ∧ w' = w := by
  by_cases h0 : s.size = 0
  · exact refIsName_small s w h0
  by_cases h1 : 16 < s.size
  · exact refIsName_great s w h1
  exact refIsName_rest s w (by omega) (by omega) hb
end Go.Proofs.YtfcdkadblagijaaDoor

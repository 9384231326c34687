/-
  The walks of the program's number and id, and of the reference's.
-/
import Derived.Test.YtppeonlpocdhkaaDoorEventText
import Derived.Test.YtppeonlpocdhkaaDoorShelfParse
import Derived.Lib.AtoiErrMem
import Derived.BigQuiet
set_option linter.unusedSimpArgs false
set_option linter.unusedVariables false
namespace Go.Proofs.YtppeonlpocdhkaaDoor
open Go.RowKit Go.ChangeShapes Go.WideShapes Go.ChangeAt Go.Deep Go.Joins
section
variable {s : ByteArray} {k : Nat}
theorem data_at (h : k < s.size) : s.data.toList[k]? = some s[k] := by
  have : s.data.toList.length = s.size := rfl
  rw [List.getElem?_eq_getElem (by omega)]
  rfl
theorem data_drop (h : k < s.size) : s.data.toList.drop k = s[k] :: s.data.toList.drop (k + 1) := by
  have : s.data.toList.length = s.size := rfl
  rw [List.drop_eq_getElem_cons (by omega)]
  rfl
theorem data_out (h : ¬ k < s.size) : s.data.toList.drop k = [] := List.drop_of_length_le (by have : s.data.toList.length = s.size := rfl; omega)
theorem digs_hit (h : k < s.size) (hd : ¬ (48 ≤ s[k].toNat ∧ s[k].toNat ≤ 57)) : digsL s.data.toList = false := by
  have h1 : s.data.toList.all digU = false := by
    rw [List.all_eq_false]
    refine ⟨s[k], List.mem_of_getElem? (data_at h), ?_⟩
    rw [digU_not.2 hd]
    simp
  simp [digsL, h1]
theorem digs_all (h0 : 0 < s.size) (hd : ∀ j, j < s.size → ∀ h : j < s.size, 48 ≤ s[j].toNat ∧ s[j].toNat ≤ 57) : digsL s.data.toList = true := by
  have hl : s.data.toList.length = s.size := rfl
  have h1 : s.data.toList.all digU = true := by
    rw [List.all_eq_true]
    intro x hx
    obtain ⟨j, hj, rfl⟩ := List.getElem_of_mem hx
    exact digU_iff.2 (hd j (by omega) (by omega))
  have h2 : s.data.toList.isEmpty = false := by
    rw [List.isEmpty_eq_false_iff]
    intro e
    rw [e] at hl
    simp at hl
    omega
  rw [digsL, h1, h2]
  rfl
theorem digs_empty (h0 : s.size = 0) : digsL s.data.toList = false := by
  have hl : s.data.toList.length = s.size := rfl
  have : s.data.toList = [] := List.length_eq_zero_iff.1 (by omega)
  rw [this]
  rfl
end
set_option maxRecDepth 100000 in
theorem digits_any (s : ByteArray) (hs : s.size ≤ 281474976710656) (w : World) : Calls Tryd.prog 71 #[.string s] w fun e w' => e = .returned (.bool (digsL s.data.toList)) ∧ w' = w := by
  go_enter Tryd.func71, Tryd.ntmps71
  go_wp2_with fail
  go_loop [3] (fun i => ∃ k : Nat, k ≤ s.size ∧ i = .int .i64 k ∧ Hid (∀ j, j < k → ∀ h : j < s.size, 48 ≤ s[j].toNat ∧ s[j].toNat ≤ 57)) (fun i => s.size - (intOf i).toNat)
  case atStart => exact ⟨0, Nat.zero_le _, rfl, Lib.hid (fun j hj => absurd hj (Nat.not_lt_zero j))⟩
  case round =>
    obtain ⟨k, hk, rfl, HN⟩ := hrel
    by_cases hlt : k < s.size
    · by_cases hd : 48 ≤ s[k].toNat ∧ s[k].toNat ≤ 57
      · have HN2 : Hid (∀ j, j < k + 1 → ∀ h : j < s.size, 48 ≤ s[j].toNat ∧ s[j].toNat ≤ 57) := Lib.hid (fun j hj h => by
          by_cases e : j = k
          · subst e; exact hd
          · exact HN.out j (by omega) h)
        obtain ⟨hd1, hd2⟩ := hd
        go_wp2_with fail
        go_round
        case rel => exact ⟨k + 1, hlt, by go_num, HN2⟩
        case measure => simp [intOf]; omega
      · have HR := Lib.hid (digs_hit hlt hd)
        have hd' : s[k].toNat < 48 ∨ 57 < s[k].toNat := by omega
        clear hd
        rcases hd' with hd | hd
        all_goals
          go_wp2_with fail
          go_ret
          exact ⟨by rw [HR.out]; rfl, rfl⟩
    · have HR : Hid (digsL s.data.toList = !s.toList.isEmpty) := by
        refine Lib.hid ?_
        rw [ByteArray.toList_eq]
        have hl : s.data.toList.length = s.size := rfl
        by_cases h0 : s.size = 0
        · have e : s.data.toList = [] := List.length_eq_zero_iff.1 (by omega)
          rw [e]
          rfl
        · have e : s.data.toList.isEmpty = false := by
            rw [List.isEmpty_eq_false_iff]
            intro e
            rw [e] at hl
            simp at hl
            omega
          rw [digs_all (by omega) (fun j hj h => HN.out j (by omega) h), e]
          rfl
      go_wp2_with fail
      go_ret
      exact ⟨ret_bool HR.out.symm, rfl⟩
theorem trim_eq (l : List UInt8) : Lib.trimPrefix l [45] = trimL l := by
  cases l with
  | nil => rfl
  | cons c r =>
    unfold trimL Lib.trimPrefix Lib.hasPrefix
    by_cases h : c.toNat = 45
    · have e : c = 45 := UInt8.toNat_inj.1 h
      subst e
      simp
    · have e : ¬ c = 45 := fun e => h (by rw [e]; rfl)
      have e' : ¬ (45 : UInt8) = c := fun h => e h.symm
      simp [h, e, e']
theorem trim_len (l : List UInt8) : (trimL l).length ≤ l.length := by
  cases l with
  | nil => exact Nat.le_refl _
  | cons c r =>
    unfold trimL
    dsimp only
    by_cases h : c.toNat = 45
    · rw [if_pos h]
      simp
    · rw [if_neg h]
      exact Nat.le_refl _
/-- The variable that says that a number is out of range. -/
def ErrV (w : World) : Prop := ∃ te pe, w.cell? ⟨4, 0, none⟩ = some (.iface te pe)
theorem ErrV.later {w w' : World} (h : ErrV w) (hb : Below w.heap.size w w') : ErrV w' := by
  obtain ⟨te, pe, h⟩ := h
  exact ⟨te, pe, rd_later h hb⟩
theorem bytes_below {w w' : World} {e : TypeId} (h : w' = w ∨ ∃ t, w' = Lib.bytesWorld w e t) : Below w.heap.size w w' := by
  rcases h with rfl | ⟨t, rfl⟩
  · exact Below.refl _ _
  · exact Lib.bytesWorld_below w e t
set_option maxRecDepth 100000 in
theorem id_any (s : ByteArray) (hs : s.size ≤ 281474976710656) (w : World) (hv : ErrV w) :
    Calls Tryd.prog 70 #[.string s] w fun e w' => ∃ v0 : Nat, e = .returned (.tuple #[.int .u64 v0, .bool (idT s).isSome]) ∧ (∀ v, idT s = some v → v0 = v) ∧ Below w.heap.size w w' := by
  have HV := Lib.hid hv
  clear hv
  go_enter Tryd.func70, Tryd.ntmps70
  go_wp2_with fail
  refine (digits_any s hs _).mono ?_
  rintro e w1 ⟨rfl, rfl⟩
  cases hd : digsL s.data.toList
  · have HN : Hid (idT s = none) := Lib.hid (idL_not hd)
    clear hd
    go_wp2_with fail
    go_ret2
    exact ⟨0, by rw [HN.out]; rfl, (fun v h => by rw [HN.out] at h; cases h), Below.refl _ _⟩
  · have hl := idL_lib hd
    clear hd
    cases hi : idT s with
    | some u =>
      have hi' : idL s.data.toList = some u := hi
      rw [hi'] at hl
      have HL := Lib.hid hl
      have HI := Lib.hid hi
      clear hl hi hi'
      go_wp2_with fail
      refine (Tryd.strconv_ParseUint_10_at64_ok s (by omega) u HL.out _).mono ?_
      rintro e w2 ⟨rfl, hw2⟩
      have hb2 := bytes_below (w := w1) (w' := w2) (e := 5) (by rcases hw2 with h | h; exact Or.inl h; exact Or.inr ⟨_, h⟩)
      clear hw2
      go_wp2_with fail
      go_quiet (fail)
      go_wp2_with fail
      go_ret2
      exact ⟨u, by rw [HI.out]; rfl, (fun v h => by rw [HI.out] at h; injection h), bdrewN hb2 nq⟩
    | none =>
      have hi' : idL s.data.toList = none := hi
      rw [hi'] at hl
      have HL := Lib.hid hl
      have HI := Lib.hid hi
      clear hl hi hi'
      obtain ⟨te, pe, hc⟩ := HV.out
      go_wp2_with fail
      refine (Tryd.strconv_ParseUint_10_at64_range s hs HL.out _ _ hc (Or.inr ⟨te, pe, rfl⟩)).mono ?_
      rintro e w2 ⟨N, rfl, hN, _, hb2⟩
      go_wp2_with fail
      go_quiet (fail)
      go_wp2_with fail
      go_ret2
      exact ⟨18446744073709551615, by rw [HI.out]; rfl, (fun v h => by rw [HI.out] at h; cases h), bdrewN hb2 nq⟩
set_option maxRecDepth 100000 in
theorem number_any (s : ByteArray) (hs : s.size ≤ 281474976710656) (w : World) (hv : ErrV w) :
    Calls Tryd.prog 52 #[.string s] w fun e w' => ∃ v0 : Int, e = .returned (.tuple #[.int .i64 v0, .bool (numT s).isSome]) ∧ (∀ v, numT s = some v → v0 = v) ∧ Below w.heap.size w w' := by
  have HV := Lib.hid hv
  clear hv
  go_enter Tryd.func52, Tryd.ntmps52
  go_wp2_with fail
  refine (Tryd.strings_TrimPrefix s ⟨#[45]⟩ _).mono ?_
  rintro e w0 ⟨rfl, rfl⟩
  have ht : Lib.trimPrefix s.data.toList (⟨#[45]⟩ : ByteArray).data.toList = trimL s.data.toList := trim_eq s.data.toList
  rw [ht]
  clear ht
  obtain ⟨T, hT⟩ : ∃ T : ByteArray, T = ⟨(trimL s.data.toList).toArray⟩ := ⟨_, rfl⟩
  have hTd : T.data.toList = trimL s.data.toList := by rw [hT]
  have hts : T.size ≤ 281474976710656 := by
    have h1 : T.data.toList.length = T.size := rfl
    have h2 := trim_len s.data.toList
    have hl : s.data.toList.length = s.size := rfl
    rw [hTd] at h1
    omega
  rw [← hT]
  clear hT
  go_wp2_with fail
  refine (digits_any T hts _).mono ?_
  rw [hTd]
  rintro e w1 ⟨rfl, rfl⟩
  cases hd : digsL (trimL s.data.toList)
  · have HN : Hid (numT s = none) := Lib.hid (numL_not hd)
    clear hd
    go_wp2_with fail
    go_ret2
    exact ⟨0, by rw [HN.out]; rfl, (fun v h => by rw [HN.out] at h; cases h), Below.refl _ _⟩
  · have hl := numL_lib hd
    clear hd
    cases hi : numT s with
    | some u =>
      have hi' : numL s.data.toList = some u := hi
      rw [hi'] at hl
      have HL := Lib.hid hl
      have HI := Lib.hid hi
      clear hl hi hi'
      go_wp2_with fail
      refine (Tryd.strconv_ParseInt_10_at64_ok s (by omega) u HL.out _).mono ?_
      rintro e w2 ⟨rfl, hw2⟩
      have hb2 := bytes_below hw2
      clear hw2
      go_wp2_with fail
      go_quiet (fail)
      go_wp2_with fail
      go_ret2
      exact ⟨u, by rw [HI.out]; rfl, (fun v h => by rw [HI.out] at h; injection h), bdrewN hb2 nq⟩
    | none =>
      have hi' : numL s.data.toList = none := hi
      rw [hi'] at hl
      have HL := Lib.hid hl
      have HI := Lib.hid hi
      clear hl hi hi'
      obtain ⟨te, pe, hc⟩ := HV.out
      go_wp2_with fail
      refine (Tryd.strconv_ParseInt_10_at64_range s hs HL.out _ _ hc (Or.inr ⟨te, pe, rfl⟩)).mono ?_
      rintro e w2 ⟨N, rfl, hN, _, hb2⟩
      generalize Lib.intSat 64 s.data.toList = sat at *
      go_wp2_with fail
      go_quiet (fail)
      go_wp2_with fail
      go_ret2
      exact ⟨sat, by rw [HI.out]; rfl, (fun v h => by rw [HI.out] at h; cases h), bdrewN hb2 nq⟩
theorem digI_U (c : UInt8) : digI (c.toNat : Int) = digU c := by
  unfold digI digU
  congr 1
  · exact decide_eq_decide.2 (by omega)
  · exact decide_eq_decide.2 (by omega)
set_option maxRecDepth 100000 in
theorem refId_any (s : ByteArray) (hs : s.size ≤ 281474976710656) (w : World) :
    Calls Tryd.prog 74 #[.string s] w fun e w' => ∃ v0 : Nat, e = .returned (.tuple #[.int .u64 v0, .bool (idT s).isSome]) ∧ (∀ v, idT s = some v → v0 = v) ∧ w' = w := by
  have hl : s.data.toList.length = s.size := rfl
  go_enter Tryd.func74, Tryd.ntmps74
  by_cases h0 : s.size = 0
  · have e0 : s.data.toList = [] := List.length_eq_zero_iff.1 (by omega)
    have HN : Hid (idT s = none) := Lib.hid (by unfold idT; rw [e0]; rfl)
    have he : s.toList.isEmpty = true := by rw [ByteArray.toList_eq, e0]; rfl
    go_wp2_with fail
    go_ret2
    exact ⟨0, by rw [HN.out]; rfl, (fun v h => by rw [HN.out] at h; cases h), rfl⟩
  · have HI : Hid (idT s = idGo 0 s.data.toList) := by
      refine Lib.hid ?_
      unfold idT idL
      rw [if_neg]
      intro e
      rw [e] at hl
      simp at hl
      omega
    have he : s.toList.isEmpty = false := by
      rw [ByteArray.toList_eq, List.isEmpty_eq_false_iff]
      intro e
      rw [e] at hl
      simp at hl
      omega
    clear hl
    go_wp2_with fail
    go_loop [5, 6, 7] (fun n i _ => ∃ (acc k : Nat), k ≤ s.size ∧ i = .int .i64 k ∧ n = .int .u64 acc ∧ acc ≤ 18446744073709551615 ∧ Hid (idT s = idGo acc (s.data.toList.drop k))) (fun _ i _ => s.size - (intOf i).toNat)
    case atStart => exact ⟨0, 0, Nat.zero_le _, rfl, rfl, by omega, HI⟩
    case round =>
      obtain ⟨acc, k, hk, rfl, rfl, hacc, HG⟩ := hrel
      by_cases hlt : k < s.size
      · cases hd : digU s[k]
        · have HN : Hid (idT s = none) := Lib.hid (by rw [HG.out, data_drop hlt, idGo, hd]; rfl)
          have HD : Hid (digI (s[k].toNat : Int) = false) := Lib.hid (by rw [digI_U, hd])
          clear hd
          go_wp2_with fail
          refine (refDigit_any _ _).mono ?_
          rintro e w' ⟨rfl, rfl⟩
          rw [HD.out]
          go_wp2_with fail
          go_ret2
          exact ⟨0, by rw [HN.out]; rfl, (fun v h => by rw [HN.out] at h; cases h), rfl⟩
        · have hd2 := digU_iff.1 hd
          have HD : Hid (digI (s[k].toNat : Int) = true) := Lib.hid (by rw [digI_U, hd])
          by_cases hov : 18446744073709551615 < acc * 10 + (s[k].toNat - 48)
          · have HN : Hid (idT s = none) := Lib.hid (by rw [HG.out, data_drop hlt, idGo, hd, if_pos rfl, if_pos hov])
            clear hd
            obtain ⟨hd1, hd3⟩ := hd2
            have hcmp : (18446744073709551615 - ((s[k].toNat : Int) - 48) % 256) / 10 < (acc : Int) := by omega
            go_wp2_with fail
            refine (refDigit_any _ _).mono ?_
            rintro e w' ⟨rfl, rfl⟩
            rw [HD.out]
            go_wp2_with fail
            go_ret2
            exact ⟨0, by rw [HN.out]; rfl, (fun v h => by rw [HN.out] at h; cases h), rfl⟩
          · have HN : Hid (idT s = idGo (acc * 10 + (s[k].toNat - 48)) (s.data.toList.drop (k + 1))) := Lib.hid (by rw [HG.out, data_drop hlt, idGo, hd, if_pos rfl, if_neg hov])
            clear hd
            obtain ⟨hd1, hd3⟩ := hd2
            have hcmp : (acc : Int) ≤ (18446744073709551615 - ((s[k].toNat : Int) - 48) % 256) / 10 := by omega
            go_wp2_with fail
            refine (refDigit_any _ _).mono ?_
            rintro e w' ⟨rfl, rfl⟩
            rw [HD.out]
            go_wp2_with fail
            go_round
            case rel => exact ⟨acc * 10 + (s[k].toNat - 48), k + 1, by omega, by go_num, by congr 1; omega, by omega, HN⟩
            case measure => simp [intOf]; omega
      · have HN : Hid (idT s = some acc) := Lib.hid (by rw [HG.out, data_out hlt]; rfl)
        go_wp2_with fail
        go_ret2
        exact ⟨acc, by rw [HN.out]; rfl, (fun v h => by rw [HN.out] at h; injection h), rfl⟩
theorem numT_neg {s : ByteArray} (h : 0 < s.size) (h1 : s[0].toNat = 45) : numT s = (match idT (s.extract 1 s.size) with | some u => if 9223372036854775808 < u then none else some (-(u : Int)) | none => none) := by
  have h2 := data_drop h
  rw [List.drop_zero] at h2
  have h3 : (s.extract 1 s.size).data.toList = s.data.toList.drop 1 := by
    rw [ByteArray.data_extract, Array.toList_extract]
    have hl : s.data.toList.length = s.size := rfl
    rw [List.extract_eq_take_drop, List.take_of_length_le (by rw [List.length_drop]; omega)]
  unfold numT idT
  rw [h3, h2]
  unfold numL
  dsimp only
  rw [if_pos h1]
  rfl
theorem numT_pos {s : ByteArray} (h : ∀ h : 0 < s.size, s[0].toNat ≠ 45) : numT s = (match idT s with | some u => if 9223372036854775808 ≤ u then none else some (u : Int) | none => none) := by
  unfold numT idT
  by_cases h0 : 0 < s.size
  · have h2 := data_drop h0
    rw [List.drop_zero] at h2
    rw [h2]
    unfold numL
    dsimp only
    rw [if_neg (h h0)]
    rfl
  · have h2 := data_out h0
    rw [List.drop_zero] at h2
    rw [h2]
    rfl
set_option maxRecDepth 100000 in
theorem refNumber_any (s : ByteArray) (hs : s.size ≤ 281474976710656) (w : World) :
    Calls Tryd.prog 55 #[.string s] w fun e w' => ∃ v0 : Int, e = .returned (.tuple #[.int .i64 v0, .bool (numT s).isSome]) ∧ (∀ v, numT s = some v → v0 = v) ∧ w' = w := by
  go_enter Tryd.func55, Tryd.ntmps55
  by_cases hn : ∃ h : 0 < s.size, s[0].toNat = 45
  · obtain ⟨h0, h45⟩ := hn
    have HE := Lib.hid (numT_neg h0 h45)
    have hsz : (s.extract 1 s.size).size ≤ 281474976710656 := by rw [ByteArray.size_extract]; omega
    go_wp2_with fail
    refine (refId_any _ hsz _).mono ?_
    rintro e w' ⟨v0, rfl, hv, rfl⟩
    cases hi : idT (s.extract 1 s.size) with
    | none =>
      have HN : Hid (numT s = none) := Lib.hid (by rw [HE.out, hi])
      have hf : (none : Option Nat).isSome = false := rfl
      rw [hf]
      clear hv hi
      go_wp2_with fail
      go_ret2
      exact ⟨0, by rw [HN.out]; rfl, (fun v h => by rw [HN.out] at h; cases h), rfl⟩
    | some u =>
      obtain rfl := hv u hi
      have hle := idL_le hi
      have hf : (some v0 : Option Nat).isSome = true := rfl
      rw [hf]
      by_cases hbig : 9223372036854775808 < v0
      · have HN : Hid (numT s = none) := Lib.hid (by rw [HE.out, hi]; exact if_pos hbig)
        clear hv hi
        go_wp2_with fail
        go_ret2
        exact ⟨0, by rw [HN.out]; rfl, (fun v h => by rw [HN.out] at h; cases h), rfl⟩
      · have HN : Hid (numT s = some (-(v0 : Int))) := Lib.hid (by rw [HE.out, hi]; exact if_neg hbig)
        clear hv hi
        by_cases hz : v0 = 0
        · subst hz
          go_wp2_with fail
          go_ret2
          exact ⟨0, by rw [HN.out]; rfl, (fun v h => by rw [HN.out] at h; injection h), rfl⟩
        · by_cases he : v0 = 9223372036854775808
          · subst he
            go_wp2_with fail
            go_ret2
            exact ⟨-9223372036854775808, by rw [HN.out]; rfl, (fun v h => by rw [HN.out] at h; injection h), rfl⟩
          · have he1 : ((v0 : Int) == 9223372036854775808) = false := by rw [beq_eq_false_iff_ne]; omega
            have hp : (0 : Int) < v0 := by omega
            go_wp2_with fail
            go_ret2
            exact ⟨-((v0 : Int) - 1) - 1, by rw [HN.out]; rfl, (fun v h => by rw [HN.out] at h; injection h with h; omega), rfl⟩
  · have h0 : ∀ h : 0 < s.size, s[0].toNat ≠ 45 := fun h e => hn ⟨h, e⟩
    have HE := Lib.hid (numT_pos h0)
    by_cases hs0 : 0 < s.size
    · have h1 := h0 hs0
      have h2 : ((s[0].toNat : Int) == 45) = false := by rw [beq_eq_false_iff_ne]; omega
      clear h0 h1 hn
      go_wp2_with fail
      refine (refId_any _ hs _).mono ?_
      rintro e w' ⟨v0, rfl, hv, rfl⟩
      cases hi : idT s with
      | none =>
        have HN : Hid (numT s = none) := Lib.hid (by rw [HE.out, hi])
        have hf : (none : Option Nat).isSome = false := rfl
        rw [hf]
        clear hv hi
        go_wp2_with fail
        go_ret2
        exact ⟨0, by rw [HN.out]; rfl, (fun v h => by rw [HN.out] at h; cases h), rfl⟩
      | some u =>
        obtain rfl := hv u hi
        have hle := idL_le hi
        have hf : (some v0 : Option Nat).isSome = true := rfl
        rw [hf]
        by_cases hbig : 9223372036854775808 ≤ v0
        · have HN : Hid (numT s = none) := Lib.hid (by rw [HE.out, hi]; exact if_pos hbig)
          clear hv hi
          by_cases he : v0 = 9223372036854775808
          · subst he
            go_wp2_with fail
            go_ret2
            exact ⟨0, by rw [HN.out]; rfl, (fun v h => by rw [HN.out] at h; cases h), rfl⟩
          · have hgt : 9223372036854775808 < v0 := by omega
            go_wp2_with fail
            go_ret2
            exact ⟨0, by rw [HN.out]; rfl, (fun v h => by rw [HN.out] at h; cases h), rfl⟩
        · have HN : Hid (numT s = some (v0 : Int)) := Lib.hid (by rw [HE.out, hi]; exact if_neg hbig)
          clear hv hi
          have he1 : ((v0 : Int) == 9223372036854775808) = false := by rw [beq_eq_false_iff_ne]; omega
          go_wp2_with fail
          go_ret2
          exact ⟨v0, by rw [HN.out]; rfl, (fun v h => by rw [HN.out] at h; injection h), rfl⟩
    · have h1 : s.size = 0 := by omega
      clear h0 hn
      go_wp2_with fail
      refine (refId_any _ hs _).mono ?_
      rintro e w' ⟨v0, rfl, hv, rfl⟩
      cases hi : idT s with
      | none =>
        have HN : Hid (numT s = none) := Lib.hid (by rw [HE.out, hi])
        have hf : (none : Option Nat).isSome = false := rfl
        rw [hf]
        clear hv hi
        go_wp2_with fail
        go_ret2
        exact ⟨0, by rw [HN.out]; rfl, (fun v h => by rw [HN.out] at h; cases h), rfl⟩
      | some u =>
        obtain rfl := hv u hi
        have hle := idL_le hi
        have hf : (some v0 : Option Nat).isSome = true := rfl
        rw [hf]
        by_cases hbig : 9223372036854775808 ≤ v0
        · have HN : Hid (numT s = none) := Lib.hid (by rw [HE.out, hi]; exact if_pos hbig)
          clear hv hi
          by_cases he : v0 = 9223372036854775808
          · subst he
            go_wp2_with fail
            go_ret2
            exact ⟨0, by rw [HN.out]; rfl, (fun v h => by rw [HN.out] at h; cases h), rfl⟩
          · have hgt : 9223372036854775808 < v0 := by omega
            go_wp2_with fail
            go_ret2
            exact ⟨0, by rw [HN.out]; rfl, (fun v h => by rw [HN.out] at h; cases h), rfl⟩
        · have HN : Hid (numT s = some (v0 : Int)) := Lib.hid (by rw [HE.out, hi]; exact if_neg hbig)
          clear hv hi
          have he1 : ((v0 : Int) == 9223372036854775808) = false := by rw [beq_eq_false_iff_ne]; omega
          go_wp2_with fail
          go_ret2
          exact ⟨v0, by rw [HN.out]; rfl, (fun v h => by rw [HN.out] at h; injection h), rfl⟩
end Go.Proofs.YtppeonlpocdhkaaDoor

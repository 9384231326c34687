/-
  The walks of TypeOf, placeOf, AttrOf and of the reference's, and of the law's comparing.
-/
import Derived.Test.YtppeonlpocdhkaaSchemaRd
import Derived.Test.YtppeonlpocdhkaaFirst
set_option linter.unusedSimpArgs false
namespace Go.Proofs.Ytppeonlpocdhkaa
open Go.RowKit Go.ChangeShapes Go.WideShapes Go.ChangeAt
/-- The first place of a text among n. -/
def placeI (n : Nat) (f : Nat → ByteArray) (nm : ByteArray) : Int := firstI (fun k => (f k).toList == nm.toList) n
def typeI (S : Sch) (nm : ByteArray) : Int := placeI S.n S.nm nm
set_option maxHeartbeats 400000 in
theorem typeOf_any (A : Option Addr) (cap : Nat) (S : Sch) (nm : ByteArray) (w : World) (h : TypRd w w.heap.size A S) :
    Calls Try.prog 7 #[.agg #[.slice A S.n cap], .string nm] w fun e w' => e = .returned (.int .i64 (typeI S nm)) ∧ Below w.heap.size w w' := by
  have hn := h.1
  have HT := Lib.hid h
  clear h
  go_enter Try.func7, Try.ntmps7
  go_wp2_with fail
  go_loopw [10] (fun i wr => ∃ k : Nat, k ≤ S.n ∧ i = .int .i64 k ∧ Hid (∀ j, j < k → ((S.nm j).toList == nm.toList) = false) ∧ Below w.heap.size w wr) (fun i _ => S.n - (intOf i).toNat)
  case atStart => exact ⟨0, Nat.zero_le _, rfl, Lib.hid none_zero, bnew (Below.refl _ _) _⟩
  case round =>
    obtain ⟨k, hk, rfl, HN, hb⟩ := hrel
    by_cases hlt : k < S.n
    · obtain ⟨b, off, rfl, hbl, hcs⟩ := HT.out.2 (by omega)
      obtain ⟨c1, aa, ac, c2, _⟩ := hcs k hlt
      have d1 := (hb.cell (p := ⟨b, off + k * 2, none⟩) hbl).trans c1
      have d2 := (hb.cell (p := ⟨b, off + k * 2 + 1, none⟩) hbl).trans c2
      clear hcs c1 c2
      cases hp : ((S.nm k).toList == nm.toList)
      all_goals
        have HP := Lib.hid hp
        go_wp2_with fail
      · go_roundw
        case rel => exact ⟨k + 1, by omega, by go_num, Lib.hid (none_step (p := fun j => (S.nm j).toList == nm.toList) HN.out HP.out), bnew hb _⟩
        case measure => simp [intOf]; omega
      · go_ret
        exact ⟨ret_int (firstI_hit hlt HP.out HN.out).symm, bnew hb _⟩
    · go_wp2_with fail
      go_ret
      exact ⟨ret_int (firstI_none (fun j hj => HN.out j (by omega))).symm, hb⟩
theorem refTypeOf_any (A : Option Addr) (cap : Nat) (S : Sch) (nm : ByteArray) (w : World) (h : TypRd w w.heap.size A S) :
    Calls Try.prog 9 #[.agg #[.slice A S.n cap], .string nm] w fun e w' => e = .returned (.int .i64 (typeI S nm)) ∧ Below w.heap.size w w' := by
  have hn := h.1
  have HT := Lib.hid h
  clear h
  have HB := bnew (Below.refl w.heap.size w) (.cells #[.slice A S.n cap] 29)
  go_enter Try.func9, Try.ntmps9
  go_wp2_with fail
  go_loop [5] (fun i => ∃ k : Nat, k ≤ S.n ∧ i = .int .i64 k ∧ Hid (∀ j, j < k → ((S.nm j).toList == nm.toList) = false)) (fun i => S.n - (intOf i).toNat)
  case atStart => exact ⟨0, Nat.zero_le _, rfl, Lib.hid none_zero⟩
  case round =>
    obtain ⟨k, hk, rfl, HN⟩ := hrel
    by_cases hlt : k < S.n
    · obtain ⟨b, off, rfl, hbl, hcs⟩ := HT.out.2 (by omega)
      obtain ⟨c1, aa, ac, c2, _⟩ := hcs k hlt
      have d1 := (HB.cell (p := ⟨b, off + k * 2, none⟩) hbl).trans c1
      clear hcs c1 c2
      cases hp : ((S.nm k).toList == nm.toList)
      all_goals
        have HP := Lib.hid hp
        go_wp2_with fail
      · go_round
        case rel => exact ⟨k + 1, by omega, by go_num, Lib.hid (none_step (p := fun j => (S.nm j).toList == nm.toList) HN.out HP.out)⟩
        case measure => simp [intOf]; omega
      · go_ret
        exact ⟨ret_int (firstI_hit hlt HP.out HN.out).symm, HB⟩
    · go_wp2_with fail
      go_ret
      exact ⟨ret_int (firstI_none (fun j hj => HN.out j (by omega))).symm, HB⟩
theorem placeOf_any (A : Option Addr) (n cap : Nat) (f : Nat → ByteArray) (nm : ByteArray) (w : World) (h : StrRd w w.heap.size A n f) :
    Calls Try.prog 13 #[.slice A n cap, .string nm] w fun e w' => e = .returned (.int .i64 (placeI n f nm)) ∧ w' = w := by
  have hn := h.1
  have HT := Lib.hid h
  clear h
  go_enter Try.func13, Try.ntmps13
  go_wp2_with fail
  go_loop [9] (fun i => ∃ k : Nat, k ≤ n ∧ i = .int .i64 k ∧ Hid (∀ j, j < k → ((f j).toList == nm.toList) = false)) (fun i => n - (intOf i).toNat)
  case atStart => exact ⟨0, Nat.zero_le _, rfl, Lib.hid none_zero⟩
  case round =>
    obtain ⟨k, hk, rfl, HN⟩ := hrel
    by_cases hlt : k < n
    · obtain ⟨b, off, rfl, hbl, hcs⟩ := HT.out.2 (by omega)
      have c1 := hcs k hlt
      clear hcs
      cases hp : ((f k).toList == nm.toList)
      all_goals
        have HP := Lib.hid hp
        go_wp2_with fail
      · go_round
        case rel => exact ⟨k + 1, by omega, by go_num, Lib.hid (none_step (p := fun j => (f j).toList == nm.toList) HN.out HP.out)⟩
        case measure => simp [intOf]; omega
      · go_ret
        exact ⟨ret_int (firstI_hit hlt HP.out HN.out).symm, rfl⟩
    · go_wp2_with fail
      go_ret
      exact ⟨ret_int (firstI_none (fun j hj => HN.out j (by omega))).symm, rfl⟩
/-- The column of a name: the place in the type's attributes, -2 for ts, -1. -/
def attrI (S : Sch) (t : Int) (nm : ByteArray) : Int :=
  if t < 0 ∨ (S.n : Int) ≤ t then -1 else if (nm.toList == [116, 115]) then -2 else if placeI (S.ln t.toNat) (S.atr t.toNat) nm < 8 then placeI (S.ln t.toNat) (S.atr t.toNat) nm else -1
theorem attrI_out {S : Sch} {t : Int} {nm : ByteArray} (h : t < 0 ∨ (S.n : Int) ≤ t) : attrI S t nm = -1 := by simp [attrI, h]
theorem attrI_ts {S : Sch} {k : Nat} {nm : ByteArray} (h : k < S.n) (ht : (nm.toList == [116, 115]) = true) : attrI S k nm = -2 := by
  have : ¬ ((k : Int) < 0 ∨ (S.n : Int) ≤ k) := by omega
  simp only [attrI, if_neg this, ht, if_true]
theorem attrI_in {S : Sch} {k : Nat} {nm : ByteArray} (h : k < S.n) (ht : (nm.toList == [116, 115]) = false) : attrI S k nm = if placeI (S.ln k) (S.atr k) nm < 8 then placeI (S.ln k) (S.atr k) nm else -1 := by
  have : ¬ ((k : Int) < 0 ∨ (S.n : Int) ≤ k) := by omega
  simp only [attrI, if_neg this, ht, Bool.false_eq_true, if_false, Int.toNat_natCast]
set_option maxHeartbeats 400000 in
theorem attrOf_any (A : Option Addr) (cap : Nat) (S : Sch) (t : Int) (nm : ByteArray) (w : World) (h : TypRd w w.heap.size A S) :
    Calls Try.prog 8 #[.agg #[.slice A S.n cap], .int .i64 t, .string nm] w fun e w' => e = .returned (.int .i64 (attrI S t nm)) ∧ Below w.heap.size w w' := by
  have hn := h.1
  have HT := Lib.hid h
  clear h
  have HB := bnew (Below.refl w.heap.size w) (.cells #[.slice A S.n cap] 29)
  by_cases h1 : t < 0
  · have HR := Lib.hid (attrI_out (S := S) (nm := nm) (Or.inl h1))
    go_enter Try.func8, Try.ntmps8
    go_wp2_with fail
    go_ret
    exact ⟨ret_int HR.out.symm, HB⟩
  by_cases h2 : (S.n : Int) ≤ t
  · have HR := Lib.hid (attrI_out (nm := nm) (Or.inr h2))
    go_enter Try.func8, Try.ntmps8
    go_wp2_with fail
    go_ret
    exact ⟨ret_int HR.out.symm, HB⟩
  obtain ⟨k, rfl⟩ : ∃ k : Nat, t = k := ⟨t.toNat, by omega⟩
  have hk : k < S.n := by omega
  clear h1 h2
  cases hts : (nm.toList == [116, 115])
  · have HTS := Lib.hid hts
    obtain ⟨b, off, rfl, hbl, hcs⟩ := HT.out.2 (by omega)
    obtain ⟨_, aa, ac, c2, hsr⟩ := hcs k hk
    have d2 := (HB.cell (p := ⟨b, off + k * 2 + 1, none⟩) hbl).trans c2
    have HS := Lib.hid (hsr.later HB)
    clear hcs c2 hsr
    have HI := Lib.hid (attrI_in hk HTS.out)
    have hcase : placeI (S.ln k) (S.atr k) nm = -1 ∨ ∃ j : Nat, placeI (S.ln k) (S.atr k) nm = j ∧ (j < 8 ∨ 8 ≤ j) := by
      rcases firstI_or (fun j => (S.atr k j).toList == nm.toList) (S.ln k) with ⟨e, _⟩ | ⟨j, _, e, _⟩
      · exact Or.inl e
      · exact Or.inr ⟨j, e, by omega⟩
    rcases hcase with hi | ⟨j, hi, hj | hj⟩
    all_goals
      rw [hi] at HI
      have HP := Lib.hid hi
      clear hi
      go_enter Try.func8, Try.ntmps8
      go_wp2_with fail
      refine (placeOf_any aa _ ac _ nm _ HS.out).mono ?_
      rintro e w' ⟨rfl, rfl⟩
      rw [HP.out]
      go_wp2_with fail
      go_ret
      exact ⟨ret_int (by rw [HI.out]; first | rfl | (rw [if_pos (by omega)]) | (rw [if_neg (by omega)])), HB⟩
  · have HR := Lib.hid (attrI_ts hk hts)
    go_enter Try.func8, Try.ntmps8
    go_wp2_with fail
    go_ret
    exact ⟨ret_int HR.out.symm, HB⟩
set_option maxHeartbeats 400000 in
theorem refAttrOf_any (A : Option Addr) (cap : Nat) (S : Sch) (t : Int) (nm : ByteArray) (w : World) (h : TypRd w w.heap.size A S) :
    Calls Try.prog 10 #[.agg #[.slice A S.n cap], .int .i64 t, .string nm] w fun e w' => e = .returned (.int .i64 (attrI S t nm)) ∧ Below w.heap.size w w' := by
  have hn := h.1
  have HT := Lib.hid h
  clear h
  have HB := bnew (Below.refl w.heap.size w) (.cells #[.slice A S.n cap] 29)
  by_cases h1 : t < 0
  · have HR := Lib.hid (attrI_out (S := S) (nm := nm) (Or.inl h1))
    go_enter Try.func10, Try.ntmps10
    go_wp2_with fail
    go_ret
    exact ⟨ret_int HR.out.symm, HB⟩
  by_cases h2 : (S.n : Int) ≤ t
  · have HR := Lib.hid (attrI_out (nm := nm) (Or.inr h2))
    go_enter Try.func10, Try.ntmps10
    go_wp2_with fail
    go_ret
    exact ⟨ret_int HR.out.symm, HB⟩
  obtain ⟨k, rfl⟩ : ∃ k : Nat, t = k := ⟨t.toNat, by omega⟩
  have hk : k < S.n := by omega
  clear h1 h2
  cases hts : (nm.toList == [116, 115])
  · have HTS := Lib.hid hts
    obtain ⟨b, off, rfl, hbl, hcs⟩ := HT.out.2 (by omega)
    obtain ⟨_, aa, ac, c2, hsr⟩ := hcs k hk
    have d2 := (HB.cell (p := ⟨b, off + k * 2 + 1, none⟩) hbl).trans c2
    have HS := Lib.hid (hsr.later HB)
    have hln := hsr.1
    clear hcs c2 hsr
    have HI := Lib.hid (attrI_in hk HTS.out)
    generalize hl : S.ln k = n at *
    have HL := Lib.hid hl
    clear hl
    go_enter Try.func10, Try.ntmps10
    go_wp2_with fail
    go_loop [8] (fun i => ∃ j : Nat, j ≤ n ∧ j ≤ 8 ∧ i = .int .i64 j ∧ Hid (∀ m, m < j → ((S.atr k m).toList == nm.toList) = false)) (fun i => n - (intOf i).toNat)
    case atStart => exact ⟨0, Nat.zero_le _, by omega, rfl, Lib.hid none_zero⟩
    case round =>
      obtain ⟨j, hj, hj8, rfl, HN⟩ := hrel
      by_cases hlt : j < n
      · by_cases h8 : j < 8
        · obtain ⟨b2, off2, rfl, hbl2, hcs2⟩ := HS.out.2 (by omega)
          have c1 := hcs2 j hlt
          clear hcs2
          cases hp : ((S.atr k j).toList == nm.toList)
          all_goals
            have HP := Lib.hid hp
            go_wp2_with fail
          · go_round
            case rel => exact ⟨j + 1, by omega, by omega, by go_num, Lib.hid (none_step (p := fun m => (S.atr k m).toList == nm.toList) HN.out HP.out)⟩
            case measure => simp [intOf]; omega
          · go_ret
            exact ⟨ret_int (by rw [HI.out, placeI, firstI_hit hlt HP.out HN.out, if_pos (by omega)]), HB⟩
        · go_wp2_with fail
          go_ret
          refine ⟨ret_int ?_, HB⟩
          rw [HI.out]
          rcases firstI_or (fun m => (S.atr k m).toList == nm.toList) n with ⟨e, _⟩ | ⟨m, hm, e, hpm, _⟩
          · rw [placeI, e]; rfl
          · have : ¬ m < j := fun h => absurd (hpm.symm.trans (HN.out m h)) (by decide)
            rw [placeI, e, if_neg (by omega)]
      · go_wp2_with fail
        go_ret
        exact ⟨ret_int (by rw [HI.out, placeI, firstI_none (fun m hm => HN.out m (by omega))]; rfl), HB⟩
  · have HR := Lib.hid (attrI_ts hk hts)
    go_enter Try.func10, Try.ntmps10
    go_wp2_with fail
    go_ret
    exact ⟨ret_int HR.out.symm, HB⟩
theorem sameList_same (A A' : Option Addr) (n c c' : Nat) (f : Nat → ByteArray) (w : World) (h : StrRd w w.heap.size A n f) (h' : StrRd w w.heap.size A' n f) :
    Calls Try.prog 14 #[.slice A n c, .slice A' n c'] w fun e w' => e = .returned (.bool true) ∧ ∃ q, w' = w.drewN q := by
  have hn := h.1
  have HT := Lib.hid h
  have HT' := Lib.hid h'
  clear h h'
  go_enter Try.func14, Try.ntmps14
  go_wp2_with fail
  go_loopw [5] (fun i wr => ∃ k : Nat, k ≤ n ∧ i = .int .i64 k ∧ ∃ q, wr = w.drewN q) (fun i _ => n - (intOf i).toNat)
  case atStart => exact ⟨0, Nat.zero_le _, rfl, 0, rfl⟩
  case round =>
    obtain ⟨k, hk, rfl, q, rfl⟩ := hrel
    by_cases hlt : k < n
    · obtain ⟨b, off, rfl, hbl, hcs⟩ := HT.out.2 (by omega)
      obtain ⟨b', off', rfl, hbl', hcs'⟩ := HT'.out.2 (by omega)
      have c1 := hcs k hlt
      have c1' := hcs' k hlt
      have heq : ((f k).toList == (f k).toList) = true := beq_self_eq_true _
      clear hcs hcs'
      go_wp2_with fail
      go_quiet (fail)
      go_wp2_with fail
      go_roundw
      case rel => exact ⟨k + 1, by omega, by go_num, _, rfl⟩
      case measure => simp [intOf]; omega
    · go_wp2_with fail
      go_ret
      exact ⟨rfl, q, rfl⟩
end Go.Proofs.Ytppeonlpocdhkaa

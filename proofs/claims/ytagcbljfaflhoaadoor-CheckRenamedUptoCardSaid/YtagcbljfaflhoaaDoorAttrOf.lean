/-
  The walks of AttrOf and of the reference's.
-/
import Derived.Test.YtagcbljfaflhoaaDoorSchemaFns
set_option linter.unusedSimpArgs false
namespace Go.Proofs.YtagcbljfaflhoaaDoor
open Go.RowKit Go.ChangeShapes Go.WideShapes Go.ChangeAt
/-- The column of a name: the place in the type's attributes, -2 for ts, -1. -/
def attrI (S : Sch) (t : Int) (nm : ByteArray) : Int :=
  if t < 0 ∨ (S.n : Int) ≤ t then -1 else if (nm.toList == [116, 115]) then -2 else if placeI (S.ln t.toNat) (S.atr t.toNat) nm < 8 then placeI (S.ln t.toNat) (S.atr t.toNat) nm else -1
theorem attrI_out {S : Sch} {t : Int} {nm : ByteArray} (h : t < 0 ∨ (S.n : Int) ≤ t) : attrI S t nm = -1 := by simp [attrI, h]
theorem attrI_ts {S : Sch} {k : Nat} {nm : ByteArray} (h : k < S.n) (ht : (nm.toList == [116, 115]) = true) : attrI S k nm = -2 := by
  have : ¬ ((k : Int) < 0 ∨ (S.n : Int) ≤ k) := by omega
  simp only [attrI, if_neg this, ht, if_true]
theorem attrI_in {S : Sch} {k : Nat} {nm : ByteArray} (h : k < S.n) (ht : (nm.toList == [116, 115]) = false) : attrI S k nm = if placeI (S.ln k) (S.atr k) nm < 8 then placeI (S.ln k) (S.atr k) nm else -1 := by
  have : ¬ ((k : Int) < 0 ∨ (S.n : Int) ≤ k) := by omega
  simp only [attrI, if_neg this, ht, Bool.false_eq_true, if_false, Int.toNat_natCast]
set_option maxHeartbeats 400000 in
theorem attrOf_any (A : Option Addr) (cap : Nat) (S : Sch) (t : Int) (nm : ByteArray) (w : World) (h : TypRd w w.heap.size A S) :
    Calls Tryd.prog 107 #[.agg #[.slice A S.n cap], .int .i64 t, .string nm] w fun e w' => e = .returned (.int .i64 (attrI S t nm)) ∧ Below w.heap.size w w' := by
  have hn := h.1
  have HT := Lib.hid h
  clear h
  have HB := bnew (Below.refl w.heap.size w) (.cells #[.slice A S.n cap] 34)
  by_cases h1 : t < 0
  · have HR := Lib.hid (attrI_out (S := S) (nm := nm) (Or.inl h1))
    go_enter Tryd.func107, Tryd.ntmps107
    go_wp2_with fail
    go_ret
    exact ⟨ret_int HR.out.symm, HB⟩
  by_cases h2 : (S.n : Int) ≤ t
  · have HR := Lib.hid (attrI_out (nm := nm) (Or.inr h2))
    go_enter Tryd.func107, Tryd.ntmps107
    go_wp2_with fail
    go_ret
    exact ⟨ret_int HR.out.symm, HB⟩
  obtain ⟨k, rfl⟩ : ∃ k : Nat, t = k := ⟨t.toNat, by omega⟩
  have hk : k < S.n := by omega
  clear h1 h2
  cases hts : (nm.toList == [116, 115])
  · have HTS := Lib.hid hts
    obtain ⟨b, off, rfl, hbl, hcs⟩ := HT.out.2 (by omega)
    obtain ⟨_, aa, ac, c2, hsr⟩ := hcs k hk
    have d2 := (HB.cell (p := ⟨b, off + k * 2 + 1, none⟩) hbl).trans c2
    have HS := Lib.hid (hsr.later HB)
    clear hcs c2 hsr
    have HI := Lib.hid (attrI_in hk HTS.out)
    have hcase : placeI (S.ln k) (S.atr k) nm = -1 ∨ ∃ j : Nat, placeI (S.ln k) (S.atr k) nm = j ∧ (j < 8 ∨ 8 ≤ j) := by
      rcases firstI_or (fun j => (S.atr k j).toList == nm.toList) (S.ln k) with ⟨e, _⟩ | ⟨j, _, e, _⟩
      · exact Or.inl e
      · exact Or.inr ⟨j, e, by omega⟩
    rcases hcase with hi | ⟨j, hi, hj | hj⟩
    all_goals
      rw [hi] at HI
      have HP := Lib.hid hi
      clear hi
      go_enter Tryd.func107, Tryd.ntmps107
      go_wp2_with fail
      refine (placeOf_any aa _ ac _ nm _ HS.out).mono ?_
      rintro e w' ⟨rfl, rfl⟩
      rw [HP.out]
      go_wp2_with fail
      go_ret
      exact ⟨ret_int (by rw [HI.out]; first | rfl | (rw [if_pos (by omega)]) | (rw [if_neg (by omega)])), HB⟩
  · have HR := Lib.hid (attrI_ts hk hts)
    go_enter Tryd.func107, Tryd.ntmps107
    go_wp2_with fail
    go_ret
    exact ⟨ret_int HR.out.symm, HB⟩
set_option maxHeartbeats 400000 in
theorem refAttrOf_any (A : Option Addr) (cap : Nat) (S : Sch) (t : Int) (nm : ByteArray) (w : World) (h : TypRd w w.heap.size A S) :
    Calls Tryd.prog 110 #[.agg #[.slice A S.n cap], .int .i64 t, .string nm] w fun e w' => e = .returned (.int .i64 (attrI S t nm)) ∧ Below w.heap.size w w' := by
  have hn := h.1
  have HT := Lib.hid h
  clear h
  have HB := bnew (Below.refl w.heap.size w) (.cells #[.slice A S.n cap] 34)
  by_cases h1 : t < 0
  · have HR := Lib.hid (attrI_out (S := S) (nm := nm) (Or.inl h1))
    go_enter Tryd.func110, Tryd.ntmps110
    go_wp2_with fail
    go_ret
    exact ⟨ret_int HR.out.symm, HB⟩
  by_cases h2 : (S.n : Int) ≤ t
  · have HR := Lib.hid (attrI_out (nm := nm) (Or.inr h2))
    go_enter Tryd.func110, Tryd.ntmps110
    go_wp2_with fail
    go_ret
    exact ⟨ret_int HR.out.symm, HB⟩
  obtain ⟨k, rfl⟩ : ∃ k : Nat, t = k := ⟨t.toNat, by omega⟩
  have hk : k < S.n := by omega
  clear h1 h2
  cases hts : (nm.toList == [116, 115])
  · have HTS := Lib.hid hts
    obtain ⟨b, off, rfl, hbl, hcs⟩ := HT.out.2 (by omega)
    obtain ⟨_, aa, ac, c2, hsr⟩ := hcs k hk
    have d2 := (HB.cell (p := ⟨b, off + k * 2 + 1, none⟩) hbl).trans c2
    have HS := Lib.hid (hsr.later HB)
    have hln := hsr.1
    clear hcs c2 hsr
    have HI := Lib.hid (attrI_in hk HTS.out)
    generalize hl : S.ln k = n at *
    have HL := Lib.hid hl
    clear hl
    go_enter Tryd.func110, Tryd.ntmps110
    go_wp2_with fail
    go_loop [8] (fun i => ∃ j : Nat, j ≤ n ∧ j ≤ 8 ∧ i = .int .i64 j ∧ Hid (∀ m, m < j → ((S.atr k m).toList == nm.toList) = false)) (fun i => n - (intOf i).toNat)
    case atStart => exact ⟨0, Nat.zero_le _, by omega, rfl, Lib.hid none_zero⟩
    case round =>
      obtain ⟨j, hj, hj8, rfl, HN⟩ := hrel
      by_cases hlt : j < n
      · by_cases h8 : j < 8
        · obtain ⟨b2, off2, rfl, hbl2, hcs2⟩ := HS.out.2 (by omega)
          have c1 := hcs2 j hlt
          clear hcs2
          cases hp : ((S.atr k j).toList == nm.toList)
          all_goals
            have HP := Lib.hid hp
            go_wp2_with fail
          · go_round
            case rel => exact ⟨j + 1, by omega, by omega, by go_num, Lib.hid (none_step (p := fun m => (S.atr k m).toList == nm.toList) HN.out HP.out)⟩
            case measure => simp [intOf]; omega
          · go_ret
            exact ⟨ret_int (by rw [HI.out, placeI, firstI_hit hlt HP.out HN.out, if_pos (by omega)]), HB⟩
        · go_wp2_with fail
          go_ret
          refine ⟨ret_int ?_, HB⟩
          rw [HI.out]
          rcases firstI_or (fun m => (S.atr k m).toList == nm.toList) n with ⟨e, _⟩ | ⟨m, hm, e, hpm, _⟩
          · rw [placeI, e]; rfl
          · have : ¬ m < j := fun h => absurd (hpm.symm.trans (HN.out m h)) (by decide)
            rw [placeI, e, if_neg (by omega)]
      · go_wp2_with fail
        go_ret
        exact ⟨ret_int (by rw [HI.out, placeI, firstI_none (fun m hm => HN.out m (by omega))]; rfl), HB⟩
  · have HR := Lib.hid (attrI_ts hk hts)
    go_enter Tryd.func110, Tryd.ntmps110
    go_wp2_with fail
    go_ret
    exact ⟨ret_int HR.out.symm, HB⟩
end Go.Proofs.YtagcbljfaflhoaaDoor

/-
  The walks of TypeOf, placeOf, AttrOf and of the reference's, and of the law's comparing.
-/
import Derived.Test.YtppeonlpocdhkaaDoorSchemaRd
import Derived.Test.YtppeonlpocdhkaaDoorFirst
set_option linter.unusedSimpArgs false
namespace Go.Proofs.YtppeonlpocdhkaaDoor
open Go.RowKit Go.ChangeShapes Go.WideShapes Go.ChangeAt
/-- The first place of a text among n. -/
def placeI (n : Nat) (f : Nat → ByteArray) (nm : ByteArray) : Int := firstI (fun k => (f k).toList == nm.toList) n
def typeI (S : Sch) (nm : ByteArray) : Int := placeI S.n S.nm nm
set_option maxHeartbeats 400000 in
theorem typeOf_any (A : Option Addr) (cap : Nat) (S : Sch) (nm : ByteArray) (w : World) (h : TypRd w w.heap.size A S) :
    Calls Tryd.prog 31 #[.agg #[.slice A S.n cap], .string nm] w fun e w' => e = .returned (.int .i64 (typeI S nm)) ∧ Below w.heap.size w w' := by
  have hn := h.1
  have HT := Lib.hid h
  clear h
  go_enter Tryd.func31, Tryd.ntmps31
  go_wp2_with fail
  go_loopw [10] (fun i wr => ∃ k : Nat, k ≤ S.n ∧ i = .int .i64 k ∧ Hid (∀ j, j < k → ((S.nm j).toList == nm.toList) = false) ∧ Below w.heap.size w wr) (fun i _ => S.n - (intOf i).toNat)
  case atStart => exact ⟨0, Nat.zero_le _, rfl, Lib.hid none_zero, bnew (Below.refl _ _) _⟩
  case round =>
    obtain ⟨k, hk, rfl, HN, hb⟩ := hrel
    by_cases hlt : k < S.n
    · obtain ⟨b, off, rfl, hbl, hcs⟩ := HT.out.2 (by omega)
      obtain ⟨c1, aa, ac, c2, _⟩ := hcs k hlt
      have d1 := (hb.cell (p := ⟨b, off + k * 2, none⟩) hbl).trans c1
      have d2 := (hb.cell (p := ⟨b, off + k * 2 + 1, none⟩) hbl).trans c2
      clear hcs c1 c2
      cases hp : ((S.nm k).toList == nm.toList)
      all_goals
        have HP := Lib.hid hp
        go_wp2_with fail
      · go_roundw
        case rel => exact ⟨k + 1, by omega, by go_num, Lib.hid (none_step (p := fun j => (S.nm j).toList == nm.toList) HN.out HP.out), bnew hb _⟩
        case measure => simp [intOf]; omega
      · go_ret
        exact ⟨ret_int (firstI_hit hlt HP.out HN.out).symm, bnew hb _⟩
    · go_wp2_with fail
      go_ret
      exact ⟨ret_int (firstI_none (fun j hj => HN.out j (by omega))).symm, hb⟩
theorem refTypeOf_any (A : Option Addr) (cap : Nat) (S : Sch) (nm : ByteArray) (w : World) (h : TypRd w w.heap.size A S) :
    Calls Tryd.prog 75 #[.agg #[.slice A S.n cap], .string nm] w fun e w' => e = .returned (.int .i64 (typeI S nm)) ∧ Below w.heap.size w w' := by
  have hn := h.1
  have HT := Lib.hid h
  clear h
  have HB := bnew (Below.refl w.heap.size w) (.cells #[.slice A S.n cap] 25)
  go_enter Tryd.func75, Tryd.ntmps75
  go_wp2_with fail
  go_loop [5] (fun i => ∃ k : Nat, k ≤ S.n ∧ i = .int .i64 k ∧ Hid (∀ j, j < k → ((S.nm j).toList == nm.toList) = false)) (fun i => S.n - (intOf i).toNat)
  case atStart => exact ⟨0, Nat.zero_le _, rfl, Lib.hid none_zero⟩
  case round =>
    obtain ⟨k, hk, rfl, HN⟩ := hrel
    by_cases hlt : k < S.n
    · obtain ⟨b, off, rfl, hbl, hcs⟩ := HT.out.2 (by omega)
      obtain ⟨c1, aa, ac, c2, _⟩ := hcs k hlt
      have d1 := (HB.cell (p := ⟨b, off + k * 2, none⟩) hbl).trans c1
      clear hcs c1 c2
      cases hp : ((S.nm k).toList == nm.toList)
      all_goals
        have HP := Lib.hid hp
        go_wp2_with fail
      · go_round
        case rel => exact ⟨k + 1, by omega, by go_num, Lib.hid (none_step (p := fun j => (S.nm j).toList == nm.toList) HN.out HP.out)⟩
        case measure => simp [intOf]; omega
      · go_ret
        exact ⟨ret_int (firstI_hit hlt HP.out HN.out).symm, HB⟩
    · go_wp2_with fail
      go_ret
      exact ⟨ret_int (firstI_none (fun j hj => HN.out j (by omega))).symm, HB⟩
theorem placeOf_any (A : Option Addr) (n cap : Nat) (f : Nat → ByteArray) (nm : ByteArray) (w : World) (h : StrRd w w.heap.size A n f) :
    Calls Tryd.prog 57 #[.slice A n cap, .string nm] w fun e w' => e = .returned (.int .i64 (placeI n f nm)) ∧ w' = w := by
  have hn := h.1
  have HT := Lib.hid h
  clear h
  go_enter Tryd.func57, Tryd.ntmps57
  go_wp2_with fail
  go_loop [9] (fun i => ∃ k : Nat, k ≤ n ∧ i = .int .i64 k ∧ Hid (∀ j, j < k → ((f j).toList == nm.toList) = false)) (fun i => n - (intOf i).toNat)
  case atStart => exact ⟨0, Nat.zero_le _, rfl, Lib.hid none_zero⟩
  case round =>
    obtain ⟨k, hk, rfl, HN⟩ := hrel
    by_cases hlt : k < n
    · obtain ⟨b, off, rfl, hbl, hcs⟩ := HT.out.2 (by omega)
      have c1 := hcs k hlt
      clear hcs
      cases hp : ((f k).toList == nm.toList)
      all_goals
        have HP := Lib.hid hp
        go_wp2_with fail
      · go_round
        case rel => exact ⟨k + 1, by omega, by go_num, Lib.hid (none_step (p := fun j => (f j).toList == nm.toList) HN.out HP.out)⟩
        case measure => simp [intOf]; omega
      · go_ret
        exact ⟨ret_int (firstI_hit hlt HP.out HN.out).symm, rfl⟩
    · go_wp2_with fail
      go_ret
      exact ⟨ret_int (firstI_none (fun j hj => HN.out j (by omega))).symm, rfl⟩
end Go.Proofs.YtppeonlpocdhkaaDoor

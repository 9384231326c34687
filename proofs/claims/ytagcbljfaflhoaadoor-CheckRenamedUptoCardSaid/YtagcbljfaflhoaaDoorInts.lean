/-
  Lists of numbers: their copies, and that two alike are the same.
-/
import Derived.Test.YtagcbljfaflhoaaDoorIntC
import Derived.OwnWalk
import Derived.Handy
set_option linter.unusedSimpArgs false
namespace Go.Proofs.YtagcbljfaflhoaaDoor
open Go.RowKit Go.ChangeShapes Go.WideShapes Go.ChangeAt
theorem infoInt : (Tryd.prog.info? 3).map (fun i => (i.zero, i.size, i.bytes)) = some (some (.int .i64 0), 1, 8) := by kernel_rfl
set_option maxRecDepth 100000 in
theorem twinInts_any (A : Option Addr) (n c : Nat) (f : Nat → Int) (w : World) (hl : n ≤ c) (hA : A = none → c = 0) (h : IntRd w w.heap.size A n f) :
    Calls Tryd.prog 41 #[.slice A n c] w fun e w' => ∃ v', e = .returned v' ∧ Below w.heap.size w w' ∧ w'.ownsRow w.heap.size 3 1 v' n (flat (intC f) 1 n) := by
  obtain ⟨i0, hi0, hz0, hz1, hz2⟩ := info_parts infoInt
  have HT := Lib.hid h
  have HA := Lib.hid hA
  clear h hA
  go_enter Tryd.func41, Tryd.ntmps41
  go_wp2_with (at_builtin; go_loud (refine wpList_append_copy _ rfl _ _ _ rfl 3 i0 _ 1 8 Tryd.underlying27 hi0 hz0 hz1 hz2 rfl (by omega) (by omega) rfl A n c w.heap.size (intC f) rfl hl HA.out HT.out (fun _ _ _ _ => rfl) ?_; intro v' w1 hown hb))
  go_ret
  exact ⟨v', rfl, hb, hown⟩
set_option maxRecDepth 100000 in
theorem sameIntsLaw_same (A A' : Option Addr) (n c c' : Nat) (f : Nat → Int) (w : World) (h : IntRd w w.heap.size A n f) (h' : IntRd w w.heap.size A' n f) :
    Calls Tryd.prog 21 #[.slice A n c, .slice A' n c'] w fun e w' => e = .returned (.bool true) ∧ ∃ q, w' = w.drewN q := by
  have hn := h.1
  have HT := Lib.hid h
  have HT' := Lib.hid h'
  clear h h'
  go_enter Tryd.func21, Tryd.ntmps21
  go_wp2_with fail
  go_loopw [5] (fun i wr => ∃ k : Nat, k ≤ n ∧ i = .int .i64 k ∧ ∃ q, wr = w.drewN q) (fun i _ => n - (intOf i).toNat)
  case atStart => exact ⟨0, Nat.zero_le _, rfl, 0, rfl⟩
  case round =>
    obtain ⟨k, hk, rfl, q, rfl⟩ := hrel
    by_cases hlt : k < n
    · obtain ⟨b, off, rfl, hbl, hcs⟩ := HT.out.spot (by omega)
      obtain ⟨b', off', rfl, hbl', hcs'⟩ := HT'.out.spot (by omega)
      have c1 := hcs k hlt
      have c1' := hcs' k hlt
      clear hcs hcs'
      go_wp2_with fail
      go_quiet (fail)
      go_wp2_with fail
      go_roundw
      case rel => exact ⟨k + 1, by omega, by go_num, _, rfl⟩
      case measure => simp [intOf]; omega
    · go_wp2_with fail
      go_ret
      exact ⟨rfl, q, rfl⟩
end Go.Proofs.YtagcbljfaflhoaaDoor

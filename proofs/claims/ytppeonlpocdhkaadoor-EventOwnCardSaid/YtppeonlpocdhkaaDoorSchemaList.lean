/-
  The walk of layer 2's law comparing two lists of texts that read the same.
-/
import Derived.Test.YtppeonlpocdhkaaDoorSchemaFns
set_option linter.unusedSimpArgs false
namespace Go.Proofs.YtppeonlpocdhkaaDoor
open Go.RowKit Go.ChangeShapes Go.WideShapes Go.ChangeAt
set_option maxHeartbeats 400000 in
theorem sameList_same (A A' : Option Addr) (n c c' : Nat) (f : Nat → ByteArray) (w : World) (h : StrRd w w.heap.size A n f) (h' : StrRd w w.heap.size A' n f) :
    Calls Tryd.prog 30 #[.slice A n c, .slice A' n c'] w fun e w' => e = .returned (.bool true) ∧ ∃ q, w' = w.drewN q := by
  have hn := h.1
  have HT := Lib.hid h
  have HT' := Lib.hid h'
  clear h h'
  go_enter Tryd.func30, Tryd.ntmps30
  go_wp2_with fail
  go_loopw [5] (fun i wr => ∃ k : Nat, k ≤ n ∧ i = .int .i64 k ∧ ∃ q, wr = w.drewN q) (fun i _ => n - (intOf i).toNat)
  case atStart => exact ⟨0, Nat.zero_le _, rfl, 0, rfl⟩
  case round =>
    obtain ⟨k, hk, rfl, q, rfl⟩ := hrel
    by_cases hlt : k < n
    · obtain ⟨b, off, rfl, hbl, hcs⟩ := HT.out.2 (by omega)
      obtain ⟨b', off', rfl, hbl', hcs'⟩ := HT'.out.2 (by omega)
      have c1 := hcs k hlt
      have c1' := hcs' k hlt
      have heq : ((f k).toList == (f k).toList) = true := beq_self_eq_true _
      clear hcs hcs'
      go_wp2_with fail
      go_quiet (fail)
      go_wp2_with fail
      go_roundw
      case rel => exact ⟨k + 1, by omega, by go_num, _, rfl⟩
      case measure => simp [intOf]; omega
    · go_wp2_with fail
      go_ret
      exact ⟨rfl, q, rfl⟩
end Go.Proofs.YtppeonlpocdhkaaDoor

/-
  Two lists of nodes that read alike are the same: layer 5's.
-/
import Derived.Test.YtfcdkadblagijaaDoorNodes
import Derived.Deep.QuietTactic
import Derived.BigQuiet
import Derived.Laws.StructEq
set_option linter.unusedSimpArgs false
namespace Go.Proofs.YtfcdkadblagijaaDoor
open Go.RowKit Go.ChangeShapes Go.WideShapes Go.ChangeAt Go.Deep Go.Joins
set_option maxRecDepth 100000 in
set_option maxHeartbeats 1000000 in
theorem sameTree5_same (A A' : Option Addr) (n c c' : Nat) (f : Nat → Nod) (w : World) (h : NodRd w w.heap.size A n f) (h' : NodRd w w.heap.size A' n f) :
    Calls Tryd.prog 10 #[.slice A n c, .slice A' n c'] w fun e w' => e = .returned (.bool true) ∧ ∃ q, w' = w.drewN q := by
  have hn := h.small
  have HT := Lib.hid h
  have HT' := Lib.hid h'
  clear h h'
  go_enter Tryd.func10, Tryd.ntmps10
  go_wp2_with fail
  go_loopw [5] (fun i wr => ∃ k : Nat, k ≤ n ∧ i = .int .i64 k ∧ ∃ q, wr = w.drewN q) (fun i _ => n - (intOf i).toNat)
  case atStart => exact ⟨0, Nat.zero_le _, rfl, 0, rfl⟩
  case round =>
    obtain ⟨k, hk, rfl, q, rfl⟩ := hrel
    by_cases hlt : k < n
    · obtain ⟨b, off, rfl, hbl, hcs⟩ := HT.out.spot (by omega)
      obtain ⟨b', off', rfl, hbl', hcs'⟩ := HT'.out.spot (by omega)
      obtain ⟨c0, c1, c2, c3, c4, c5⟩ := hcs k hlt
      obtain ⟨d0, d1, d2, d3, d4, d5⟩ := hcs' k hlt
      clear hcs hcs'
      go_wp2_with fail
      go_quiet (fail)
      go_wp2_with fail
      go_roundw
      case rel => exact ⟨k + 1, by omega, by go_num, _, rfl⟩
      case measure => simp [intOf]; omega
    · go_wp2_with fail
      go_ret
      exact ⟨rfl, q, rfl⟩
end Go.Proofs.YtfcdkadblagijaaDoor

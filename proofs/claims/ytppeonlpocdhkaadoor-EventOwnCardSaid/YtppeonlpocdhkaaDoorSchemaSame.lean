/-
  The walk of sameSchema at two schemas that read the same.
-/
import Derived.Test.YtppeonlpocdhkaaDoorSchemaList
set_option linter.unusedSimpArgs false
namespace Go.Proofs.YtppeonlpocdhkaaDoor
open Go.RowKit Go.ChangeShapes Go.WideShapes Go.ChangeAt
set_option maxHeartbeats 400000 in
theorem sameSchema_same (A A' : Option Addr) (c c' : Nat) (S : Sch) (w : World) (h : TypRd w w.heap.size A S) (h' : TypRd w w.heap.size A' S) :
    Calls Tryd.prog 18 #[.agg #[.slice A S.n c], .agg #[.slice A' S.n c']] w fun e w' => e = .returned (.bool true) ∧ Below w.heap.size w w' := by
  have hn := h.1
  have HB := bnew (bnew (Below.refl w.heap.size w) (.cells #[.slice A S.n c] 25)) (.cells #[.slice A' S.n c'] 25)
  have HT := Lib.hid (h.below HB)
  have HT' := Lib.hid (h'.below HB)
  clear h h'
  go_enter Tryd.func18, Tryd.ntmps18
  go_wp2_with fail
  have hx1 : ((w.alloc (.cells #[.slice A S.n c] 25)).alloc (.cells #[.slice A' S.n c'] 25)).cell? ⟨w.heap.size, 0, none⟩ = some (.slice A S.n c) := by simp [go_sem]
  have hx2 : ((w.alloc (.cells #[.slice A S.n c] 25)).alloc (.cells #[.slice A' S.n c'] 25)).cell? ⟨w.heap.size + 1, 0, none⟩ = some (.slice A' S.n c') := by simp [go_sem]
  generalize ((w.alloc (.cells #[.slice A S.n c] 25)).alloc (.cells #[.slice A' S.n c'] 25)) = w2 at *
  go_loopw [5] (fun i wr => ∃ k : Nat, k ≤ S.n ∧ i = .int .i64 k ∧ Below w.heap.size w wr ∧ Hid (TypRd wr w.heap.size A S) ∧ Hid (TypRd wr w.heap.size A' S) ∧ wr.cell? ⟨w.heap.size, 0, none⟩ = some (.slice A S.n c) ∧ wr.cell? ⟨w.heap.size + 1, 0, none⟩ = some (.slice A' S.n c')) (fun i _ => S.n - (intOf i).toNat)
  case atStart => exact ⟨0, Nat.zero_le _, rfl, HB, HT, HT', hx1, hx2⟩
  case round =>
    obtain ⟨k, hk, rfl, HB, HT, HT', hx1, hx2⟩ := hrel
    by_cases hlt : k < S.n
    · obtain ⟨b, off, rfl, hbl, hcs⟩ := HT.out.2 (by omega)
      obtain ⟨b', off', rfl, hbl', hcs'⟩ := HT'.out.2 (by omega)
      obtain ⟨c1, aa, ac, c2, hs⟩ := hcs k hlt
      obtain ⟨c1', aa', ac', c2', hs'⟩ := hcs' k hlt
      have heq : ((S.nm k).toList == (S.nm k).toList) = true := beq_self_eq_true _
      have HS := Lib.hid (hs.more HB.size)
      have HS' := Lib.hid (hs'.more HB.size)
      clear hcs hcs' hs hs'
      go_wp2_with fail
      go_quiet (first | (go_at_call 30; exact Calls.quiet_of (sameList_same aa aa' (S.ln k) ac ac' (S.atr k) _ (HS.out.drewN _) (HS'.out.drewN _))))
      go_wp2_with fail
      go_roundw
      case rel => exact ⟨k + 1, by omega, by go_num, bdrewN HB _, HT, HT', hx1, hx2⟩
      case measure => simp [intOf]; omega
    · go_wp2_with fail
      go_ret
      exact ⟨rfl, HB⟩
end Go.Proofs.YtppeonlpocdhkaaDoor

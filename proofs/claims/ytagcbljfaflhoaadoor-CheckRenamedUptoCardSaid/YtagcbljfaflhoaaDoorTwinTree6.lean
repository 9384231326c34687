/-
  Lists of nodes: their copy by one append.
-/
import Derived.Test.YtagcbljfaflhoaaDoorNodes
import Derived.Test.YtagcbljfaflhoaaDoorBlk
import Derived.OwnWalk
import Derived.Handy
set_option linter.unusedSimpArgs false
namespace Go.Proofs.YtagcbljfaflhoaaDoor
open Go.RowKit Go.ChangeShapes Go.WideShapes Go.ChangeAt Go.Deep Go.Joins
theorem infoNode : (Tryd.prog.info? 60).map (fun i => (i.zero, i.size, i.bytes)) = some (some (.agg #[.int .i64 0, .int .i64 0, .string .empty, .string .empty, .int .i64 0, .int .i64 0]), 6, 64) := by kernel_rfl
set_option maxRecDepth 100000 in
theorem twinTree6_any (A : Option Addr) (n c : Nat) (f : Nat → Nod) (w : World) (hl : n ≤ c) (hA : A = none → c = 0) (h : NodRd w w.heap.size A n f) :
    Calls Tryd.prog 12 #[.slice A n c] w fun e w' => ∃ v', e = .returned v' ∧ Below w.heap.size w w' ∧ w'.ownsRow w.heap.size 60 6 v' n (flat (fun j => nodCell (f j)) 6 n) := by
  obtain ⟨i0, hi0, hz0, hz1, hz2⟩ := info_parts infoNode
  have HT := Lib.hid h
  have HA := Lib.hid hA
  clear h hA
  go_enter Tryd.func12, Tryd.ntmps12
  go_wp2_with (at_builtin; go_loud (refine wpList_append_copy _ rfl _ _ _ rfl 60 i0 _ 6 64 Tryd.underlying22 hi0 hz0 hz1 hz2 rfl (by omega) (by omega) rfl A n c w.heap.size (fun j => nodCell (f j)) rfl hl HA.out HT.out (fun j _ i _ => nodCell_one (f j) i) ?_; intro v' w1 hown hb))
  go_ret
  exact ⟨v', rfl, hb, hown⟩
end Go.Proofs.YtagcbljfaflhoaaDoor

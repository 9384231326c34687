/-
  Blocks whose cells are known: after a store, behind what turns nothing below.
-/
import Derived.Test.YtfcdkadblagijaaDoorRowOwn
import Derived.Lib.Builder
namespace Go.Proofs.YtfcdkadblagijaaDoor
open Go.RowKit
section
variable {w w' : World} {b : Nat} {cs : Array Value} {T : TypeId} {fr : Nat × Nat}
theorem blk_set (h : w.heap[b]? = some (.cells cs T fr)) (j : Nat) (u : Value) : (w.setCell ⟨b, j, none⟩ u).heap[b]? = some (.cells (cs.setIfInBounds j u) T fr) := by
  simp [World.setCell, Array.getElem?_modify, h]
theorem blk_other (h : w.heap[b]? = some (.cells cs T fr)) {p : Addr} (hp : p.block ≠ b) (u : Value) : (w.setCell p u).heap[b]? = some (.cells cs T fr) :=
  (Below.heap_setCell w p u b (fun e => hp e.symm)).trans h
theorem blk_lt (h : w.heap[b]? = some (.cells cs T fr)) : b < w.heap.size := (Array.getElem?_eq_some_iff.1 h).1
theorem blk_below (h : w.heap[b]? = some (.cells cs T fr)) (hb : Below w.heap.size w w') : w'.heap[b]? = some (.cells cs T fr) := (hb.block b (blk_lt h)).trans h
theorem blk_grown {row : Option Nat} (h : w.heap[b]? = some (.cells cs T fr)) (hg : w.grownBy w' row) (hne : row ≠ some b) : w'.heap[b]? = some (.cells cs T fr) := (hg.block b (blk_lt h) (fun e => hne e.symm)).trans h
theorem blk_cell (h : w.heap[b]? = some (.cells cs T fr)) {j : Nat} {v : Value} (hv : cs[j]? = some v) : w.cell? ⟨b, j, none⟩ = some v := (Lib.cell_of_heap h j).trans hv
theorem blk_free (h : w.heap[b]? = some (.cells cs T (0, 0))) (j : Nat) : w.frozen? ⟨b, j, none⟩ = false := Lib.frozen_of_heap h j
theorem blk_new (w : World) (cs : Array Value) (T : TypeId) : (w.alloc (.cells cs T)).heap[w.heap.size]? = some (.cells cs T (0, 0)) := heap_alloc_new w _
theorem blk_alloc (h : w.heap[b]? = some (.cells cs T fr)) (o : Obj) : (w.alloc o).heap[b]? = some (.cells cs T fr) := (Lib.alloc_old w o b (blk_lt h)).trans h
end
/-- A row stays while a block of another type is written to. -/
theorem own_blk {w : World} {B n sz b : Nat} {e T : TypeId} {v : Value} {xs : List Value} {cs : Array Value} {fr : Nat × Nat} (h : w.ownsRow B e sz v n xs) (hb : w.heap[b]? = some (.cells cs T fr)) (hT : T ≠ e) (j : Nat) (u : Value) :
    (w.setCell ⟨b, j, none⟩ u).ownsRow B e sz v n xs := by
  refine rowown_far h (fun hv => ?_) u
  obtain ⟨c, fz, h1⟩ := Lib.ownsRow_kind h b hv
  rw [h1] at hb
  injection hb with hb
  injection hb with _ hb
  exact hT hb.symm
end Go.Proofs.YtfcdkadblagijaaDoor

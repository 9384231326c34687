/-
  A whole struct stored into its block.
-/
import Derived.Test.YtfcdkadblagijaaDoorBlk
import Derived.Laws.Rows
import Derived.Laws.Tables
set_option linter.unusedVariables false
namespace Go.Proofs.YtfcdkadblagijaaDoor
open Go.RowKit Go.ChangeShapes Go.WideShapes Go.ChangeAt Go.Deep Go.Joins
theorem below_setRow {B g : Nat} {w w' : World} {cs : Array Value} (h : Below B w w') (hg : B ≤ g) : Below B w (w'.setRow g cs) := by
  refine ⟨h.os, h.tape, h.output, ?_, fun b hb => ?_⟩
  · have : (w'.setRow g cs).heap.size = w'.heap.size := by simp [World.setRow]
    rw [this]
    exact h.size
  · have : (w'.setRow g cs).heap[b]? = w'.heap[b]? := by
      simp only [World.setRow, Array.getElem?_modify]
      rw [if_neg (by omega)]
    rw [this]
    exact h.block b hb
theorem row_set {w : World} {g : Nat} {old : Array Value} {T : TypeId} {fr : Nat × Nat} (h : w.heap[g]? = some (.cells old T fr)) (cs : Array Value) : (w.setRow g cs).heap[g]? = some (.cells cs T fr) := by
  simp [World.setRow, Array.getElem?_modify, h]
theorem row_other {w : World} {g b : Nat} {cs old : Array Value} {T : TypeId} {fr : Nat × Nat} (h : w.heap[b]? = some (.cells old T fr)) (hg : g ≠ b) : (w.setRow g cs).heap[b]? = some (.cells old T fr) := by
  simp only [World.setRow, Array.getElem?_modify]
  rw [if_neg hg]
  exact h
/-- A row stays while a block of another type is stored whole. -/
theorem own_row {w : World} {B n sz b : Nat} {e T : TypeId} {v : Value} {xs : List Value} {cs : Array Value} {fr : Nat × Nat} (h : w.ownsRow B e sz v n xs) (hb : w.heap[b]? = some (.cells cs T fr)) (hT : T ≠ e) (new : Array Value) :
    (w.setRow b new).ownsRow B e sz v n xs := by
  refine h.kept (row := some b) ⟨rfl, rfl, rfl, by simp [World.setRow], fun k _ hk => ?_⟩ (Or.inr fun hv => ?_)
  · simp only [World.setRow, Array.getElem?_modify]
    rw [if_neg (fun e => hk (by rw [e]))]
  · obtain ⟨c, fz, h1⟩ := Lib.ownsRow_kind h b hv
    rw [h1] at hb
    injection hb with hb
    injection hb with _ hb
    exact hT hb.symm
end Go.Proofs.YtfcdkadblagijaaDoor

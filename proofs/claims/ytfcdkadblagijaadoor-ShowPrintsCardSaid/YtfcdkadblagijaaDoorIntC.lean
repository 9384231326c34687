/-
  Numbers as cells.
-/
import Derived.Test.YtfcdkadblagijaaDoorRowOwn
namespace Go.Proofs.YtfcdkadblagijaaDoor
open Go.RowKit
/-- f, but x at j. -/
def upd1 {α : Type} (f : Nat → α) (j : Nat) (x : α) : Nat → α := fun i => if i = j then x else f i
/-- The cells of numbers. -/
def intC (f : Nat → Int) : Nat → Nat → Value := fun j _ => .int .i64 (f j)
/-- A list of numbers reads so. -/
def IntRd (w : World) (B : Nat) (A : Option Addr) (n : Nat) (f : Nat → Int) : Prop := RowRd w B A n 1 8 (intC f)
section
variable {w w' : World} {B n : Nat} {A : Option Addr} {f : Nat → Int}
theorem IntRd.below (h : IntRd w B A n f) (hb : Below B w w') : IntRd w' B A n f := RowRd.below h hb
theorem IntRd.later (h : IntRd w w.heap.size A n f) (hb : Below w.heap.size w w') : IntRd w' w'.heap.size A n f := RowRd.later h hb
theorem IntRd.spot (h : IntRd w B A n f) (hn : 0 < n) : ∃ b off, A = some ⟨b, off, none⟩ ∧ b < B ∧ ∀ j, j < n → w.cell? ⟨b, off + j, none⟩ = some (.int .i64 (f j)) := RowRd.spot1 h hn
end
theorem intC_snoc {w : World} {B k : Nat} {e : TypeId} {D : Nat → Int} (M : Int) (v : Value) (h : w.ownsRow B e 1 v (k + 1) (flat (intC D) 1 k ++ [.int .i64 M])) : w.ownsRow B e 1 v (k + 1) (flat (intC (upd1 D k M)) 1 (k + 1)) := by
  have a1 : ∀ j, j < k → ∀ i, i < 1 → intC (upd1 D k M) j i = intC D j i := fun j hj i _ => by simp only [intC, upd1, if_neg (show ¬ j = k by omega)]
  rw [flat_succ, flat_congr a1]
  simpa [intC, upd1] using h
theorem intC_cell {w : World} {B k g cap : Nat} {e : TypeId} {D : Nat → Int} (h : w.ownsRow B e 1 (.slice (some ⟨g, 0, none⟩) k cap) k (flat (intC D) 1 k)) {j : Nat} (hj : j < k) : w.cell? ⟨g, j, none⟩ = some (.int .i64 (D j)) := by
  rw [h.cellAt _ (by omega)]
  have h4 := flat_at (intC D) (sz := 1) (n := k) (j := j) (i := 0) hj (by omega)
  rwa [Nat.mul_one, Nat.add_zero] at h4
end Go.Proofs.YtfcdkadblagijaaDoor

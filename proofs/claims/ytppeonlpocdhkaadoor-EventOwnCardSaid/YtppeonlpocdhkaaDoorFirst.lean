/-
  The first number of a kind below n, -1 if there is none.
-/
import Derived.Test.YtppeonlpocdhkaaDoorKit
namespace Go.Proofs.YtppeonlpocdhkaaDoor
def firstI (p : Nat → Bool) (n : Nat) : Int := match (List.range n).find? p with | some k => (k : Int) | none => -1
theorem firstI_hit {p : Nat → Bool} {n j : Nat} (hj : j < n) (hp : p j = true) (hn : ∀ k, k < j → p k = false) : firstI p n = j := by
  have : (List.range n).find? p = some j := by
    rw [List.find?_eq_some_iff_getElem]
    refine ⟨hp, j, by simpa using hj, by simp, fun k hk => ?_⟩
    simp [hn k hk]
  simp [firstI, this]
theorem firstI_none {p : Nat → Bool} {n : Nat} (hn : ∀ k, k < n → p k = false) : firstI p n = -1 := by
  have : (List.range n).find? p = none := by
    rw [List.find?_eq_none]
    intro k hk
    rw [hn k (by simpa using hk)]
    simp
  simp [firstI, this]
theorem firstI_or (p : Nat → Bool) (n : Nat) : (firstI p n = -1 ∧ ∀ k, k < n → p k = false) ∨ ∃ j, j < n ∧ firstI p n = j ∧ p j = true ∧ ∀ k, k < j → p k = false := by
  cases h : (List.range n).find? p with
  | none =>
    left
    refine ⟨by simp [firstI, h], fun k hk => ?_⟩
    have := List.find?_eq_none.1 h k (by simpa using hk)
    simpa using this
  | some j =>
    right
    obtain ⟨hp, i, hi, e, hb⟩ := List.find?_eq_some_iff_getElem.1 h
    simp only [List.getElem_range] at e
    subst e
    refine ⟨i, by simpa using hi, by simp [firstI, h], hp, fun k hk => ?_⟩
    have := hb k hk
    simpa using this
theorem none_zero {p : Nat → Bool} : ∀ j, j < 0 → p j = false := fun _ h => absurd h (Nat.not_lt_zero _)
theorem none_step {p : Nat → Bool} {k : Nat} (h : ∀ j, j < k → p j = false) (hp : p k = false) : ∀ j, j < k + 1 → p j = false := by
  intro j hj
  by_cases e : j = k
  · rw [e]; exact hp
  · exact h j (by omega)
end Go.Proofs.YtppeonlpocdhkaaDoor

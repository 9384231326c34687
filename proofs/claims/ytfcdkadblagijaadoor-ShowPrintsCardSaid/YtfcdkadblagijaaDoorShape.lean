/-
  When a list of nodes is a well shaped tree, plain.
-/
import Derived.Test.YtfcdkadblagijaaDoorNodes
import Derived.Test.YtfcdkadblagijaaDoorLetters2
set_option linter.unusedVariables false
namespace Go.Proofs.YtfcdkadblagijaaDoor
open Go.RowKit
/-- How many operands an operator takes; -1: there is no such operator. -/
def arity (op : Int) : Int := if 1 ≤ op ∧ op ≤ 11 then 0 else if op = 12 ∨ op = 13 then 1 else if 14 ≤ op ∧ op ≤ 26 then 2 else -1
/-- Are a node's number and names as its operator wants them? -/
def numB (op n : Int) : Bool := if op = 1 then decide (0 ≤ n) else decide (n = 0)
def varB (op : Int) (v : ByteArray) : Bool := if 4 ≤ op ∧ op ≤ 11 then nameB v else v.toList.isEmpty
def attB (op : Int) (v : ByteArray) : Bool := if 4 ≤ op ∧ op ≤ 11 ∧ op ≠ 5 then nameB v else v.toList.isEmpty
def fieldsB (x : Nod) : Bool := numB x.op x.n && varB x.op x.vr && attB x.op x.at_
/-- Where the subtree of node i begins, if it is well shaped over what stands ahead of it. -/
def nodeRes (x : Nod) (l : Nat → Nat) (i : Nat) : Option Nat :=
  if fieldsB x = true then
    if arity x.op = 0 then (if x.a = -1 ∧ x.b = -1 then some i else none)
    else if arity x.op = 1 then (if 1 ≤ i ∧ x.a = (i : Int) - 1 ∧ x.b = -1 then some (l (i - 1)) else none)
    else if arity x.op = 2 then (if 1 ≤ i ∧ x.b = (i : Int) - 1 ∧ 1 ≤ l (i - 1) ∧ x.a = (l (i - 1) : Int) - 1 then some (l x.a.toNat) else none)
    else none
  else none
def lget (l : List Nat) (j : Nat) : Nat := l.getD j 0
/-- By node where its subtree begins, of the first n nodes. -/
def bg (f : Nat → Nod) : Nat → Option (List Nat)
  | 0 => some []
  | n + 1 => match bg f n with
    | none => none
    | some l => match nodeRes (f n) (lget l) n with
      | none => none
      | some v => some (l ++ [v])
/-- Is it a well shaped tree? -/
def treeB (n : Nat) (f : Nat → Nod) : Bool := match bg f n with
  | none => false
  | some l => decide (0 < n ∧ lget l (n - 1) = 0)
section
variable {f : Nat → Nod} {n k v : Nat} {l : List Nat}
theorem bg_next (h : bg f k = some l) (hr : nodeRes (f k) (lget l) k = some v) : bg f (k + 1) = some (l ++ [v]) := by rw [bg, h]; simp only [hr]
theorem bg_stop (h : bg f k = some l) (hr : nodeRes (f k) (lget l) k = none) : bg f (k + 1) = none := by rw [bg, h]; simp only [hr]
theorem bg_none (h : bg f k = none) : ∀ m, k ≤ m → bg f m = none := by
  intro m hm
  induction m with
  | zero => obtain rfl : k = 0 := by omega
            exact h
  | succ m ih =>
    by_cases e : k = m + 1
    · subst e; exact h
    · rw [bg, ih (by omega)]
theorem tree_stop (h : bg f k = some l) (hr : nodeRes (f k) (lget l) k = none) (hk : k < n) : treeB n f = false := by rw [treeB, bg_none (bg_stop h hr) n (by omega)]
theorem tree_end (h : bg f n = some l) : treeB n f = decide (0 < n ∧ lget l (n - 1) = 0) := by rw [treeB, h]
theorem lget_left {j : Nat} (h : j < l.length) (v : Nat) : lget (l ++ [v]) j = lget l j := by simp [lget, List.getD_eq_getElem?_getD, List.getElem?_append_left h]
theorem lget_last (l : List Nat) (v : Nat) : lget (l ++ [v]) l.length = v := by simp [lget, List.getD_eq_getElem?_getD]
theorem bg_len (h : bg f n = some l) : l.length = n := by
  induction n generalizing l with
  | zero => simp [bg] at h; subst h; rfl
  | succ n ih =>
    cases hb : bg f n with
    | none => rw [bg_none hb (n + 1) (by omega)] at h; cases h
    | some l' =>
      cases hr : nodeRes (f n) (lget l') n with
      | none => rw [bg_stop hb hr] at h; cases h
      | some v =>
        rw [bg_next hb hr] at h
        injection h with h
        subst h
        simp [ih hb]
theorem nodeRes_le {x : Nod} {l : Nat → Nat} {i v : Nat} (hl : ∀ j, j < i → l j ≤ j) (h : nodeRes x l i = some v) : v ≤ i := by
  unfold nodeRes at h
  split at h
  · split at h
    · split at h
      · injection h with h; omega
      · cases h
    · split at h
      · split at h
        · rename_i hc
          injection h with h
          have := hl (i - 1) (by omega)
          omega
        · cases h
      · split at h
        · split at h
          · rename_i hc
            injection h with h
            have h1 := hl (i - 1) (by omega)
            have h2 := hl x.a.toNat (by omega)
            omega
          · cases h
        · cases h
  · cases h
theorem bg_le (h : bg f n = some l) : ∀ j, j < n → lget l j ≤ j := by
  induction n generalizing l with
  | zero => intro j hj; omega
  | succ n ih =>
    cases hb : bg f n with
    | none => rw [bg_none hb (n + 1) (by omega)] at h; cases h
    | some l' =>
      cases hr : nodeRes (f n) (lget l') n with
      | none => rw [bg_stop hb hr] at h; cases h
      | some v =>
        rw [bg_next hb hr] at h
        injection h with h
        subst h
        have hl := bg_len hb
        intro j hj
        by_cases e : j = n
        · subst e
          have := nodeRes_le (ih hb) hr
          rw [← hl, lget_last]
          omega
        · rw [lget_left (by omega)]
          exact ih hb j (by omega)
end
/-! ### The stack of subtrees that no node has taken yet: their roots, the last one at the end -/
def stk (l : Nat → Nat) : Nat → List Nat
  | 0 => []
  | i + 1 => if h : l i ≤ i then stk l (l i) ++ [i] else []
section
variable {l l' : Nat → Nat} {i : Nat}
theorem stk_zero (l : Nat → Nat) : stk l 0 = [] := by rw [stk]
theorem stk_succ (h : l i ≤ i) : stk l (i + 1) = stk l (l i) ++ [i] := by rw [stk, dif_pos h]
theorem stk_congr : ∀ i, (∀ j, j < i → l j = l' j) → (∀ j, j < i → l j ≤ j) → stk l i = stk l' i := by
  intro i
  induction i using Nat.strongRecOn with
  | _ i ih =>
    intro h1 h2
    cases i with
    | zero => rw [stk_zero, stk_zero]
    | succ i =>
      have h3 := h2 i (by omega)
      have h4 := h1 i (by omega)
      rw [stk_succ h3, stk_succ (by rw [← h4]; exact h3), ← h4, ih (l i) (by omega) (fun j hj => h1 j (by omega)) (fun j hj => h2 j (by omega))]
theorem stk_pos (h : ∀ j, j < i → l j ≤ j) (hi : 0 < i) : stk l i = stk l (l (i - 1)) ++ [i - 1] := by
  obtain ⟨k, rfl⟩ : ∃ k, i = k + 1 := ⟨i - 1, by omega⟩
  exact stk_succ (h k (by omega))
theorem stk_len (h : ∀ j, j < i → l j ≤ j) : (stk l i).length ≤ i := by
  induction i using Nat.strongRecOn with
  | _ i ih =>
    rcases Nat.eq_zero_or_pos i with e | e
    · subst e; rw [stk_zero]; simp
    · rw [stk_pos h e, List.length_append]
      have := h (i - 1) (by omega)
      have := ih (l (i - 1)) (by omega) (fun j hj => h j (by omega))
      simp only [List.length_cons, List.length_nil]
      omega
theorem stk_lt (h : ∀ j, j < i → l j ≤ j) : ∀ x ∈ stk l i, x < i := by
  induction i using Nat.strongRecOn with
  | _ i ih =>
    rcases Nat.eq_zero_or_pos i with e | e
    · subst e; rw [stk_zero]; simp
    · rw [stk_pos h e]
      have h1 := h (i - 1) (by omega)
      intro x hx
      rcases List.mem_append.1 hx with hx | hx
      · have := ih (l (i - 1)) (by omega) (fun j hj => h j (by omega)) x hx
        omega
      · simp at hx; omega
end
end Go.Proofs.YtfcdkadblagijaaDoor

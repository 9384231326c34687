/-
  What the reference gathers of a tree, plain: parents round by round, how many nodes of a subtree lie ahead of a place.
-/
import Derived.Test.YtagcbljfaflhoaaDoorArrs
import Derived.Test.YtagcbljfaflhoaaDoorSubtree
set_option linter.unusedVariables false
namespace Go.Proofs.YtagcbljfaflhoaaDoor
section
variable {f : Nat → Nod} {n m x y : Nat} {l : Nat → Nat} {root : Int} {i : Nat}
theorem upF_next (f : Nat → Nod) (m j : Nat) : upF f (m + 1) j = if (f m).b = (j : Int) then (m : Int) else if (f m).a = (j : Int) then (m : Int) else upF f m j := rfl
theorem up_leaf (ha : (f m).a = -1) (hb : (f m).b = -1) : numArr (upF f m) n = numArr (upF f (m + 1)) n :=
  numArr_congr fun j _ => by rw [upF_next, if_neg (by omega), if_neg (by omega)]
theorem up_one (ha : (f m).a = x) (hb : (f m).b = -1) : (numArr (upF f m) n).setIfInBounds x (.int .i64 m) = numArr (upF f (m + 1)) n := by
  rw [numArr_set]
  refine numArr_congr fun j _ => ?_
  rw [upF_next, if_neg (show ¬ (f m).b = (j : Int) by omega), ha]
  by_cases e : j = x
  · rw [if_pos e, if_pos (show (x : Int) = j by omega)]
  · rw [if_neg e, if_neg (show ¬ (x : Int) = j by omega)]
theorem up_two (ha : (f m).a = x) (hb : (f m).b = y) : ((numArr (upF f m) n).setIfInBounds x (.int .i64 m)).setIfInBounds y (.int .i64 m) = numArr (upF f (m + 1)) n := by
  rw [numArr_set, numArr_set]
  refine numArr_congr fun j _ => ?_
  rw [upF_next, ha, hb]
  by_cases e : j = y
  · rw [if_pos e, if_pos (show (y : Int) = j by omega)]
  · rw [if_neg e, if_neg (show ¬ (y : Int) = j by omega)]
    by_cases e2 : j = x
    · rw [if_pos e2, if_pos (show (x : Int) = j by omega)]
    · rw [if_neg e2, if_neg (show ¬ (x : Int) = j by omega)]
/-- How many of the first i nodes lie in the subtree of a place. -/
def cntIn (n : Nat) (l : Nat → Nat) (root : Int) (i : Nat) : Nat := if 0 ≤ root ∧ root < n then min i (root.toNat + 1) - min i (l root.toNat) else 0
theorem cnt_in_zero : cntIn n l root 0 = 0 := by unfold cntIn; split <;> simp
theorem cnt_in_le : cntIn n l root i ≤ i := by unfold cntIn; split <;> omega
theorem cnt_in_hit (h : subB n l root i = true) : 0 ≤ root ∧ root < n ∧ l root.toNat ≤ i ∧ (i : Int) ≤ root ∧ cntIn n l root i = i - l root.toNat ∧ cntIn n l root (i + 1) = i - l root.toNat + 1 := by
  have h := of_decide_eq_true h
  obtain ⟨a, b, c, d⟩ := h
  refine ⟨a, b, c, d, ?_, ?_⟩
  · rw [cntIn, if_pos ⟨a, b⟩]; omega
  · rw [cntIn, if_pos ⟨a, b⟩]; omega
theorem cnt_in_miss (h : subB n l root i = false) : cntIn n l root (i + 1) = cntIn n l root i := by
  have h := of_decide_eq_false h
  unfold cntIn
  split
  · rename_i hc
    have : ¬ (l root.toNat ≤ i ∧ (i : Int) ≤ root) := fun k => h ⟨hc.1, hc.2, k.1, k.2⟩
    omega
  · rfl
theorem cnt_in_end (ht : treeB n f = true) : cntIn n (begF n f) root n = sizeI n f root := by
  obtain ⟨_, hs, _, _⟩ := tree_shp ht
  unfold cntIn sizeI
  by_cases h : 0 ≤ root ∧ root < n
  · have := hs.le root.toNat (by omega)
    rw [if_pos h, if_pos ⟨ht, h⟩]
    omega
  · rw [if_neg h, if_neg (fun k => h k.2)]
/-- The value that the reference lays down for a node, in its subtree or not: at the last node; at another. -/
theorem top_last (h : Shp n f l) (hn : i + 1 = n) : upF f n i = -1 ∧ topB n f l i = true := by
  have e : i = n - 1 := by omega
  subst e
  exact ⟨up_root h (by omega), top_root h⟩
theorem top_other (h : Shp n f l) (h0 : l (n - 1) = 0) (hi : i + 1 < n) : ∃ p, i < p ∧ p < n ∧ upF f n i = p ∧ topB n f l i = (topB n f l p && (f p).op == 25) := by
  obtain ⟨p, a, b, c, d⟩ := up_ex h h0 (i := i) (by omega)
  exact ⟨p, a, b, c, top_step h b d⟩
theorem in_last (h : Shp n f l) (h0 : l (n - 1) = 0) (hn : i + 1 = n) : upF f n i = -1 ∧ subB n l root i = decide ((i : Int) = root) := by
  have e := (top_last h hn).1
  refine ⟨e, ?_⟩
  rw [in_step h h0 root (by omega), e]
  simp
theorem in_other (h : Shp n f l) (h0 : l (n - 1) = 0) (hi : i + 1 < n) : ∃ p, i < p ∧ p < n ∧ upF f n i = p ∧ subB n l root i = (decide ((i : Int) = root) || subB n l root p) := by
  obtain ⟨p, a, b, c, _⟩ := up_ex h h0 (i := i) (by omega)
  refine ⟨p, a, b, c, ?_⟩
  rw [in_step h h0 root (by omega), c]
  simp
end
end Go.Proofs.YtagcbljfaflhoaaDoor

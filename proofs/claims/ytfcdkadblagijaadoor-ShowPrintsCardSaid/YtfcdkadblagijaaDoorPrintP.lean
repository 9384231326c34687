/-
  A query's tokens, plain.
-/
import Derived.Test.YtfcdkadblagijaaDoorExprW
import Derived.Test.YtfcdkadblagijaaDoorShaped
set_option linter.unusedSimpArgs false
set_option linter.unusedVariables false
namespace Go.Proofs.YtfcdkadblagijaaDoor
open Go.RowKit
/-- Names, a bar between each two. -/
def typesT (ty : Nat → ByteArray) : Nat → List Tk
  | 0 => []
  | 1 => [nmT (ty 0)]
  | k + 2 => typesT ty (k + 1) ++ [mkT 10, nmT (ty (k + 1))]
def typedT (x : Itm) : List Tk := if 1 < x.tn then mkT 3 :: (typesT x.ty x.tn ++ [mkT 4]) else typesT x.ty x.tn
def repT (x : Itm) : List Tk := if x.lo = 1 ∧ x.hi = 1 then [nmT x.vr] else if x.lo = 1 ∧ x.hi = 4 then [mkT 11, nmT x.vr] else [nmT x.vr, mkT 5, nuT x.lo, mkT 7, nuT x.hi, mkT 6]
def negT (x : Itm) : List Tk := if x.neg = true then [mkT 9] else []
def itemT (x : Itm) : List Tk := negT x ++ (typedT x ++ repT x)
def itemsT (f : Nat → Itm) : Nat → List Tk
  | 0 => []
  | 1 => itemT (f 0)
  | k + 2 => itemsT f (k + 1) ++ (mkT 7 :: itemT (f (k + 1)))
def usingT (mode : Int) : List Tk := if mode = 0 then [] else [mkT 32, mkT (33 + mode)]
def aftL : List Int := [54, 34, 55, 56]
def afterT (after : Int) : List Tk := if after = 0 then [] else [mkT 53, mkT (aftL.getD after.toNat 0)]
def byT (s : ByteArray) : List Tk := if s.toList.isEmpty then [] else [mkT 38, mkT 39, nmT s]
def retsT (T : Nat → Tr) : Nat → List Tk
  | 0 => []
  | k + 1 => retsT T k ++ (mkT (if k = 0 then 40 else 7) :: (T k).toks)
def retsD (T : Nat → Tr) : Nat → Nat
  | 0 => 0
  | k + 1 => max (retsD T k) (T k).dp
def whereT (n : Nat) (t : Tr) : List Tk := if n = 0 then [] else mkT 36 :: t.toks
def whereD (n : Nat) (t : Tr) : Nat := if n = 0 then 0 else t.dp
/-- What stands ahead of the results: t the condition's tree. -/
def headT (Q : Qry) (t : Tr) : List Tk := [mkT 30, mkT 31, mkT 3] ++ itemsT Q.it Q.n ++ [mkT 4] ++ usingT Q.mode ++ afterT Q.after ++ whereT Q.wn t ++ [mkT 37, nuT Q.within] ++ byT Q.by_
def printT (Q : Qry) (t : Tr) (T : Nat → Tr) : List Tk := headT Q t ++ retsT T Q.m
def printD (Q : Qry) (t : Tr) (T : Nat → Tr) : Nat := max (whereD Q.wn t) (retsD T Q.m)
theorem typesT_succ (ty : Nat → ByteArray) (k : Nat) (h : 0 < k) : typesT ty (k + 1) = typesT ty k ++ [mkT 10, nmT (ty k)] := by
  obtain ⟨m, rfl⟩ : ∃ m, k = m + 1 := ⟨k - 1, by omega⟩
  rfl
theorem itemsT_succ (f : Nat → Itm) (k : Nat) (h : 0 < k) : itemsT f (k + 1) = itemsT f k ++ (mkT 7 :: itemT (f k)) := by
  obtain ⟨m, rfl⟩ : ∃ m, k = m + 1 := ⟨k - 1, by omega⟩
  rfl
theorem typesT_len (ty : Nat → ByteArray) : ∀ k, 0 < k → (typesT ty k).length + 1 = 2 * k
  | 0, h => absurd h (Nat.lt_irrefl _)
  | 1, _ => rfl
  | k + 2, _ => by
    have := typesT_len ty (k + 1) (Nat.succ_pos _)
    rw [typesT_succ ty (k + 1) (Nat.succ_pos _), List.length_append]
    simp only [List.length_cons, List.length_nil]
    omega
theorem typedT_len (x : Itm) (h : 0 < x.tn) : x.tn ≤ (typedT x).length ∧ (typedT x).length ≤ 2 * x.tn + 1 := by
  have := typesT_len x.ty x.tn h
  unfold typedT
  split
  · simp only [List.length_cons, List.length_append, List.length_nil]; omega
  · omega
theorem repT_len (x : Itm) : 0 < (repT x).length ∧ (repT x).length ≤ 6 := by
  unfold repT
  repeat' split
  all_goals exact ⟨by simp, by simp⟩
theorem negT_len (x : Itm) : (negT x).length ≤ 1 := by unfold negT; split <;> simp
theorem itemT_len (x : Itm) (h : 0 < x.tn) : x.tn + 1 ≤ (itemT x).length ∧ (itemT x).length ≤ 2 * x.tn + 8 := by
  have h1 := typedT_len x h
  have h2 := repT_len x
  have h3 := negT_len x
  simp only [itemT, List.length_append]
  omega
/-- The sum of the first k. -/
def sumK (f : Nat → Nat) : Nat → Nat
  | 0 => 0
  | k + 1 => sumK f k + f k
theorem itemsT_len (f : Nat → Itm) : ∀ k, (∀ j, j < k → 0 < (f j).tn) → sumK (fun j => (f j).tn) k + k ≤ (itemsT f k).length ∧ (itemsT f k).length ≤ 2 * sumK (fun j => (f j).tn) k + 9 * k
  | 0, _ => ⟨Nat.le_refl _, Nat.le_refl _⟩
  | 1, h => by
    have := itemT_len (f 0) (h 0 (by omega))
    show 0 + (f 0).tn + 1 ≤ (itemT (f 0)).length ∧ (itemT (f 0)).length ≤ 2 * (0 + (f 0).tn) + 9 * 1
    omega
  | k + 2, h => by
    have h1 := itemsT_len f (k + 1) (fun j hj => h j (by omega))
    have h2 := itemT_len (f (k + 1)) (h (k + 1) (by omega))
    rw [itemsT_succ f (k + 1) (Nat.succ_pos _), List.length_append, List.length_cons]
    have e : sumK (fun j => (f j).tn) (k + 2) = sumK (fun j => (f j).tn) (k + 1) + (f (k + 1)).tn := rfl
    omega
theorem retsT_len (T : Nat → Tr) (ln : Nat → Nat) : ∀ k, (∀ j, j < k → (T j).sz ≤ ln j ∧ ln j ≤ (T j).toks.length) → sumK ln k ≤ (retsT T k).length ∧ (retsT T k).length ≤ 8 * sumK ln k
  | 0, _ => ⟨Nat.le_refl _, Nat.le_refl _⟩
  | k + 1, h => by
    have h1 := retsT_len T ln k (fun j hj => h j (by omega))
    have h2 := h k (by omega)
    have h3 := toks_len (T k)
    show sumK ln k + ln k ≤ (retsT T k ++ (mkT (if k = 0 then 40 else 7) :: (T k).toks)).length ∧ (retsT T k ++ (mkT (if k = 0 then 40 else 7) :: (T k).toks)).length ≤ 8 * (sumK ln k + ln k)
    rw [List.length_append, List.length_cons]
    omega
/-! ### More of what is written -/
section
variable {L L1 P Q : List Tk} {d d1 o p q : Nat}
/-- What is full stays so, whatever else was to be written. -/
theorem Wrote.more (h : Wrote L L1 d d1 o P p) (hf : 400 < L1.length) (Q : List Tk) (q : Nat) : Wrote L L1 d d1 o (P ++ Q) (max p q) := by
  obtain ⟨a1, a2, a3, a4, a5⟩ := h
  refine ⟨by rw [List.length_append]; omega, by omega, a3, fun h => ?_, fun _ => hf⟩
  rw [List.length_append] at h
  omega
theorem Wrote.put (h : Wrote L L1 d d1 o P p) (ho : o ≤ d1) (Q : List Tk) : Wrote L (L1 ++ Q) d d1 o (P ++ Q) p := by
  have := h.trans (Wrote.add (L := L1) ho Q)
  rwa [Nat.max_zero] at this
end
end Go.Proofs.YtfcdkadblagijaaDoor

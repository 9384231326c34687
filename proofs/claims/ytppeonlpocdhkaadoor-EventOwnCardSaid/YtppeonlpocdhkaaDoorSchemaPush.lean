/-
  A schema of the call's own that grows: a type more, an attribute more.
-/
import Derived.Test.YtppeonlpocdhkaaDoorSchemaSet
import Derived.Test.YtppeonlpocdhkaaDoorSchemaText
namespace Go.Proofs.YtppeonlpocdhkaaDoor
open Go.RowKit Go.ChangeShapes Go.WideShapes Go.Deep Go.Joins
/-- Two schemas that say the same. -/
def SchEq (S S' : Sch) : Prop := S.n = S'.n ∧ ∀ i, i < S.n → S.nm i = S'.nm i ∧ S.ln i = S'.ln i ∧ ∀ j, j < S.ln i → S.atr i j = S'.atr i j
theorem strCells_congr {f f' : Nat → ByteArray} {n : Nat} (h : ∀ j, j < n → f j = f' j) : strCells f n = strCells f' n := by
  unfold strCells
  exact List.map_congr_left fun j hj => by rw [h j (by simpa using hj)]
theorem rowCells_congr2 {nm nm' : Nat → ByteArray} {sl : Nat → Value} {n : Nat} (h : ∀ j, j < n → nm j = nm' j) : rowCells nm sl n = rowCells nm' sl n := by
  induction n with
  | zero => rfl
  | succ n ih => rw [rowCells_succ, rowCells_succ, ih (fun j hj => h j (by omega)), h n (by omega)]
theorem rowCells_set2 (nm : Nat → ByteArray) (sl : Nat → Value) (n j : Nat) (u : Value) : (rowCells nm sl n).set (j * 2 + 1) u = rowCells nm (upd sl j u) n := by
  induction n with
  | zero => rfl
  | succ n ih =>
    rw [rowCells_succ, rowCells_succ, List.set_append, rowCells_length, ← ih]
    by_cases h : j < n
    · rw [if_pos (by omega)]
      have : upd sl j u n = sl n := if_neg (by omega)
      rw [this]
    · rw [if_neg (by omega)]
      have e0 : (rowCells nm sl n).set (j * 2 + 1) u = rowCells nm sl n := List.set_eq_of_length_le (by rw [rowCells_length]; omega)
      rw [e0]
      congr 1
      by_cases e : j = n
      · subst e
        rw [show j * 2 + 1 - j * 2 = 1 by omega]
        simp [upd]
      · have : upd sl j u n = sl n := if_neg (by omega)
        rw [this]
        exact List.set_eq_of_length_le (by simp; omega)
section
variable {w w1 : World} {B c g : Nat} {v : Value} {A : Option Addr} {S S' : Sch}
theorem TypOwn.congr (h : TypOwn w B v S) (e : SchEq S S') : TypOwn w B v S' := by
  obtain ⟨hn, sl, h1, h2, h3⟩ := h
  obtain ⟨e0, e1⟩ := e
  refine ⟨by rw [← e0]; exact hn, sl, ?_, fun j hj => ?_, fun i j hij hj => h3 i j hij (by omega)⟩
  · rw [← e0, ← rowCells_congr2 (fun j hj => (e1 j hj).1)]
    exact h1
  · obtain ⟨_, e2, e3⟩ := e1 j (by omega)
    obtain ⟨k1, k2⟩ := h2 j (by omega)
    rw [← e2, ← strCells_congr e3]
    exact ⟨k1, k2⟩
/-- A type more, without attributes. -/
theorem TypOwn.snoc (h : TypOwn w B v S) : ∃ xs, w.ownsRow B 40 2 v S.n xs ∧ ∀ (w1 : World) (g cap : Nat) (nm : ByteArray), (S.n + 1) * 40 ≤ 140737488351232 →
    w1.ownsRow B 40 2 (.slice (some ⟨g, 0, none⟩) (S.n + 1) cap) (S.n + 1) (xs ++ [.string nm, .slice none 0 0]) → w.grownBy w1 v.ownBlock →
    TypOwn w1 B (.slice (some ⟨g, 0, none⟩) (S.n + 1) cap) ⟨S.n + 1, upd S.nm S.n nm, upd S.ln S.n 0, S.atr⟩ := by
  obtain ⟨hn, sl, h1, h2, h3⟩ := h
  refine ⟨_, h1, fun w1 g cap nm hk hown hg => ?_⟩
  refine ⟨hk, upd sl S.n (.slice none 0 0), ?_, fun j hj => ?_, fun i j hij hj => ?_⟩
  · have e : rowCells (upd S.nm S.n nm) (upd sl S.n (.slice none 0 0)) (S.n + 1) = rowCells S.nm sl S.n ++ [.string nm, .slice none 0 0] := by
      have a1 : ∀ j, j < S.n → upd sl S.n (.slice none 0 0) j = sl j := fun j hj => if_neg (by omega)
      have a2 : ∀ j, j < S.n → upd S.nm S.n nm j = S.nm j := fun j hj => if_neg (by omega)
      rw [rowCells_succ, rowCells_congr a1, rowCells_congr2 a2]
      simp [upd]
    show World.ownsRow _ B _ 2 _ (S.n + 1) (rowCells _ _ (S.n + 1))
    rw [e]
    exact hown
  · show upd S.ln S.n 0 j * 16 ≤ _ ∧ World.ownsRow _ B _ 1 (upd sl S.n (.slice none 0 0) j) (upd S.ln S.n 0 j) (strCells (S.atr j) (upd S.ln S.n 0 j))
    have hj' : j < S.n + 1 := hj
    by_cases e : j = S.n
    · subst e
      simp only [upd, if_pos]
      exact ⟨by omega, World.ownsRow_nil _ _ _ _⟩
    · simp only [upd, if_neg e]
      obtain ⟨k1, k2⟩ := h2 j (by omega)
      exact ⟨k1, own_kept k2 hg (fun x hx => own_type_ne h1 k2 (by decide) hx)⟩
  · show (upd sl S.n (.slice none 0 0) i).ownBlock = none ∨ (upd sl S.n (.slice none 0 0) i).ownBlock ≠ (upd sl S.n (.slice none 0 0) j).ownBlock
    have hj' : j < S.n + 1 := hj
    by_cases e : j = S.n
    · cases hb : (upd sl S.n (.slice none 0 0) i).ownBlock with
      | none => exact Or.inl rfl
      | some x =>
        right
        simp [upd, e, Value.ownBlock]
    · have e1 : upd sl S.n (.slice none 0 0) i = sl i := if_neg (by omega)
      have e2 : upd sl S.n (.slice none 0 0) j = sl j := if_neg e
      rw [e1, e2]
      exact h3 i j hij (by omega)
/-- An attribute more, of type j. -/
theorem TypOwn.push {j : Nat} (h : TypOwn w B (.slice (some ⟨g, 0, none⟩) S.n c) S) (hj : j < S.n) : ∃ tv, w.cell? ⟨g, j * 2 + 1, none⟩ = some tv ∧ w.frozen? ⟨g, j * 2 + 1, none⟩ = false ∧ w.ownsRow B 9 1 tv (S.ln j) (strCells (S.atr j) (S.ln j)) ∧ tv.ownBlock ≠ some g ∧
    ∀ (w1 : World) (g2 cap : Nat) (x : ByteArray), (S.ln j + 1) * 16 ≤ 140737488351232 →
      w1.ownsRow B 9 1 (.slice (some ⟨g2, 0, none⟩) (S.ln j + 1) cap) (S.ln j + 1) (strCells (S.atr j) (S.ln j) ++ [.string x]) → w.grownBy w1 tv.ownBlock → (tv.ownBlock = some g2 ∨ w.heap.size ≤ g2) →
      TypOwn (w1.setCell ⟨g, j * 2 + 1, none⟩ (.slice (some ⟨g2, 0, none⟩) (S.ln j + 1) cap)) B (.slice (some ⟨g, 0, none⟩) S.n c) ⟨S.n, S.nm, upd S.ln j (S.ln j + 1), upd S.atr j (upd (S.atr j) (S.ln j) x)⟩ := by
  obtain ⟨hn, sl, h1, h2, h3⟩ := h
  obtain ⟨hl, h4⟩ := h2 j hj
  have hne : (sl j).ownBlock ≠ some g := fun e => own_type_ne h4 h1 (by decide) e rfl
  refine ⟨sl j, by rw [h1.cellAt (j * 2 + 1) (by omega), (rowCells_at S.nm sl hj).2], h1.frozenAt _, h4, hne, fun w1 g2 cap x hk hown hg hat => ?_⟩
  have h1' : w1.ownsRow B 40 2 (.slice (some ⟨g, 0, none⟩) S.n c) S.n (rowCells S.nm sl S.n) := own_kept h1 hg (fun y hy => own_type_ne h4 h1 (by decide) hy)
  obtain ⟨k1, k2⟩ := h1'.stored (j * 2 + 1) (.slice (some ⟨g2, 0, none⟩) (S.ln j + 1) cap)
  rw [rowCells_set2] at k1
  have far : ∀ i, i < S.n → i ≠ j → (sl i).ownBlock = none ∨ (sl i).ownBlock ≠ (sl j).ownBlock := by
    intro i hi hij
    rcases Nat.lt_or_gt_of_ne hij with hlt | hgt
    · exact h3 i j hlt hj
    · rcases h3 j i hgt hi with h | h
      · cases hb : (sl i).ownBlock with
        | none => exact Or.inl rfl
        | some y => right; rw [h]; simp
      · exact Or.inr (Ne.symm h)
  refine ⟨hn, upd sl j (.slice (some ⟨g2, 0, none⟩) (S.ln j + 1) cap), k1, fun i hi => ?_, fun i i' hii hi' => ?_⟩
  · show upd S.ln j (S.ln j + 1) i * 16 ≤ _ ∧ World.ownsRow _ B _ 1 (upd sl j _ i) (upd S.ln j (S.ln j + 1) i) (strCells (upd S.atr j (upd (S.atr j) (S.ln j) x) i) (upd S.ln j (S.ln j + 1) i))
    have hi' : i < S.n := hi
    by_cases e : i = j
    · subst e
      have u1 : upd S.ln i (S.ln i + 1) i = S.ln i + 1 := if_pos rfl
      have u2 : upd S.atr i (upd (S.atr i) (S.ln i) x) i = upd (S.atr i) (S.ln i) x := if_pos rfl
      have u3 : upd sl i (.slice (some ⟨g2, 0, none⟩) (S.ln i + 1) cap) i = .slice (some ⟨g2, 0, none⟩) (S.ln i + 1) cap := if_pos rfl
      rw [u1, u2, u3]
      refine ⟨hk, ?_⟩
      have a1 : ∀ k, k < S.ln i → upd (S.atr i) (S.ln i) x k = S.atr i k := fun k hk => if_neg (by omega)
      have e2 : strCells (upd (S.atr i) (S.ln i) x) (S.ln i + 1) = strCells (S.atr i) (S.ln i) ++ [.string x] := by
        rw [strCells_succ, strCells_congr a1]
        simp [upd]
      rw [e2]
      exact own_far hown (fun e => own_type_ne hown h1' (by decide) e rfl) _
    · simp only [upd, if_neg e]
      obtain ⟨m1, m2⟩ := h2 i hi'
      refine ⟨m1, own_far (own_kept m2 hg ?_) (fun e => own_type_ne m2 h1 (by decide) e rfl) _⟩
      intro y hy
      rcases far i hi' e with h | h
      · rw [h]; simp
      · rw [← hy]; exact h
  · show (upd sl j _ i).ownBlock = none ∨ (upd sl j _ i).ownBlock ≠ (upd sl j _ i').ownBlock
    have hi2 : i' < S.n := hi'
    have new : ∀ k, k < S.n → k ≠ j → (sl k).ownBlock ≠ some g2 := by
      intro k hk hkj e
      rcases hat with ha | ha
      · rcases far k hk hkj with h | h
        · rw [h] at e; cases e
        · rw [e, ha] at h; exact h rfl
      · have := ((h2 k hk).2.lt g2 e).2
        omega
    by_cases e : i = j
    · subst e
      have e2 : i' ≠ i := by omega
      right
      simp only [upd, if_true, if_neg e2]
      exact Ne.symm (new i' hi2 e2)
    · by_cases e2 : i' = j
      · subst e2
        right
        simp only [upd, if_true, if_neg e]
        exact new i (by omega) e
      · simp only [upd, if_neg e, if_neg e2]
        exact h3 i i' hii hi2
end
/-! ### The types of a reading, as schemas -/
theorem schOf_snoc (ts : TList) (nm : ByteArray) : SchEq ⟨(schOf ts).n + 1, upd (schOf ts).nm (schOf ts).n nm, upd (schOf ts).ln (schOf ts).n 0, (schOf ts).atr⟩ (schOf (ts ++ [(nm, [])])) := by
  refine ⟨by simp [schOf], fun i hi => ?_⟩
  have hi' : i < ts.length + 1 := hi
  simp only [schOf, nmOf, atsOf, upd]
  by_cases e : i = ts.length
  · subst e
    simp
  · have h1 : i < ts.length := by omega
    simp only [if_neg e, List.getD_eq_getElem?_getD, List.getElem?_append_left h1]
    exact ⟨trivial, trivial, fun _ _ => trivial⟩
theorem schOf_push (ts : TList) (nm : ByteArray) (l : List ByteArray) (x : ByteArray) :
    SchEq ⟨(schOf (ts ++ [(nm, l)])).n, (schOf (ts ++ [(nm, l)])).nm, upd (schOf (ts ++ [(nm, l)])).ln ts.length (l.length + 1), upd (schOf (ts ++ [(nm, l)])).atr ts.length (upd ((schOf (ts ++ [(nm, l)])).atr ts.length) l.length x)⟩ (schOf (ts ++ [(nm, l ++ [x])])) := by
  refine ⟨by simp [schOf], fun i hi => ?_⟩
  have hi' : i < ts.length + 1 := by simpa [schOf] using hi
  simp only [schOf, nmOf, atsOf, upd]
  by_cases e : i = ts.length
  · subst e
    simp only [List.getD_eq_getElem?_getD]
    simp
    intro j hj
    by_cases e2 : j = l.length
    · subst e2; simp [upd]
    · have : upd (fun j => l[j]?.getD ByteArray.empty) l.length x j = l[j]?.getD ByteArray.empty := if_neg e2
      rw [this, List.getElem?_append_left (by omega)]
  · have h1 : i < ts.length := by omega
    simp only [if_neg e, List.getD_eq_getElem?_getD, List.getElem?_append_left h1]
    exact ⟨trivial, trivial, fun _ _ => trivial⟩
theorem schOf_last (ts : TList) (nm : ByteArray) (l : List ByteArray) : (schOf (ts ++ [(nm, l)])).ln ts.length = l.length ∧ (schOf (ts ++ [(nm, l)])).n = ts.length + 1 ∧ (∀ j, (schOf (ts ++ [(nm, l)])).atr ts.length j = l.getD j .empty) := by
  simp [schOf, atsOf]
end Go.Proofs.YtppeonlpocdhkaaDoor

/-
  Writing into a schema of the call's own.
-/
import Derived.Test.YtppeonlpocdhkaaDoorSchemaOwn
namespace Go.Proofs.YtppeonlpocdhkaaDoor
open Go.RowKit Go.ChangeShapes Go.WideShapes Go.Deep Go.Joins
/-- f, but x at j. -/
def upd {α : Type} (f : Nat → α) (j : Nat) (x : α) : Nat → α := fun i => if i = j then x else f i
theorem strCells_set (f : Nat → ByteArray) (n j : Nat) (s : ByteArray) : (strCells f n).set j (.string s) = strCells (upd f j s) n := by
  apply List.ext_getElem?
  intro i
  by_cases hi : i < n
  · rw [strCells_at _ hi, List.getElem?_set]
    by_cases e : j = i
    · subst e; simp [hi, strCells, upd]
    · rw [if_neg e, strCells_at _ hi]; simp [upd, Ne.symm e]
  · rw [List.getElem?_eq_none (by simp [strCells]; omega), List.getElem?_eq_none (by simp [strCells]; omega)]
theorem rowCells_set (nm : Nat → ByteArray) (sl : Nat → Value) (n j : Nat) (s : ByteArray) : (rowCells nm sl n).set (j * 2) (.string s) = rowCells (upd nm j s) sl n := by
  induction n with
  | zero => rfl
  | succ n ih =>
    rw [rowCells_succ, rowCells_succ, List.set_append, rowCells_length, ← ih]
    by_cases h : j < n
    · rw [if_pos (by omega)]
      have : upd nm j s n = nm n := if_neg (by omega)
      rw [this]
    · rw [if_neg (by omega)]
      have e0 : (rowCells nm sl n).set (j * 2) (.string s) = rowCells nm sl n := List.set_eq_of_length_le (by rw [rowCells_length]; omega)
      rw [e0]
      congr 1
      by_cases e : j = n
      · subst e; rw [Nat.sub_self]; simp [upd]
      · have : upd nm j s n = nm n := if_neg (by omega)
        rw [this]
        exact List.set_eq_of_length_le (by simp; omega)
section
variable {w : World} {B c : Nat} {A : Option Addr} {S : Sch}
/-- The types' row of a schema of the call's own that has a type. -/
theorem TypOwn.row (h : TypOwn w B (.slice A S.n c) S) (h0 : 0 < S.n) : ∃ g, A = some ⟨g, 0, none⟩ ∧ B ≤ g ∧ g < w.heap.size ∧
    (∀ j, j < S.n → w.cell? ⟨g, j * 2, none⟩ = some (.string (S.nm j)) ∧ w.frozen? ⟨g, j * 2, none⟩ = false) ∧
    ∀ j s, TypOwn (w.setCell ⟨g, j * 2, none⟩ (.string s)) B (.slice A S.n c) { S with nm := upd S.nm j s } := by
  obtain ⟨hn, sl, h1, h2, h3⟩ := h
  obtain ⟨g, cap, hv, hB, hlt⟩ := h1.form h0
  injection hv with hA _ hc
  subst hA hc
  refine ⟨g, rfl, hB, hlt, fun j hj => ⟨by rw [h1.cellAt (j * 2) (by omega), (rowCells_at S.nm sl hj).1], h1.frozenAt _⟩, fun j s => ?_⟩
  obtain ⟨k1, k2⟩ := h1.stored (j * 2) (.string s)
  rw [rowCells_set] at k1
  refine ⟨hn, sl, k1, fun i hi => ⟨(h2 i hi).1, ?_⟩, h3⟩
  exact own_kept (h2 i hi).2 k2 (fun x hx => own_type_ne h1 (h2 i hi).2 (by decide) hx)
theorem TypOwn.setName {g : Nat} (h : TypOwn w B (.slice (some ⟨g, 0, none⟩) S.n c) S) (h0 : 0 < S.n) (j : Nat) (s : ByteArray) : TypOwn (w.setCell ⟨g, j * 2, none⟩ (.string s)) B (.slice (some ⟨g, 0, none⟩) S.n c) { S with nm := upd S.nm j s } := by
  obtain ⟨g', e, _, _, _, hs⟩ := h.row h0
  injection e with e
  injection e with e
  subst e
  exact hs j s
theorem TypOwn.drew {v : Value} (h : TypOwn w B v S) : TypOwn w.drew B v S := h
/-- A cell that holds something else than the one that is written stays. -/
theorem cell_keep {w : World} {p q : Addr} {v u : Value} (h : w.cell? p = some v) (hq : w.cell? q = some u) (huv : u ≠ v) (x : Value) : (w.setCell q x).cell? p = some v := by
  rw [World.cell?_setCell_other]
  · exact h
  · rintro rfl
    rw [h] at hq
    injection hq with hq
    exact huv hq.symm
/-- The attributes of type j. -/
theorem TypOwn.attrs {g : Nat} (h : TypOwn w B (.slice (some ⟨g, 0, none⟩) S.n c) S) {j : Nat} (hj : j < S.n) : ∃ aa ac, w.cell? ⟨g, j * 2 + 1, none⟩ = some (.slice aa (S.ln j) ac) ∧ S.ln j * 16 ≤ 140737488351232 ∧
    (0 < S.ln j → ∃ g2, aa = some ⟨g2, 0, none⟩ ∧ B ≤ g2 ∧ g2 < w.heap.size ∧ g2 ≠ g ∧
      (∀ k, k < S.ln j → w.cell? ⟨g2, k, none⟩ = some (.string (S.atr j k)) ∧ w.frozen? ⟨g2, k, none⟩ = false) ∧
      ∀ k s, TypOwn (w.setCell ⟨g2, k, none⟩ (.string s)) B (.slice (some ⟨g, 0, none⟩) S.n c) { S with atr := upd S.atr j (upd (S.atr j) k s) }) := by
  obtain ⟨hn, sl, h1, h2, h3⟩ := h
  obtain ⟨hl, h4⟩ := h2 j hj
  obtain ⟨aa, ac, e⟩ := own_shape h4
  refine ⟨aa, ac, by rw [h1.cellAt (j * 2 + 1) (by omega), (rowCells_at S.nm sl hj).2, e], hl, fun h0 => ?_⟩
  rw [e] at h4
  obtain ⟨g2, cap, hv, hB, hlt⟩ := h4.form h0
  injection hv with hA _ hc
  subst hA hc
  have hne : g2 ≠ g := fun e => by
    subst e
    exact own_type_ne h1 h4 (by decide) rfl rfl
  refine ⟨g2, rfl, hB, hlt, hne, fun k hk => ⟨by rw [h4.cellAt k (by omega), strCells_at _ hk], h4.frozenAt _⟩, fun k s => ?_⟩
  obtain ⟨k1, k2⟩ := h4.stored k (.string s)
  rw [strCells_set] at k1
  refine ⟨hn, sl, own_kept h1 k2 (fun x hx => ?_), fun i hi => ⟨(h2 i hi).1, ?_⟩, h3⟩
  · injection hx with hx
    subst hx
    exact own_type_ne h4 h1 (by decide) rfl
  · show World.ownsRow _ B _ 1 (sl i) (S.ln i) (strCells (upd S.atr j (upd (S.atr j) k s) i) (S.ln i))
    by_cases ei : i = j
    · subst ei
      rw [e]
      have : upd S.atr i (upd (S.atr i) k s) i = upd (S.atr i) k s := if_pos rfl
      rw [this]
      exact k1
    · have : upd S.atr j (upd (S.atr j) k s) i = S.atr i := if_neg ei
      rw [this]
      have h5 := (h2 i hi).2
      refine own_kept h5 k2 (fun x hx => ?_)
      injection hx with hx
      subst hx
      have hd : (sl i).ownBlock = none ∨ (sl i).ownBlock ≠ (sl j).ownBlock := by
        rcases Nat.lt_or_gt_of_ne ei with hlt | hgt
        · exact h3 i j hlt hj
        · rcases h3 j i hgt hi with h | h
          · rw [e] at h; cases h
          · exact Or.inr (Ne.symm h)
      rcases hd with hd | hd
      · rw [hd]; simp
      · intro h6
        apply hd
        rw [h6, e]
        rfl
theorem TypOwn.setAttr {g g2 ac : Nat} (h : TypOwn w B (.slice (some ⟨g, 0, none⟩) S.n c) S) {j : Nat} (hj : j < S.n) (hc : w.cell? ⟨g, j * 2 + 1, none⟩ = some (.slice (some ⟨g2, 0, none⟩) (S.ln j) ac)) (h0 : 0 < S.ln j) (k : Nat) (s : ByteArray) :
    TypOwn (w.setCell ⟨g2, k, none⟩ (.string s)) B (.slice (some ⟨g, 0, none⟩) S.n c) { S with atr := upd S.atr j (upd (S.atr j) k s) } := by
  obtain ⟨aa, ac', hc', _, h2⟩ := h.attrs hj
  obtain ⟨g', e, _, _, _, _, hs⟩ := h2 h0
  rw [hc] at hc'
  injection hc' with hc'
  injection hc' with hc' _ _
  rw [e] at hc'
  injection hc' with hc'
  injection hc' with hc'
  subst hc'
  exact hs k s
end
end Go.Proofs.YtppeonlpocdhkaaDoor

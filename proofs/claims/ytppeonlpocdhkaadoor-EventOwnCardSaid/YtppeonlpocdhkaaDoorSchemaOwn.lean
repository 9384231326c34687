/-
  A schema of the call's own: rows that may be written.
-/
import Derived.Test.YtppeonlpocdhkaaDoorSchemaRd
import Derived.Test.YtppeonlpocdhkaaDoorMem
import Derived.Deep.AppendLies
import Derived.Laws.OwnMore
import Derived.Lib.OwnKind
import Derived.Maps.RangeWalk
namespace Go.Proofs.YtppeonlpocdhkaaDoor
open Go.RowKit Go.ChangeShapes Go.WideShapes Go.Deep Go.Joins
theorem infoStr : (Tryd.prog.info? 9).map (fun i => (i.zero, i.size, i.bytes)) = some (some (.string .empty), 1, 16) := by kernel_rfl
theorem infoType : (Tryd.prog.info? 40).map (fun i => (i.zero, i.size, i.bytes)) = some (some (.agg #[.string .empty, .slice none 0 0]), 2, 40) := by kernel_rfl
/-- What a cell holds (for a region that loads a cell and stores into it at its end). -/
def cellOr (w : World) (p : Addr) : Value := (w.cell? p).getD undef
theorem cellOr_of {w : World} {p : Addr} {v : Value} (h : w.cell? p = some v) : w.cell? p = some (cellOr w p) := by simp [cellOr, h]
theorem cellOr_eq {w : World} {p : Addr} {v : Value} (h : w.cell? p = some v) : cellOr w p = v := by simp [cellOr, h]
theorem frozen_alloc {w : World} {p : Addr} (hp : p.block < w.heap.size) (h : w.frozen? p = false) (o : Obj) : (w.alloc o).frozen? p = false := (World.frozen?_alloc_old w o p (Nat.ne_of_lt hp)).trans h
def strCells (f : Nat → ByteArray) (n : Nat) : List Value := (List.range n).map fun j => .string (f j)
def rowCells (nm : Nat → ByteArray) (sl : Nat → Value) (n : Nat) : List Value := (List.range n).flatMap fun j => [.string (nm j), sl j]
theorem strCells_succ (f : Nat → ByteArray) (n : Nat) : strCells f (n + 1) = strCells f n ++ [.string (f n)] := by simp [strCells, List.range_succ]
theorem rowCells_succ (nm : Nat → ByteArray) (sl : Nat → Value) (n : Nat) : rowCells nm sl (n + 1) = rowCells nm sl n ++ [.string (nm n), sl n] := by simp [rowCells, List.range_succ]
theorem rowCells_length (nm : Nat → ByteArray) (sl : Nat → Value) (n : Nat) : (rowCells nm sl n).length = n * 2 := by
  induction n with
  | zero => rfl
  | succ n ih => rw [rowCells_succ, List.length_append, ih]; simp; omega
theorem rowCells_congr {nm : Nat → ByteArray} {sl sl' : Nat → Value} {n : Nat} (h : ∀ j, j < n → sl j = sl' j) : rowCells nm sl n = rowCells nm sl' n := by
  induction n with
  | zero => rfl
  | succ n ih => rw [rowCells_succ, rowCells_succ, ih (fun j hj => h j (by omega)), h n (by omega)]
theorem strCells_at (f : Nat → ByteArray) {n j : Nat} (h : j < n) : (strCells f n)[j]? = some (.string (f j)) := by simp [strCells, h]
theorem rowCells_at (nm : Nat → ByteArray) (sl : Nat → Value) {n j : Nat} (h : j < n) : (rowCells nm sl n)[j * 2]? = some (.string (nm j)) ∧ (rowCells nm sl n)[j * 2 + 1]? = some (sl j) := by
  induction n with
  | zero => omega
  | succ n ih =>
    rw [rowCells_succ]
    have hl := rowCells_length nm sl n
    by_cases e : j = n
    · subst e
      rw [List.getElem?_append_right (by omega), List.getElem?_append_right (by omega), hl]
      constructor
      · rw [Nat.sub_self]; rfl
      · rw [show j * 2 + 1 - j * 2 = 1 by omega]; rfl
    · obtain ⟨h1, h2⟩ := ih (by omega)
      rw [List.getElem?_append_left (by omega), List.getElem?_append_left (by omega)]
      exact ⟨h1, h2⟩
/-- A list of types of the call's own. -/
def TypOwn (w : World) (B : Nat) (v : Value) (S : Sch) : Prop :=
  S.n * 40 ≤ 140737488351232 ∧ ∃ sl, w.ownsRow B 40 2 v S.n (rowCells S.nm sl S.n) ∧ (∀ j, j < S.n → S.ln j * 16 ≤ 140737488351232 ∧ w.ownsRow B 9 1 (sl j) (S.ln j) (strCells (S.atr j) (S.ln j))) ∧
    ∀ i j, i < j → j < S.n → (sl i).ownBlock = none ∨ (sl i).ownBlock ≠ (sl j).ownBlock
section
variable {w w' : World} {B base size n : Nat} {e : TypeId} {v : Value} {xs : List Value} {S : Sch}
theorem own_below (h : w.ownsRow B e size v n xs) (hb : Below w.heap.size w w') : w'.ownsRow B e size v n xs := by
  refine h.kept (row := none) ⟨hb.os, hb.tape, hb.output, hb.size, fun i hi _ => hb.block i hi⟩ ?_
  cases v.ownBlock <;> simp
theorem own_ne (h : w.ownsRow B e size v n xs) {x : Nat} (hx : x < B) : v.ownBlock ≠ some x := fun hv => by
  have := (h.lt x hv).1
  omega
theorem own_kept {row : Option Nat} (h : w.ownsRow B e size v n xs) (hg : w.grownBy w' row) (hne : ∀ g, row = some g → v.ownBlock ≠ some g) : w'.ownsRow B e size v n xs := by
  refine h.kept hg ?_
  cases hr : row with
  | none => cases v.ownBlock <;> simp
  | some g => right; exact hne g hr
theorem own_type_ne {e' : TypeId} {B' size' n' : Nat} {v' : Value} {xs' : List Value} (h : w.ownsRow B e size v n xs) (h' : w.ownsRow B' e' size' v' n' xs') (he : e ≠ e') {g : Nat} (hg : v.ownBlock = some g) : v'.ownBlock ≠ some g := by
  intro hg'
  obtain ⟨c, fz, h1⟩ := Lib.ownsRow_kind h g hg
  obtain ⟨c', fz', h2⟩ := Lib.ownsRow_kind h' g hg'
  rw [h1] at h2
  injection h2 with h2
  injection h2 with _ h2
  exact he h2
theorem own_far {g i : Nat} (h : w.ownsRow B e size v n xs) (hg : v.ownBlock ≠ some g) (u : Value) : (w.setCell ⟨g, i, none⟩ u).ownsRow B e size v n xs := by
  refine h.kept (row := some g) ⟨rfl, rfl, rfl, by simp, fun k _ hk => Below.heap_setCell w _ u k (fun e => hk (by rw [e]))⟩ (Or.inr hg)
theorem own_shape (h : w.ownsRow B e size v n xs) : ∃ A c, v = .slice A n c := by
  rcases ownsRow_forms h with ⟨rfl, rfl⟩ | ⟨g, cap, rfl⟩
  · exact ⟨none, 0, rfl⟩
  · exact ⟨_, _, rfl⟩
theorem own_str {A : Option Addr} {c : Nat} {f : Nat → ByteArray} (h : w.ownsRow B e 1 (.slice A n c) n (strCells f n)) (hn : n * 16 ≤ 140737488351232) : StrRd w w.heap.size A n f := by
  refine ⟨hn, fun h0 => ?_⟩
  obtain ⟨g, cap, hv, hB, hlt⟩ := h.form (by omega)
  injection hv with hA _ hc
  subst hA hc
  exact ⟨g, 0, rfl, hlt, fun j hj => by rw [Nat.zero_add, h.cellAt j (by omega), strCells_at f hj]⟩
theorem TypOwn.shape (h : TypOwn w B v S) : ∃ A c, v = .slice A S.n c := by
  obtain ⟨_, sl, h1, _⟩ := h
  exact own_shape h1
theorem TypOwn.rd {A : Option Addr} {c : Nat} (h : TypOwn w B (.slice A S.n c) S) : TypRd w w.heap.size A S := by
  obtain ⟨hn, sl, h1, h2, _⟩ := h
  refine ⟨hn, fun h0 => ?_⟩
  obtain ⟨g, cap, hv, hB, hlt⟩ := h1.form (by omega)
  injection hv with hA _ hc
  subst hA hc
  refine ⟨g, 0, rfl, hlt, fun j hj => ?_⟩
  obtain ⟨r1, r2⟩ := rowCells_at S.nm sl hj
  obtain ⟨hl, h3⟩ := h2 j hj
  obtain ⟨aa, ac, e⟩ := own_shape h3
  refine ⟨by rw [Nat.zero_add, h1.cellAt (j * 2) (by omega), r1], aa, ac, by rw [Nat.zero_add, h1.cellAt (j * 2 + 1) (by omega), r2, e], ?_⟩
  rw [e] at h3
  exact own_str h3 hl
theorem TypOwn.set_below (h : TypOwn w B v S) {p : Addr} (hp : p.block < B) (u : Value) : TypOwn (w.setCell p u) B v S := by
  obtain ⟨hn, sl, h1, h2, h3⟩ := h
  exact ⟨hn, sl, ownsRow_setCell_below h1 hp u, fun j hj => ⟨(h2 j hj).1, ownsRow_setCell_below (h2 j hj).2 hp u⟩, h3⟩
theorem TypOwn.mono {B' : Nat} (h : TypOwn w B v S) (hB : B' ≤ B) : TypOwn w B' v S := by
  obtain ⟨hn, sl, h1, h2, h3⟩ := h
  exact ⟨hn, sl, ownsRow_le h1 hB, fun j hj => ⟨(h2 j hj).1, ownsRow_le (h2 j hj).2 hB⟩, h3⟩
theorem own_one {A : Option Addr} {n c : Nat} : (Value.slice A n c).oneCell' = true := rfl
theorem own_oneCell (h : w.ownsRow B e size v n xs) : v.oneCell' = true := by
  obtain ⟨A, c, rfl⟩ := own_shape h
  rfl
/-- One type more. -/
theorem TypOwn.more {w w1 : World} {base g cap k : Nat} {ov tv : Value} {nm : Nat → ByteArray} {ln : Nat → Nat} {at_ : Nat → Nat → ByteArray} {sl : Nat → Value} {W1 : World} {n0 : Nat} {p : Addr} {u : Value}
    (hk : (k + 1) * 40 ≤ 140737488351232) (hln : ln k * 16 ≤ 140737488351232)
    (hrow : W1.ownsRow base 40 2 ov k (rowCells nm sl k)) (hattr : ∀ j, j < k → ln j * 16 ≤ 140737488351232 ∧ W1.ownsRow base 9 1 (sl j) (ln j) (strCells (at_ j) (ln j)))
    (hdist : ∀ i j, i < j → j < k → (sl i).ownBlock = none ∨ (sl i).ownBlock ≠ (sl j).ownBlock) (hb : Below W1.heap.size W1 w) (hn0 : W1.heap.size ≤ n0) (hbase : base ≤ n0)
    (ht : w.ownsRow n0 9 1 tv (ln k) (strCells (at_ k) (ln k))) (o : Obj)
    (hown : w1.ownsRow base 40 2 (.slice (some ⟨g, 0, none⟩) (k + 1) cap) (k + 1) (rowCells nm sl k ++ [.string (nm k), tv])) (hg : (w.alloc o).grownBy w1 ov.ownBlock) (hp : p.block < base) :
    TypOwn (w1.setCell p u) base (.slice (some ⟨g, 0, none⟩) (k + 1) cap) ⟨k + 1, nm, ln, at_⟩ := by
  have hrow2 : (w.alloc o).ownsRow base 40 2 ov k (rowCells nm sl k) := (own_below hrow hb).alloc o
  have keep : ∀ {B' : Nat} {v : Value} {n : Nat} {xs : List Value}, (w.alloc o).ownsRow B' 9 1 v n xs → w1.ownsRow B' 9 1 v n xs := fun h =>
    own_kept h hg (fun g hg => own_type_ne hrow2 h (by decide) hg)
  have ht1 : w1.ownsRow base 9 1 tv (ln k) (strCells (at_ k) (ln k)) := ownsRow_le (keep (ht.alloc o)) hbase
  refine ⟨hk, fun j => if j = k then tv else sl j, ?_, fun j hj => ?_, fun i j hij hj => ?_⟩
  · have e : rowCells nm (fun j => if j = k then tv else sl j) (k + 1) = rowCells nm sl k ++ [.string (nm k), tv] := by
      rw [rowCells_succ, if_pos rfl, rowCells_congr (sl' := sl) (fun j hj => if_neg (by omega))]
    show World.ownsRow _ base _ 2 _ (k + 1) (rowCells nm _ (k + 1))
    rw [e]
    exact ownsRow_setCell_below hown hp u
  · show ln j * 16 ≤ _ ∧ World.ownsRow _ base _ 1 (if j = k then tv else sl j) (ln j) (strCells (at_ j) (ln j))
    by_cases e : j = k
    · rw [if_pos e, e]
      exact ⟨hln, ownsRow_setCell_below ht1 hp u⟩
    · rw [if_neg e]
      have hj' : j < k := by have : j < k + 1 := hj; omega
      obtain ⟨h1, h2⟩ := hattr j hj'
      exact ⟨h1, ownsRow_setCell_below (keep ((own_below h2 hb).alloc o)) hp u⟩
  · have hj' : j < k + 1 := hj
    show (if i = k then tv else sl i).ownBlock = none ∨ (if i = k then tv else sl i).ownBlock ≠ (if j = k then tv else sl j).ownBlock
    rw [if_neg (by omega)]
    by_cases e : j = k
    · rw [if_pos e]
      cases hb1 : (sl i).ownBlock with
      | none => exact Or.inl rfl
      | some x =>
        right
        have h1 := ((hattr i (by omega)).2.lt x hb1).2
        intro h2
        have h3 := (ht.lt x h2.symm).1
        omega
    · rw [if_neg e]
      exact hdist i j hij (by omega)
theorem TypOwn.below (h : TypOwn w B v S) (hb : Below w.heap.size w w') : TypOwn w' B v S := by
  obtain ⟨hn, sl, h1, h2, h3⟩ := h
  exact ⟨hn, sl, own_below h1 hb, fun j hj => ⟨(h2 j hj).1, own_below (h2 j hj).2 hb⟩, h3⟩
end
end Go.Proofs.YtppeonlpocdhkaaDoor

/-
  Rows of the call's own, whatever their elements; a copy of a row by one append.
-/
import Derived.Test.YtfcdkadblagijaaDoorRd
import Derived.Deep.AppendLies
import Derived.Laws.OwnMore
import Derived.Laws.AppendOwnNone
import Derived.Lib.OwnKind
namespace Go.Proofs.YtfcdkadblagijaaDoor
open Go.RowKit Go.ChangeShapes Go.WideShapes Go.Deep
/-- The cells of n elements of sz cells each, one behind the other. -/
def flat (C : Nat → Nat → Value) (sz n : Nat) : List Value := (List.range (n * sz)).map fun k => C (k / sz) (k % sz)
theorem flat_length (C : Nat → Nat → Value) (sz n : Nat) : (flat C sz n).length = n * sz := by simp [flat]
theorem flat_at (C : Nat → Nat → Value) {sz n j i : Nat} (hj : j < n) (hi : i < sz) : (flat C sz n)[j * sz + i]? = some (C j i) := by
  have h1 : j * sz + i < n * sz := by
    have : (j + 1) * sz ≤ n * sz := Nat.mul_le_mul_right _ hj
    rw [Nat.succ_mul] at this
    omega
  have h2 : (j * sz + i) / sz = j := by rw [Nat.mul_comm, Nat.mul_add_div (by omega), Nat.div_eq_of_lt hi, Nat.add_zero]
  have h3 : (j * sz + i) % sz = i := by rw [Nat.mul_comm, Nat.mul_add_mod, Nat.mod_eq_of_lt hi]
  simp [flat, h1, h2, h3]
theorem flat_zero (C : Nat → Nat → Value) (sz : Nat) : flat C sz 0 = [] := by simp [flat]
theorem flat_ext {C : Nat → Nat → Value} {sz n : Nat} {l : List Value} (hl : l.length = n * sz) (h : ∀ j, j < n → ∀ i, i < sz → l[j * sz + i]? = some (C j i)) : l = flat C sz n := by
  apply List.ext_getElem?
  intro k
  by_cases hk : k < n * sz
  · have hs : 0 < sz := by
      rcases Nat.eq_zero_or_pos sz with e | e
      · subst e; omega
      · exact e
    have h1 : k / sz < n := (Nat.div_lt_iff_lt_mul hs).2 hk
    have h2 : k % sz < sz := Nat.mod_lt _ hs
    have e : k = k / sz * sz + k % sz := by rw [Nat.mul_comm]; exact (Nat.div_add_mod k sz).symm
    rw [e, h _ h1 _ h2, flat_at C h1 h2]
  · rw [List.getElem?_eq_none (by omega), List.getElem?_eq_none (by rw [flat_length]; omega)]
theorem flat_succ (C : Nat → Nat → Value) (sz n : Nat) : flat C sz (n + 1) = flat C sz n ++ (List.range sz).map (C n) := by
  symm
  apply flat_ext
  · rw [List.length_append, flat_length, List.length_map, List.length_range, Nat.succ_mul]
  · intro j hj i hi
    by_cases e : j = n
    · subst e
      rw [List.getElem?_append_right (by rw [flat_length]; omega), flat_length, Nat.add_sub_cancel_left]
      simp [hi]
    · have h1 : j < n := by omega
      have h2 : j * sz + i < n * sz := by
        have : (j + 1) * sz ≤ n * sz := Nat.mul_le_mul_right _ h1
        rw [Nat.succ_mul] at this
        omega
      rw [List.getElem?_append_left (by rw [flat_length]; exact h2), flat_at C h1 hi]
theorem flat_congr {C C' : Nat → Nat → Value} {sz n : Nat} (h : ∀ j, j < n → ∀ i, i < sz → C j i = C' j i) : flat C sz n = flat C' sz n :=
  flat_ext (flat_length C sz n) fun j hj i hi => by rw [flat_at C hj hi, h j hj i hi]
theorem flat_take (C : Nat → Nat → Value) {sz m n : Nat} (h : m ≤ n) : (flat C sz n).take (m * sz) = flat C sz m := by
  apply flat_ext
  · rw [List.length_take, flat_length, Nat.min_eq_left (Nat.mul_le_mul_right _ h)]
  · intro j hj i hi
    have h2 : j * sz + i < m * sz := by
      have : (j + 1) * sz ≤ m * sz := Nat.mul_le_mul_right _ hj
      rw [Nat.succ_mul] at this
      omega
    rw [List.getElem?_take_of_lt h2, flat_at C (by omega) hi]
section
variable {w w' : World} {B n sz bt : Nat} {e : TypeId} {v : Value} {C : Nat → Nat → Value} {xs : List Value}
theorem rowown_shape (h : w.ownsRow B e sz v n xs) : ∃ A c, v = .slice A n c ∧ n ≤ c ∧ (A = none → c = 0) := by
  rcases h.2 with ⟨rfl, rfl⟩ | ⟨g, cap, cur, rfl, _, _, hc, _⟩
  · exact ⟨none, 0, rfl, Nat.le_refl _, fun _ => rfl⟩
  · exact ⟨_, _, rfl, hc, fun h => by cases h⟩
theorem rowown_one (h : w.ownsRow B e sz v n xs) : v.oneCell' = true := by
  obtain ⟨A, c, rfl, _⟩ := rowown_shape h
  rfl
theorem rowown_rd {A : Option Addr} {c : Nat} (h : w.ownsRow B e sz (.slice A n c) n (flat C sz n)) (hn : n * bt ≤ 140737488351232) : RowRd w w.heap.size A n sz bt C := by
  refine ⟨hn, fun h0 => ?_⟩
  obtain ⟨g, cap, hv, hB, hlt⟩ := h.form (by omega)
  injection hv with hA _ hc
  subst hA hc
  refine ⟨g, 0, rfl, hlt, fun j hj i hi => ?_⟩
  have h2 : j * sz + i < n * sz := by
    have : (j + 1) * sz ≤ n * sz := Nat.mul_le_mul_right _ hj
    rw [Nat.succ_mul] at this
    omega
  rw [Nat.zero_add, h.cellAt _ h2, flat_at C hj hi]
theorem rowown_below (h : w.ownsRow B e sz v n xs) (hb : Below w.heap.size w w') : w'.ownsRow B e sz v n xs := by
  refine h.kept (row := none) ⟨hb.os, hb.tape, hb.output, hb.size, fun i hi _ => hb.block i hi⟩ ?_
  cases v.ownBlock <;> simp
theorem rowown_kept {row : Option Nat} (h : w.ownsRow B e sz v n xs) (hg : w.grownBy w' row) (hne : ∀ g, row = some g → v.ownBlock ≠ some g) : w'.ownsRow B e sz v n xs := by
  refine h.kept hg ?_
  cases hr : row with
  | none => cases v.ownBlock <;> simp
  | some g => right; exact hne g hr
theorem rowown_ne (h : w.ownsRow B e sz v n xs) {x : Nat} (hx : x < B) : v.ownBlock ≠ some x := fun hv => by
  have := (h.lt x hv).1
  omega
theorem rowown_type {e' : TypeId} {B' sz' n' : Nat} {v' : Value} {xs' : List Value} (h : w.ownsRow B e sz v n xs) (h' : w.ownsRow B' e' sz' v' n' xs') (he : e ≠ e') {g : Nat} (hg : v.ownBlock = some g) : v'.ownBlock ≠ some g := by
  intro hg'
  obtain ⟨c, fz, h1⟩ := Lib.ownsRow_kind h g hg
  obtain ⟨c', fz', h2⟩ := Lib.ownsRow_kind h' g hg'
  rw [h1] at h2
  injection h2 with h2
  injection h2 with _ h2
  exact he h2
theorem rowown_far {g i : Nat} (h : w.ownsRow B e sz v n xs) (hg : v.ownBlock ≠ some g) (u : Value) : (w.setCell ⟨g, i, none⟩ u).ownsRow B e sz v n xs := by
  refine h.kept (row := some g) ⟨rfl, rfl, rfl, by simp, fun k _ hk => Below.heap_setCell w _ u k (fun e => hk (by rw [e]))⟩ (Or.inr hg)
/-- The row without its last elements. -/
theorem rowown_cut {A : Option Addr} {c m : Nat} (h : w.ownsRow B e sz (.slice A n c) n (flat C sz n)) (hA : A ≠ none) (hm : m ≤ n) : w.ownsRow B e sz (.slice A m c) m (flat C sz m) := by
  refine ⟨flat_length C sz m, ?_⟩
  rcases h.2 with ⟨e1, _⟩ | ⟨g, cap, cur, e1, h1, h2, h3, h4, h5, h6⟩
  · injection e1 with e1; exact absurd e1 hA
  · injection e1 with e1 _ e2
    subst e1 e2
    refine Or.inr ⟨g, c, cur, rfl, h1, h2, by omega, h4, h5, ?_⟩
    rw [← flat_take C hm, ← h6, List.take_take, Nat.min_eq_left (Nat.mul_le_mul_right _ hm)]
/-- What an append has turned lies in the row or behind all that was there. -/
theorem below_grown {B0 : Nat} {w0 : World} {row : Option Nat} (h : Below B0 w0 w) (hg : w.grownBy w' row) (hs : B0 ≤ w.heap.size) (hne : ∀ x, row = some x → B0 ≤ x) : Below B0 w0 w' := h.grown hg hs hne
end
/-- 'append(out, l...)', out nil: a copy. -/
theorem wpList_append_copy {P : Program} (w : World) {ops : Array Oper} {rest : List Oper} {o : Oper} {a : Act} {Q : Exit → Act → World → Prop} (hgd : o.guard = none) (s x : Operand) (t : TypeId)
    (ho : o.op = .call { callee := .builtin .append, args := #[s, x], argTypes := #[t, t] })
    (e : TypeId) (i : TypeInfo) (z : Value) (size bytes : Nat) (ht : P.underlying t = some (.slice e)) (hi : P.info? e = some i) (hz : i.zero = some z)
    (hsize : i.size = size) (hby : i.bytes = bytes) (hzs : z.cells.size = size) (hsz : 0 < size) (hbz : 0 < bytes)
    (hs : a.eval s = .slice none 0 0) (A : Option Addr) (n c B : Nat) (C : Nat → Nat → Value) (hx : a.eval x = .slice A n c) (hl : n ≤ c) (hA : A = none → c = 0) (hR : RowRd w B A n size bytes C) (h1 : ∀ j, j < n → ∀ i, i < size → (C j i).oneCell' = true)
    (h : ∀ v' w', w'.ownsRow w.heap.size e size v' n (flat C size n) → Below w.heap.size w w' → wpList P ops Q rest (a.put o.dst v') w') : wpList P ops Q (o :: rest) a w := by
  have hn0 : w.ownsRow w.heap.size e size (.slice none 0 0) 0 [] := World.ownsRow_nil _ _ _ _
  cases A with
  | none =>
    obtain rfl : c = 0 := hA rfl
    obtain rfl : n = 0 := by omega
    exact wpList_append_own_none hgd s x t ho w.heap.size e i size ht hi _ 0 [] hs hn0 hx (h _ _ (by rw [flat_zero]; exact hn0) (Below.refl _ _))
  | some ad =>
    have hb := hR.1
    have hnn : n ≤ 140737488351232 := Nat.le_trans (Nat.le_mul_of_pos_right n hbz) hb
    refine wpList_append_own w hgd s x t ho w.heap.size e i z size bytes ht hi hz hsize hby hzs hsz (.slice none 0 0) 0 [] hs hn0 ad n c (flat C size n) hx (flat_length C size n) ?_ ?_ (by unfold maxLen; omega) (by rw [Nat.zero_add]; omega) (Nat.le_refl _) fun v' w' hown hg _ => ?_
    · intro k u hk
      have hk' : k < n * size := by
        have := (List.getElem?_eq_some_iff.1 hk).1
        rwa [flat_length] at this
      have hn : n ≠ 0 := by intro e; subst e; omega
      obtain ⟨b, off, e1, _, hc⟩ := hR.2 hn
      injection e1 with e1
      subst e1
      have h1 : k / size < n := (Nat.div_lt_iff_lt_mul hsz).2 hk'
      have h2 : k % size < size := Nat.mod_lt _ hsz
      have e : k = k / size * size + k % size := by rw [Nat.mul_comm]; exact (Nat.div_add_mod k size).symm
      rw [e, flat_at C h1 h2] at hk
      injection hk with hk
      rw [rd_add, e, hc _ h1 _ h2, hk]
    · intro u hu
      obtain ⟨k, hk, rfl⟩ := List.mem_map.1 hu
      have hk' : k < n * size := by simpa using hk
      exact h1 _ ((Nat.div_lt_iff_lt_mul hsz).2 hk') _ (Nat.mod_lt _ hsz)
    · rw [Nat.zero_add, List.nil_append] at hown
      exact h v' w' hown ((Below.refl w.heap.size w).grown hg (Nat.le_refl _) (fun x hx => by simp [Value.ownBlock] at hx))
end Go.Proofs.YtfcdkadblagijaaDoor

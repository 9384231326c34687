/-
  A tree's conjuncts together (plain): their sizes, their order, what they mention; two rising lists as one.
-/
import Derived.Test.YtagcbljfaflhoaaDoorParted
set_option linter.unusedSimpArgs false
set_option linter.unusedVariables false
namespace Go.Proofs.YtagcbljfaflhoaaDoor
/-- Two rising lists as one, none twice. -/
def mergeL : List Nat → List Nat → List Nat
  | [], b => b
  | x :: a, [] => x :: a
  | x :: a, y :: b => if x < y then x :: mergeL a (y :: b) else if y < x then y :: mergeL (x :: a) b else x :: mergeL a b
termination_by a b => a.length + b.length
theorem merge_nil (b : List Nat) : mergeL [] b = b := by rw [mergeL]
theorem merge_none (a : List Nat) : mergeL a [] = a := by cases a <;> rw [mergeL]
theorem merge_lt {x y : Nat} {a b : List Nat} (h : x < y) : mergeL (x :: a) (y :: b) = x :: mergeL a (y :: b) := by rw [mergeL, if_pos h]
theorem merge_gt {x y : Nat} {a b : List Nat} (h : y < x) : mergeL (x :: a) (y :: b) = y :: mergeL (x :: a) b := by rw [mergeL, if_neg (by omega), if_pos h]
theorem merge_eq {x : Nat} {a b : List Nat} : mergeL (x :: a) (x :: b) = x :: mergeL a b := by rw [mergeL, if_neg (by omega), if_neg (by omega)]
theorem merge_left {x : Nat} {a b : List Nat} (h : ∀ y ∈ b, x < y) : mergeL (x :: a) b = x :: mergeL a b := by
  cases b with
  | nil => rw [merge_none, merge_none]
  | cons y b => exact merge_lt (h y (by simp))
theorem merge_right {y : Nat} {a b : List Nat} (h : ∀ x ∈ a, y < x) : mergeL a (y :: b) = y :: mergeL a b := by
  cases a with
  | nil => rw [merge_nil, merge_nil]
  | cons x a => exact merge_gt (h x (by simp))
theorem merge_filter (p q : Nat → Bool) : ∀ m s, mergeL ((List.range' s m).filter p) ((List.range' s m).filter q) = (List.range' s m).filter (fun i => p i || q i)
  | 0, s => by simp [merge_nil]
  | m + 1, s => by
    have ih := merge_filter p q m (s + 1)
    have hp : ∀ (r : Nat → Bool), ∀ y ∈ (List.range' (s + 1) m).filter r, s < y := by
      intro r y hy
      have := (List.mem_range'_1.1 (List.mem_filter.1 hy).1).1
      omega
    rw [List.range'_succ, List.filter_cons, List.filter_cons, List.filter_cons]
    cases h1 : p s <;> cases h2 : q s
    · simp only [Bool.false_or, if_false, Bool.false_eq_true]
      exact ih
    · simp only [Bool.false_or, if_true, if_false, Bool.false_eq_true]
      rw [merge_right (hp p), ih]
    · simp only [Bool.true_or, if_true, if_false, Bool.false_eq_true]
      rw [merge_left (hp q), ih]
    · simp only [Bool.true_or, if_true]
      rw [merge_eq, ih]
theorem merge_range (p q : Nat → Bool) (m : Nat) : mergeL ((List.range m).filter p) ((List.range m).filter q) = (List.range m).filter (fun i => p i || q i) := by
  rw [List.range_eq_range']
  exact merge_filter p q m 0
theorem merge_len : ∀ (n : Nat) (a b : List Nat), a.length + b.length ≤ n → (mergeL a b).length ≤ a.length + b.length
  | _, [], b, _ => by rw [merge_nil]; omega
  | _, x :: a, [], _ => by rw [merge_none]; omega
  | 0, x :: a, y :: b, h => by simp at h
  | n + 1, x :: a, y :: b, h => by
    simp only [List.length_cons] at h
    rw [mergeL]
    by_cases h1 : x < y
    · rw [if_pos h1]
      have := merge_len n a (y :: b) (by simp only [List.length_cons]; omega)
      simp only [List.length_cons] at this ⊢
      omega
    · rw [if_neg h1]
      by_cases h2 : y < x
      · rw [if_pos h2]
        have := merge_len n (x :: a) b (by simp only [List.length_cons]; omega)
        simp only [List.length_cons] at this ⊢
        omega
      · rw [if_neg h2]
        have := merge_len n a b (by omega)
        simp only [List.length_cons] at this ⊢
        omega
section
variable {n : Nat} {f : Nat → Nod} {l : Nat → Nat}
theorem conj_sum (h : Shp n f l) : ∀ k r, r < n → r < k → ((conjF f k r).map fun x => x - l x + 1).sum + (conjF f k r).length = r - l r + 1 + 1
  | 0, _, _, h => absurd h (Nat.not_lt_zero _)
  | k + 1, r, hr, hk => by
    rw [conjF]
    by_cases ho : (f r).op = 25
    · obtain ⟨k2, hb, k3, ha, hl⟩ := and_kind h hr ho
      have h1 := h.le (r - 1) (by omega)
      have h2 := h.le (l (r - 1) - 1) (by omega)
      have ea : (f r).a.toNat = l (r - 1) - 1 := by omega
      have eb : (f r).b.toNat = r - 1 := by omega
      rw [if_pos ho, ea, eb, List.map_append, List.sum_append, List.length_append]
      have s1 := conj_sum h k (l (r - 1) - 1) (by omega) (by omega)
      have s2 := conj_sum h k (r - 1) (by omega) (by omega)
      omega
    · rw [if_neg ho]
      simp
theorem conj_total (ht : treeB n f = true) : ((conjL n f).map fun x : Nat => sizeI n f x).sum + (conjL n f).length = n + 1 := by
  obtain ⟨h0, hs, hl0, _⟩ := tree_shp ht
  have e := conj_sum hs n (n - 1) (by omega) (by omega)
  rw [hl0] at e
  have em : (conjL n f).map (fun x : Nat => sizeI n f x) = (conjL n f).map fun x => x - begF n f x + 1 := List.map_congr_left fun x hx => size_at ht (conjL_lt ht x hx)
  rw [em]
  have ec : conjL n f = conjF f n (n - 1) := by rw [conjL, if_pos ht]
  rw [ec]
  omega
theorem conj_pos (ht : treeB n f = true) : 0 < (conjL n f).length := by
  have h := conj_total ht
  rcases Nat.eq_zero_or_pos (conjL n f).length with h0 | h0
  · have : conjL n f = [] := List.eq_nil_of_length_eq_zero h0
    rw [this] at h
    have := (tree_shp ht).1
    simp at h <;> omega
  · exact h0
theorem conj_rise (ht : treeB n f = true) : (conjL n f).Pairwise (· < ·) := by
  rw [conjL_eq ht]
  exact List.Pairwise.filter _ List.pairwise_lt_range
theorem conj_op (ht : treeB n f = true) : ∀ r ∈ conjL n f, (f r).op ≠ 25 := by
  intro r hr
  rw [conjL_eq ht] at hr
  have := (List.mem_filter.1 hr).2
  simp only [Bool.and_eq_true, bne_iff_ne] at this
  exact this.2
theorem conj_in (h : Shp n f l) {j : Nat} (hj : (f j).op ≠ 25) : ∀ k r, r < n → r < k → l r ≤ j → j ≤ r → ∃ x ∈ conjF f k r, l x ≤ j ∧ j ≤ x
  | 0, _, _, h, _, _ => absurd h (Nat.not_lt_zero _)
  | k + 1, r, hr, hk, h1, h2 => by
    rw [conjF]
    by_cases ho : (f r).op = 25
    · obtain ⟨k2, hb, k3, ha, hl⟩ := and_kind h hr ho
      have h3 := h.le (r - 1) (by omega)
      have h4 := h.le (l (r - 1) - 1) (by omega)
      have ea : (f r).a.toNat = l (r - 1) - 1 := by omega
      have eb : (f r).b.toNat = r - 1 := by omega
      have hne : j ≠ r := fun e => hj (e ▸ ho)
      rw [if_pos ho, ea, eb]
      rcases Nat.lt_or_ge j (l (r - 1)) with hc | hc
      · obtain ⟨x, hx, hx2⟩ := conj_in h hj k (l (r - 1) - 1) (by omega) (by omega) (by omega) (by omega)
        exact ⟨x, List.mem_append_left _ hx, hx2⟩
      · obtain ⟨x, hx, hx2⟩ := conj_in h hj k (r - 1) (by omega) (by omega) (by omega) (by omega)
        exact ⟨x, List.mem_append_right _ hx, hx2⟩
    · rw [if_neg ho]
      exact ⟨r, by simp, h1, h2⟩
/-- What conjunct r mentions. -/
def cuse (P : Int → Bool) (N : Nat) (it : Nat → Itm) (n : Nat) (f : Nat → Nod) (r : Nat) (i : Nat) : Bool := anyU P N it (subF n f r) (sizeI n f r) i
theorem conj_cover {P : Int → Bool} (hP : P 25 = false) (N : Nat) (it : Nat → Itm) (ht : treeB n f = true) (i : Nat) : anyU P N it f n i = (conjL n f).any fun r => cuse P N it n f r i := by
  obtain ⟨h0, hs, hl0, _⟩ := tree_shp ht
  have ec : conjL n f = conjF f n (n - 1) := by rw [conjL, if_pos ht]
  rw [Bool.eq_iff_iff, List.any_eq_true]
  unfold anyU cuse
  rw [List.any_eq_true]
  constructor
  · rintro ⟨j, hj, hp⟩
    have hj := List.mem_range.1 hj
    rw [Bool.and_eq_true] at hp
    have hop : (f j).op ≠ 25 := fun e => by rw [e, hP] at hp; cases hp.2
    obtain ⟨x, hx, h1, h2⟩ := conj_in hs hop n (n - 1) (by omega) (by omega) (by rw [hl0]; omega) (by omega)
    rw [← ec] at hx
    have hxn := conjL_lt ht x hx
    refine ⟨x, hx, ?_⟩
    unfold anyU
    rw [List.any_eq_true]
    refine ⟨j - begF n f x, List.mem_range.2 (by rw [size_at ht hxn]; omega), ?_⟩
    rw [subF, Int.toNat_natCast, show begF n f x + (j - begF n f x) = j by omega]
    exact Bool.and_eq_true_iff.2 hp
  · rintro ⟨x, hx, hp⟩
    have hxn := conjL_lt ht x hx
    unfold anyU at hp
    rw [List.any_eq_true] at hp
    obtain ⟨j, hj, hp⟩ := hp
    have hj := List.mem_range.1 hj
    rw [size_at ht hxn] at hj
    have hle := hs.le x hxn
    refine ⟨begF n f x + j, List.mem_range.2 (by omega), ?_⟩
    rw [subF, Int.toNat_natCast] at hp
    exact hp
/-- What the first k conjuncts mention. -/
def useK (P : Int → Bool) (N : Nat) (it : Nat → Itm) (n : Nat) (f : Nat → Nod) (k : Nat) : List Nat := (List.range N).filter fun i => ((conjL n f).take k).any fun r => cuse P N it n f r i
theorem useK_zero (P : Int → Bool) (N : Nat) (it : Nat → Itm) : useK P N it n f 0 = [] := by simp [useK]
theorem useK_next {P : Int → Bool} {N : Nat} {it : Nat → Itm} {k : Nat} (hk : k < (conjL n f).length) {r : Nat} (hr : (conjL n f).getD k 0 = r) : mergeL (useK P N it n f k) (usesL P N it (subF n f r) (sizeI n f r) N) = useK P N it n f (k + 1) := by
  have e : (conjL n f).take (k + 1) = (conjL n f).take k ++ [r] := by
    rw [List.take_add_one, List.getElem?_eq_getElem hk, ← hr, getD_at hk]
    rfl
  unfold useK usesL
  rw [merge_range, e]
  refine List.filter_congr fun i _ => ?_
  rw [List.any_append]
  simp [cuse]
theorem useK_all {P : Int → Bool} (hP : P 25 = false) (N : Nat) (it : Nat → Itm) (ht : treeB n f = true) : useK P N it n f (conjL n f).length = usesL P N it f n N := by
  unfold useK usesL
  rw [List.take_length]
  exact List.filter_congr fun i _ => (conj_cover hP N it ht i).symm
theorem useK_len {P : Int → Bool} {N : Nat} {it : Nat → Itm} {k : Nat} : (useK P N it n f k).length ≤ N := by
  unfold useK
  refine Nat.le_trans (List.length_filter_le _ _) ?_
  simp
/-- The sizes of the first k conjuncts. -/
def sumK (n : Nat) (f : Nat → Nod) (k : Nat) : Nat := (((conjL n f).take k).map fun x : Nat => sizeI n f x).sum
theorem sumK_zero : sumK n f 0 = 0 := by simp [sumK]
theorem sumK_next {k : Nat} (hk : k < (conjL n f).length) {r : Nat} (hr : (conjL n f).getD k 0 = r) : sumK n f (k + 1) = sumK n f k + sizeI n f r := by
  unfold sumK
  rw [List.take_add_one, List.getElem?_eq_getElem hk, List.map_append, List.sum_append, ← hr, getD_at hk]
  simp
theorem sumK_all (ht : treeB n f = true) : sumK n f (conjL n f).length + (conjL n f).length = n + 1 := by
  unfold sumK
  rw [List.take_length]
  exact conj_total ht
theorem sumK_le (ht : treeB n f = true) {k : Nat} (hk : k ≤ (conjL n f).length) : sumK n f k ≤ n + 1 := by
  have h := sumK_all ht
  have : sumK n f k ≤ sumK n f (conjL n f).length := by
    obtain ⟨d, hd⟩ : ∃ d, (conjL n f).length = k + d := ⟨_, (Nat.add_sub_cancel' hk).symm⟩
    rw [hd]
    clear h hk
    unfold sumK
    rw [List.take_add, List.map_append, List.sum_append]
    omega
  omega
end
end Go.Proofs.YtagcbljfaflhoaaDoor

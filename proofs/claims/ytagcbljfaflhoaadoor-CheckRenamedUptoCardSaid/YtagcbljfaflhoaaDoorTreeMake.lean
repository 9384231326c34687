/-
  Trees by what they are made of (plain): a list of nodes with a beginning for each subtree is a tree; subtrees are trees, their subtrees are the tree's.
-/
import Derived.Test.YtagcbljfaflhoaaDoorSubtree
import Derived.Test.YtagcbljfaflhoaaDoorShowTree
set_option linter.unusedSimpArgs false
set_option linter.unusedVariables false
namespace Go.Proofs.YtagcbljfaflhoaaDoor
theorem lget_range {l : Nat → Nat} {k j : Nat} (h : j < k) : lget ((List.range k).map l) j = l j := by
  simp [lget, List.getD_eq_getElem?_getD, h]
theorem shp_bg {n : Nat} {f : Nat → Nod} {l : Nat → Nat} (h : Shp n f l) (hf : ∀ j, j < n → fieldsB (f j) = true) : ∀ k, k ≤ n → bg f k = some ((List.range k).map l)
  | 0, _ => rfl
  | k + 1, hk => by
    have ih := shp_bg h hf k (by omega)
    have hkind := h.kind k (by omega)
    have hle := h.le k (by omega)
    have hfk := hf k (by omega)
    rw [List.range_succ, List.map_append, List.map_cons, List.map_nil]
    refine bg_next ih ?_
    rcases hkind with ⟨h0, ha, hb, hl⟩ | ⟨h1, h2, ha, hb, hl⟩ | ⟨h1, h2, hb, h3, ha, hl⟩
    · rw [res_zero h0 hfk ha hb, hl]
    · rw [res_one h1 hfk h2 ha hb, lget_range (by omega), hl]
    · have hle1 := h.le (k - 1) (by omega)
      rw [res_two h1 hfk h2 hb (by rw [lget_range (by omega)]; exact h3) (by rw [lget_range (by omega)]; exact ha), lget_range (j := k - 1) (by omega), lget_range (by omega), hl]
theorem shp_tree {n : Nat} {f : Nat → Nod} {l : Nat → Nat} (h : Shp n f l) (hf : ∀ j, j < n → fieldsB (f j) = true) (h0 : 0 < n) (hr : l (n - 1) = 0) : treeB n f = true ∧ ∀ j, j < n → begF n f j = l j := by
  have hb := shp_bg h hf n (Nat.le_refl _)
  refine ⟨?_, fun j hj => ?_⟩
  · rw [tree_end hb, lget_range (by omega), hr]
    exact decide_eq_true ⟨h0, rfl⟩
  · unfold begF
    rw [hb]
    exact lget_range hj
theorem sub_shp {n : Nat} {f : Nat → Nod} {l : Nat → Nat} (h : Shp n f l) {r : Nat} (hr : r < n) : Shp (r - l r + 1) (fun i => shiftN (f (l r + i)) (l r)) (fun j => l (l r + j) - l r) := by
  have hlr := h.le r hr
  refine ⟨fun j hj => ?_, fun j hj => ?_⟩
  · have := h.le (l r + j) (by omega)
    omega
  · have hn := h.nest r hr (l r + j) (by omega) (by omega)
    rcases h.kind (l r + j) (by omega) with ⟨h0, ha, hb, hl⟩ | ⟨h1, h2, ha, hb, hl⟩ | ⟨h1, h2, hb, h3, ha, hl⟩
    · refine .inl ⟨h0, ?_, ?_, ?_⟩
      · show (if 0 ≤ (f (l r + j)).a then (f (l r + j)).a - (l r : Nat) else (f (l r + j)).a) = -1
        rw [ha]; rfl
      · show (if 0 ≤ (f (l r + j)).b then (f (l r + j)).b - (l r : Nat) else (f (l r + j)).b) = -1
        rw [hb]; rfl
      · show l (l r + j) - l r = j
        omega
    · have hp := h.le (l r + j - 1) (by omega)
      have hj1 : 1 ≤ j := by omega
      refine .inr (.inl ⟨h1, hj1, ?_, ?_, ?_⟩)
      · show (if 0 ≤ (f (l r + j)).a then (f (l r + j)).a - (l r : Nat) else (f (l r + j)).a) = (j : Int) - 1
        rw [if_pos (by omega)]; omega
      · show (if 0 ≤ (f (l r + j)).b then (f (l r + j)).b - (l r : Nat) else (f (l r + j)).b) = -1
        rw [hb]; rfl
      · show l (l r + j) - l r = l (l r + (j - 1)) - l r
        rw [hl, show l r + (j - 1) = l r + j - 1 by omega]
    · have hp := h.le (l r + j - 1) (by omega)
      have hq := h.le (l (l r + j - 1) - 1) (by omega)
      have hj1 : 1 ≤ j := by omega
      have e1 : l r + (j - 1) = l r + j - 1 := by omega
      refine .inr (.inr ⟨h1, hj1, ?_, ?_, ?_, ?_⟩)
      · show (if 0 ≤ (f (l r + j)).b then (f (l r + j)).b - (l r : Nat) else (f (l r + j)).b) = (j : Int) - 1
        rw [if_pos (by omega)]; omega
      · show 1 ≤ l (l r + (j - 1)) - l r
        rw [e1]; omega
      · show (if 0 ≤ (f (l r + j)).a then (f (l r + j)).a - (l r : Nat) else (f (l r + j)).a) = ((l (l r + (j - 1)) - l r : Nat) : Int) - 1
        rw [e1, if_pos (by omega)]; omega
      · show l (l r + j) - l r = l (l r + (l (l r + (j - 1)) - l r - 1)) - l r
        rw [e1, hl, show l r + (l (l r + j - 1) - l r - 1) = l (l r + j - 1) - 1 by omega]
theorem sub_fields {n : Nat} {f : Nat → Nod} {l : Nat → Nat} (h : Shp n f l) (hf : ∀ j, j < n → fieldsB (f j) = true) {r : Nat} (hr : r < n) : ∀ j, j < r - l r + 1 → fieldsB (shiftN (f (l r + j)) (l r)) = true := by
  intro j hj
  have := h.le r hr
  exact hf (l r + j) (by omega)
/-- A subtree's size, at a place of the tree. -/
theorem size_at {n : Nat} {f : Nat → Nod} (ht : treeB n f = true) {r : Nat} (hr : r < n) : sizeI n f (r : Int) = r - begF n f r + 1 := by
  rw [sizeI, if_pos ⟨ht, by omega, by omega⟩, Int.toNat_natCast]
theorem size_off {n : Nat} {f : Nat → Nod} {root : Int} (h : ¬ (treeB n f = true ∧ 0 ≤ root ∧ root < n)) : sizeI n f root = 0 := by
  rw [sizeI, if_neg h]
/-- A subtree is a tree; where its own subtrees begin. -/
theorem sub_tree {n : Nat} {f : Nat → Nod} (ht : treeB n f = true) {r : Nat} (hr : r < n) : treeB (sizeI n f r) (subF n f r) = true ∧ ∀ j, j < sizeI n f r → begF (sizeI n f r) (subF n f r) j = begF n f (begF n f r + j) - begF n f r := by
  obtain ⟨h0, hs, hr0, hf⟩ := tree_shp ht
  have hle := hs.le r hr
  rw [size_at ht hr]
  have e : subF n f (r : Int) = fun i => shiftN (f (begF n f r + i)) (begF n f r) := by
    funext i
    rw [subF, Int.toNat_natCast]
  rw [e]
  refine shp_tree (sub_shp hs hr) (sub_fields hs hf hr) (by omega) ?_
  show begF n f (begF n f r + (r - begF n f r + 1 - 1)) - begF n f r = 0
  rw [show begF n f r + (r - begF n f r + 1 - 1) = r by omega]
  omega
/-- A subtree's size: 1 and its operands'. -/
theorem size_rec {n : Nat} {f : Nat → Nod} (ht : treeB n f = true) {r : Nat} (hr : r < n) : sizeI n f r = 1 + (if 0 ≤ (f r).a then sizeI n f (f r).a else 0) + (if 0 ≤ (f r).b then sizeI n f (f r).b else 0) := by
  obtain ⟨h0, hs, hr0, hf⟩ := tree_shp ht
  have hle := hs.le r hr
  rw [size_at ht hr]
  rcases hs.kind r hr with ⟨h0, ha, hb, hl⟩ | ⟨h1, h2, ha, hb, hl⟩ | ⟨h1, h2, hb, h3, ha, hl⟩
  · rw [ha, hb, if_neg (by omega)]
    omega
  · have hp := hs.le (r - 1) (by omega)
    rw [hb, if_pos (show 0 ≤ (f r).a by omega), if_neg (by omega), show (f r).a = ((r - 1 : Nat) : Int) by omega, size_at ht (by omega)]
    omega
  · have hp := hs.le (r - 1) (by omega)
    have hq := hs.le (begF n f (r - 1) - 1) (by omega)
    rw [if_pos (show 0 ≤ (f r).a by omega), if_pos (show 0 ≤ (f r).b by omega), show (f r).b = ((r - 1 : Nat) : Int) by omega, show (f r).a = ((begF n f (r - 1) - 1 : Nat) : Int) by omega, size_at ht (by omega), size_at ht (by omega)]
    omega
/-- A subtree's own subtrees are the tree's. -/
theorem sub_sub {n : Nat} {f : Nat → Nod} (ht : treeB n f = true) {r : Nat} (hr : r < n) {i : Nat} (hi : i < sizeI n f r) :
    sizeI (sizeI n f r) (subF n f r) i = sizeI n f ((begF n f r + i : Nat) : Int) ∧ ∀ j, j < sizeI n f ((begF n f r + i : Nat) : Int) → subF (sizeI n f r) (subF n f r) i j = subF n f ((begF n f r + i : Nat) : Int) j := by
  obtain ⟨h0, hs, hr0, hf⟩ := tree_shp ht
  have hle := hs.le r hr
  have hsz := size_at ht hr
  obtain ⟨ht', hb'⟩ := sub_tree ht hr
  have hin : begF n f r + i < n := by omega
  have hn := hs.nest r hr (begF n f r + i) (by omega) (by omega)
  have hl := hs.le (begF n f r + i) hin
  have e1 : sizeI (sizeI n f r) (subF n f r) i = sizeI n f ((begF n f r + i : Nat) : Int) := by
    rw [size_at ht' hi, size_at ht hin, hb' i hi]
    omega
  refine ⟨e1, fun j hj => ?_⟩
  rw [size_at ht hin] at hj
  have hx := hs.rng (j := begF n f (begF n f r + i) + j) (by omega)
  have e2 : subF n f ((begF n f r + i : Nat) : Int) j = shiftN (f (begF n f (begF n f r + i) + j)) (begF n f (begF n f r + i)) := by
    rw [subF, Int.toNat_natCast]
  have e3 : subF (sizeI n f r) (subF n f r) i j = shiftN (shiftN (f (begF n f (begF n f r + i) + j)) (begF n f r)) (begF n f (begF n f r + i) - begF n f r) := by
    rw [subF, Int.toNat_natCast, hb' i hi, subF, Int.toNat_natCast, show begF n f r + (begF n f (begF n f r + i) - begF n f r + j) = begF n f (begF n f r + i) + j by omega]
  rw [e2, e3]
  have hk := hs.kind (begF n f (begF n f r + i) + j) (by omega)
  have hni := hs.nest (begF n f r + i) hin (begF n f (begF n f r + i) + j) (by omega) (by omega)
  generalize f (begF n f (begF n f r + i) + j) = x at *
  have key : ∀ c : Int, c < 0 ∨ (begF n f (begF n f r + i) : Int) ≤ c → (if 0 ≤ (if 0 ≤ c then c - (begF n f r : Nat) else c) then (if 0 ≤ c then c - (begF n f r : Nat) else c) - (begF n f (begF n f r + i) - begF n f r : Nat) else (if 0 ≤ c then c - (begF n f r : Nat) else c)) = if 0 ≤ c then c - (begF n f (begF n f r + i) : Nat) else c := by
    intro c hc
    by_cases h : 0 ≤ c
    · rw [if_pos h, if_pos h, if_pos (by omega)]; omega
    · rw [if_neg h, if_neg h, if_neg h]
  have hA : x.a < 0 ∨ (begF n f (begF n f r + i) : Int) ≤ x.a := by
    rcases hk with ⟨_, ha, _, _⟩ | ⟨_, h2, ha, _, hl2⟩ | ⟨_, h2, hb, h3, ha, hl2⟩
    · exact .inl (by omega)
    · have := hs.le (begF n f (begF n f r + i) + j - 1) (by omega)
      exact .inr (by omega)
    · have := hs.le (begF n f (begF n f r + i) + j - 1) (by omega)
      have := hs.le (begF n f (begF n f (begF n f r + i) + j - 1) - 1) (by omega)
      exact .inr (by omega)
  have hB : x.b < 0 ∨ (begF n f (begF n f r + i) : Int) ≤ x.b := by
    rcases hk with ⟨_, _, hb, _⟩ | ⟨_, h2, ha, hb, hl2⟩ | ⟨_, h2, hb, h3, ha, hl2⟩
    · exact .inl (by omega)
    · exact .inl (by omega)
    · have := hs.le (begF n f (begF n f r + i) + j - 1) (by omega)
      have := hs.le (begF n f (begF n f (begF n f r + i) + j - 1) - 1) (by omega)
      exact .inr (by omega)
  simp only [shiftN, Nod.mk.injEq, true_and]
  exact ⟨key _ hA, key _ hB⟩
/-- A subtree's last node is the one it is of. -/
theorem sub_last {n : Nat} {f : Nat → Nod} (ht : treeB n f = true) {r : Nat} (hr : r < n) : subF n f r (sizeI n f r - 1) = shiftN (f r) (begF n f r) := by
  obtain ⟨h0, hs, hr0, hf⟩ := tree_shp ht
  have hle := hs.le r hr
  rw [size_at ht hr, subF, Int.toNat_natCast, show begF n f r + (r - begF n f r + 1 - 1) = r by omega]
end Go.Proofs.YtagcbljfaflhoaaDoor

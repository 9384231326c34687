/-
  Subtrees of a well shaped tree, plain: where they lie, whose operand a node is, the conjuncts.
-/
import Derived.Test.YtagcbljfaflhoaaDoorShape
set_option linter.unusedVariables false
namespace Go.Proofs.YtagcbljfaflhoaaDoor
/-- What a node is over the subtrees ahead of it. -/
def KindOf (x : Nod) (l : Nat → Nat) (j : Nat) : Prop :=
  (arity x.op = 0 ∧ x.a = -1 ∧ x.b = -1 ∧ l j = j) ∨ (arity x.op = 1 ∧ 1 ≤ j ∧ x.a = (j : Int) - 1 ∧ x.b = -1 ∧ l j = l (j - 1)) ∨
  (arity x.op = 2 ∧ 1 ≤ j ∧ x.b = (j : Int) - 1 ∧ 1 ≤ l (j - 1) ∧ x.a = (l (j - 1) : Int) - 1 ∧ l j = l (l (j - 1) - 1))
/-- Every subtree of the first n nodes begins where l says. -/
structure Shp (n : Nat) (f : Nat → Nod) (l : Nat → Nat) : Prop where
  le : ∀ j, j < n → l j ≤ j
  kind : ∀ j, j < n → KindOf (f j) l j
theorem nodeRes_kind {x : Nod} {l : Nat → Nat} {i v : Nat} (h : nodeRes x l i = some v) : fieldsB x = true ∧
    ((arity x.op = 0 ∧ x.a = -1 ∧ x.b = -1 ∧ v = i) ∨ (arity x.op = 1 ∧ 1 ≤ i ∧ x.a = (i : Int) - 1 ∧ x.b = -1 ∧ v = l (i - 1)) ∨
     (arity x.op = 2 ∧ 1 ≤ i ∧ x.b = (i : Int) - 1 ∧ 1 ≤ l (i - 1) ∧ x.a = (l (i - 1) : Int) - 1 ∧ v = l (l (i - 1) - 1))) := by
  unfold nodeRes at h
  split at h
  · rename_i hf
    refine ⟨hf, ?_⟩
    split at h
    · rename_i h0
      split at h
      · rename_i hc
        injection h with h
        exact Or.inl ⟨h0, hc.1, hc.2, h.symm⟩
      · cases h
    · split at h
      · rename_i h1
        split at h
        · rename_i hc
          injection h with h
          exact Or.inr (Or.inl ⟨h1, hc.1, hc.2.1, hc.2.2, h.symm⟩)
        · cases h
      · split at h
        · rename_i h2
          split at h
          · rename_i hc
            injection h with h
            refine Or.inr (Or.inr ⟨h2, hc.1, hc.2.1, hc.2.2.1, hc.2.2.2, ?_⟩)
            rw [← h, hc.2.2.2]
            congr 1
            omega
          · cases h
        · cases h
  · cases h
theorem kind_congr {x : Nod} {l l' : Nat → Nat} {i : Nat} (h : ∀ j, j ≤ i → l j = l' j) (hle : ∀ j, j ≤ i → l j ≤ j) (hk : KindOf x l i) : KindOf x l' i := by
  rcases hk with ⟨a, b, c, d⟩ | ⟨a, b, c, d, e⟩ | ⟨a, b, c, d, e, g⟩
  · exact Or.inl ⟨a, b, c, by rw [← h i (by omega)]; exact d⟩
  · exact Or.inr (Or.inl ⟨a, b, c, d, by rw [← h i (by omega), ← h (i - 1) (by omega)]; exact e⟩)
  · have h1 := hle (i - 1) (by omega)
    have h2 := h (i - 1) (by omega)
    exact Or.inr (Or.inr ⟨a, b, c, by rw [← h2]; exact d, by rw [← h2]; exact e, by rw [← h2, ← h i (by omega), ← h (l (i - 1) - 1) (by omega)]; exact g⟩)
theorem bg_shp {f : Nat → Nod} : ∀ {n : Nat} {l : List Nat}, bg f n = some l → Shp n f (lget l) ∧ ∀ j, j < n → fieldsB (f j) = true := by
  intro n
  induction n with
  | zero => intro l _; exact ⟨⟨fun j hj => absurd hj (Nat.not_lt_zero _), fun j hj => absurd hj (Nat.not_lt_zero _)⟩, fun j hj => absurd hj (Nat.not_lt_zero _)⟩
  | succ n ih =>
    intro l h
    have hle := bg_le h
    cases hb : bg f n with
    | none => rw [bg_none hb (n + 1) (by omega)] at h; cases h
    | some l' =>
      cases hr : nodeRes (f n) (lget l') n with
      | none => rw [bg_stop hb hr] at h; cases h
      | some v =>
        rw [bg_next hb hr] at h
        injection h with h
        subst h
        have hl := bg_len hb
        obtain ⟨h1, h2⟩ := ih hb
        obtain ⟨k1, k2⟩ := nodeRes_kind hr
        have hlast : lget (l' ++ [v]) n = v := by rw [← hl, lget_last]
        have hold : ∀ j, j < n → lget l' j = lget (l' ++ [v]) j := fun j hj => (lget_left (by omega) v).symm
        refine ⟨⟨hle, fun j hj => ?_⟩, fun j hj => ?_⟩
        · by_cases e : j = n
          · subst e
            rcases k2 with ⟨a, b, c, d⟩ | ⟨a, b, c, d, e⟩ | ⟨a, b, c, d, e, g⟩
            · exact Or.inl ⟨a, b, c, by rw [hlast]; exact d⟩
            · exact Or.inr (Or.inl ⟨a, b, c, d, by rw [hlast, ← hold (j - 1) (by omega)]; exact e⟩)
            · have h3 := h1.le (j - 1) (by omega)
              exact Or.inr (Or.inr ⟨a, b, c, by rw [← hold (j - 1) (by omega)]; exact d, by rw [← hold (j - 1) (by omega)]; exact e, by rw [hlast, ← hold (j - 1) (by omega), ← hold (lget l' (j - 1) - 1) (by omega)]; exact g⟩)
          · exact kind_congr (fun i hi => hold i (by omega)) (fun i hi => h1.le i (by omega)) (h1.kind j (by omega))
        · by_cases e : j = n
          · subst e; exact k1
          · exact h2 j (by omega)
/-- Where the subtree of each node begins. -/
def begF (n : Nat) (f : Nat → Nod) : Nat → Nat := match bg f n with
  | none => fun _ => 0
  | some l => lget l
theorem tree_shp {n : Nat} {f : Nat → Nod} (h : treeB n f = true) : 0 < n ∧ Shp n f (begF n f) ∧ begF n f (n - 1) = 0 ∧ ∀ j, j < n → fieldsB (f j) = true := by
  unfold treeB at h
  unfold begF
  cases hb : bg f n with
  | none => rw [hb] at h; cases h
  | some l =>
    rw [hb] at h
    have h := of_decide_eq_true h
    obtain ⟨h1, h2⟩ := bg_shp hb
    exact ⟨h.1, h1, h.2, h2⟩
/-- x is an operand of node y. -/
def Opd (f : Nat → Nod) (y x : Nat) : Prop := (f y).a = (x : Int) ∨ (f y).b = (x : Int)
section
variable {n : Nat} {f : Nat → Nod} {l : Nat → Nat}
/-- Subtrees lie one within the other or apart. -/
theorem Shp.nest (h : Shp n f l) : ∀ y, y < n → ∀ x, l y ≤ x → x ≤ y → l y ≤ l x := by
  intro y
  induction y using Nat.strongRecOn with
  | _ y ih =>
    intro hy x h1 h2
    by_cases e : x = y
    · subst e; exact Nat.le_refl _
    · rcases h.kind y hy with ⟨_, _, _, d⟩ | ⟨_, b, _, _, d⟩ | ⟨_, b, _, c, _, d⟩
      · omega
      · have := ih (y - 1) (by omega) (by omega) x (by omega) (by omega)
        omega
      · have hl := h.le (y - 1) (by omega)
        have hl2 := h.le (l (y - 1) - 1) (by omega)
        by_cases e2 : l (y - 1) ≤ x
        · have := ih (y - 1) (by omega) (by omega) x e2 (by omega)
          omega
        · have := ih (l (y - 1) - 1) (by omega) (by omega) x (by omega) (by omega)
          omega
/-- An operand lies in its node's subtree. -/
theorem Shp.opd_in (h : Shp n f l) {y x : Nat} (hy : y < n) (ho : Opd f y x) : l y ≤ x ∧ x < y := by
  rcases h.kind y hy with ⟨_, a, b, d⟩ | ⟨_, b, a, c, d⟩ | ⟨_, b, c, e, a, d⟩
  · rcases ho with ho | ho <;> omega
  · have := h.le (y - 1) (by omega)
    rcases ho with ho | ho <;> omega
  · have hl := h.le (y - 1) (by omega)
    have hl2 := h.le (l (y - 1) - 1) (by omega)
    rcases ho with ho | ho <;> omega
/-- Where a node's operands lie. -/
theorem Shp.rng (h : Shp n f l) {j : Nat} (hj : j < n) : -1 ≤ (f j).a ∧ (f j).a < j ∧ -1 ≤ (f j).b ∧ (f j).b < j := by
  rcases h.kind j hj with ⟨_, a, b, d⟩ | ⟨_, b, a, c, d⟩ | ⟨_, b, c, e, a, d⟩
  · omega
  · omega
  · have := h.le (j - 1) (by omega)
    omega
/-- Whose operand a node of a subtree is, lies in the subtree. -/
theorem Shp.par_in (h : Shp n f l) {y x p : Nat} (hy : y < n) (hp : p < n) (h1 : l y ≤ x) (h2 : x < y) (ho : Opd f p x) : p ≤ y := by
  apply Classical.byContradiction
  intro hc
  have hin := h.opd_in hp ho
  rcases h.kind p hp with ⟨_, a, b, d⟩ | ⟨_, b, a, c, d⟩ | ⟨_, b, c, e, a, d⟩
  · rcases ho with ho | ho <;> omega
  · rcases ho with ho | ho <;> omega
  · have hl := h.le (p - 1) (by omega)
    rcases ho with ho | ho
    · have := h.nest (p - 1) (by omega) y (by omega) (by omega)
      omega
    · omega
/-- Each node of a subtree but its root is an operand. -/
theorem Shp.par_ex (h : Shp n f l) : ∀ y, y < n → ∀ x, l y ≤ x → x < y → ∃ p, x < p ∧ p ≤ y ∧ Opd f p x := by
  intro y
  induction y using Nat.strongRecOn with
  | _ y ih =>
    intro hy x h1 h2
    rcases h.kind y hy with ⟨_, _, _, d⟩ | ⟨_, b, a, _, d⟩ | ⟨_, b, c, e, a, d⟩
    · omega
    · by_cases e : x = y - 1
      · exact ⟨y, by omega, Nat.le_refl _, Or.inl (by omega)⟩
      · obtain ⟨p, p1, p2, p3⟩ := ih (y - 1) (by omega) (by omega) x (by omega) (by omega)
        exact ⟨p, p1, by omega, p3⟩
    · have hl := h.le (y - 1) (by omega)
      have hl2 := h.le (l (y - 1) - 1) (by omega)
      by_cases e1 : x = y - 1
      · exact ⟨y, by omega, Nat.le_refl _, Or.inr (by omega)⟩
      · by_cases e2 : l (y - 1) ≤ x
        · obtain ⟨p, p1, p2, p3⟩ := ih (y - 1) (by omega) (by omega) x e2 (by omega)
          exact ⟨p, p1, by omega, p3⟩
        · by_cases e3 : x = l (y - 1) - 1
          · exact ⟨y, by omega, Nat.le_refl _, Or.inl (by omega)⟩
          · obtain ⟨p, p1, p2, p3⟩ := ih (l (y - 1) - 1) (by omega) (by omega) x (by omega) (by omega)
            exact ⟨p, p1, by omega, p3⟩
end
/-! ### Whose operand a node is, as the reference gathers it -/
def upF (f : Nat → Nod) : Nat → Nat → Int
  | 0, _ => -1
  | m + 1, j => if (f m).b = (j : Int) then (m : Int) else if (f m).a = (j : Int) then (m : Int) else upF f m j
theorem upF_or (f : Nat → Nod) (m j : Nat) : (upF f m j = -1 ∧ ∀ p, p < m → ¬ Opd f p j) ∨ ∃ p, p < m ∧ upF f m j = p ∧ Opd f p j := by
  induction m with
  | zero => exact Or.inl ⟨rfl, fun p hp => absurd hp (Nat.not_lt_zero _)⟩
  | succ m ih =>
    by_cases hb : (f m).b = (j : Int)
    · exact Or.inr ⟨m, by omega, by simp [upF, hb], Or.inr hb⟩
    · by_cases ha : (f m).a = (j : Int)
      · exact Or.inr ⟨m, by omega, by simp [upF, hb, ha], Or.inl ha⟩
      · have e : upF f (m + 1) j = upF f m j := by simp [upF, hb, ha]
        rcases ih with ⟨h1, h2⟩ | ⟨p, h1, h2, h3⟩
        · refine Or.inl ⟨e.trans h1, fun p hp ho => ?_⟩
          by_cases e2 : p = m
          · subst e2
            rcases ho with ho | ho
            · exact ha ho
            · exact hb ho
          · exact h2 p (by omega) ho
        · exact Or.inr ⟨p, by omega, e.trans h2, h3⟩
/-- Does a node lie in the subtree of a place? -/
def subB (n : Nat) (l : Nat → Nat) (root : Int) (i : Nat) : Bool := decide (0 ≤ root ∧ root < n ∧ l root.toNat ≤ i ∧ (i : Int) ≤ root)
section
variable {n : Nat} {f : Nat → Nod} {l : Nat → Nat}
theorem up_root (h : Shp n f l) (hn : 0 < n) : upF f n (n - 1) = -1 := by
  rcases upF_or f n (n - 1) with ⟨e, _⟩ | ⟨p, h1, _, h3⟩
  · exact e
  · have := h.opd_in h1 h3
    omega
theorem up_ex (h : Shp n f l) (h0 : l (n - 1) = 0) {i : Nat} (hi : i < n - 1) : ∃ p, i < p ∧ p < n ∧ upF f n i = p ∧ Opd f p i := by
  rcases upF_or f n i with ⟨_, e⟩ | ⟨p, h1, h2, h3⟩
  · obtain ⟨p, p1, p2, p3⟩ := h.par_ex (n - 1) (by omega) i (by omega) hi
    exact absurd p3 (e p (by omega))
  · exact ⟨p, (h.opd_in h1 h3).2, h1, h2, h3⟩
theorem in_step (h : Shp n f l) (h0 : l (n - 1) = 0) (root : Int) {i : Nat} (hi : i < n) :
    subB n l root i = (decide ((i : Int) = root) || (decide (0 ≤ upF f n i) && subB n l root (upF f n i).toNat)) := by
  rw [Bool.eq_iff_iff]
  simp only [subB, Bool.or_eq_true, Bool.and_eq_true, decide_eq_true_eq]
  by_cases hl : i < n - 1
  · obtain ⟨p, p1, p2, p3, p4⟩ := up_ex h h0 hl
    rw [p3]
    have hin := h.opd_in p2 p4
    constructor
    · rintro ⟨a, b, c, d⟩
      by_cases e : (i : Int) = root
      · exact Or.inl e
      · refine Or.inr ⟨by omega, a, b, ?_, ?_⟩
        · have : ((p : Int)).toNat = p := by omega
          rw [this]
          omega
        · have := h.par_in (y := root.toNat) (x := i) (p := p) (by omega) p2 c (by omega) p4
          omega
    · rintro (e | ⟨_, a, b, c, d⟩)
      · have := h.le i hi
        have e2 : root.toNat = i := by omega
        rw [e2]
        exact ⟨by omega, by omega, this, by omega⟩
      · have e2 : ((p : Int)).toNat = p := by omega
        rw [e2] at c d
        have := h.nest root.toNat (by omega) p c (by omega)
        exact ⟨a, b, by omega, by omega⟩
  · have e : i = n - 1 := by omega
    subst e
    rw [up_root h (by omega)]
    constructor
    · rintro ⟨a, b, c, d⟩
      exact Or.inl (by omega)
    · rintro (e | ⟨a, _⟩)
      · have e2 : root.toNat = n - 1 := by omega
        rw [e2, h0]
        exact ⟨by omega, by omega, by omega, by omega⟩
      · omega
end
/-! ### Sizes, subtrees -/
def sizeI (n : Nat) (f : Nat → Nod) (root : Int) : Nat := if treeB n f = true ∧ 0 ≤ root ∧ root < n then root.toNat - begF n f root.toNat + 1 else 0
/-- A node, its operands' places counted from another one on. -/
def shiftN (x : Nod) (d : Nat) : Nod := ⟨x.op, x.n, x.vr, x.at_, if 0 ≤ x.a then x.a - d else x.a, if 0 ≤ x.b then x.b - d else x.b⟩
def subF (n : Nat) (f : Nat → Nod) (root : Int) (i : Nat) : Nod := shiftN (f (begF n f root.toNat + i)) (begF n f root.toNat)
/-! ### Conjuncts -/
def conjF (f : Nat → Nod) : Nat → Nat → List Nat
  | 0, _ => []
  | k + 1, r => if (f r).op = 25 then conjF f k (f r).a.toNat ++ conjF f k (f r).b.toNat else [r]
def conjL (n : Nat) (f : Nat → Nod) : List Nat := if treeB n f = true then conjF f n (n - 1) else []
/-- Nothing but ANDs above it. -/
def topB (n : Nat) (f : Nat → Nod) (l : Nat → Nat) (i : Nat) : Bool := (List.range n).all fun y => !(decide (l y ≤ i) && decide (i < y)) || (f y).op == 25
section
variable {n : Nat} {f : Nat → Nod} {l : Nat → Nat}
theorem top_iff {i : Nat} : topB n f l i = true ↔ ∀ y, y < n → l y ≤ i → i < y → (f y).op = 25 := by
  unfold topB
  rw [List.all_eq_true]
  constructor
  · intro h y hy h1 h2
    have := h y (List.mem_range.2 hy)
    simpa [h1, h2] using this
  · intro h y hy
    by_cases h1 : l y ≤ i
    · by_cases h2 : i < y
      · simp [h y (List.mem_range.1 hy) h1 h2]
      · simp [h2]
    · simp [h1]
theorem top_root (h : Shp n f l) : topB n f l (n - 1) = true := top_iff.2 fun y hy _ h2 => by omega
theorem top_step (h : Shp n f l) {p x : Nat} (hp : p < n) (ho : Opd f p x) : topB n f l x = (topB n f l p && (f p).op == 25) := by
  have hin := h.opd_in hp ho
  rw [Bool.eq_iff_iff, Bool.and_eq_true, top_iff, top_iff, beq_iff_eq]
  constructor
  · intro k
    refine ⟨fun y hy h1 h2 => k y hy ?_ (by omega), k p hp hin.1 hin.2⟩
    have := h.nest y hy p h1 (by omega)
    omega
  · rintro ⟨k1, k2⟩ y hy h1 h2
    have := h.par_in hy hp h1 h2 ho
    by_cases e : p = y
    · subst e; exact k2
    · exact k1 y hy (by omega) (by omega)
/-- A node is an AND: its operands. -/
theorem and_kind (h : Shp n f l) {r : Nat} (hr : r < n) (ho : (f r).op = 25) : 1 ≤ r ∧ (f r).b = (r : Int) - 1 ∧ 1 ≤ l (r - 1) ∧ (f r).a = (l (r - 1) : Int) - 1 ∧ l r = l (l (r - 1) - 1) := by
  have ha : arity (f r).op = 2 := by rw [ho]; decide
  rcases h.kind r hr with ⟨a, _⟩ | ⟨a, _⟩ | ⟨_, b⟩
  · omega
  · omega
  · exact b
theorem conjF_more (h : Shp n f l) : ∀ r, r < n → ∀ k k', r < k → r < k' → conjF f k r = conjF f k' r := by
  intro r
  induction r using Nat.strongRecOn with
  | _ r ih =>
    intro hr k k' hk hk'
    obtain ⟨k, rfl⟩ : ∃ q, k = q + 1 := ⟨k - 1, by omega⟩
    obtain ⟨k', rfl⟩ : ∃ q, k' = q + 1 := ⟨k' - 1, by omega⟩
    by_cases ho : (f r).op = 25
    · obtain ⟨a, b, c, d, e⟩ := and_kind h hr ho
      have hl := h.le (r - 1) (by omega)
      simp only [conjF, if_pos ho]
      rw [ih (f r).a.toNat (by omega) (by omega) k k' (by omega) (by omega), ih (f r).b.toNat (by omega) (by omega) k k' (by omega) (by omega)]
    · simp only [conjF, if_neg ho]
theorem conj_seg (h : Shp n f l) : ∀ r, r < n → topB n f l r = true → (List.range' (l r) (r + 1 - l r)).filter (fun i => topB n f l i && (f i).op != 25) = conjF f (r + 1) r := by
  intro r
  induction r using Nat.strongRecOn with
  | _ r ih =>
    intro hr ht
    have hle := h.le r hr
    by_cases ho : (f r).op = 25
    · obtain ⟨a, b, c, d, e⟩ := and_kind h hr ho
      have hl := h.le (r - 1) (by omega)
      have hl2 := h.le (l (r - 1) - 1) (by omega)
      have oa : Opd f r (l (r - 1) - 1) := Or.inl (by omega)
      have ob : Opd f r (r - 1) := Or.inr (by omega)
      have ta : topB n f l (l (r - 1) - 1) = true := by rw [top_step h hr oa, ht, ho]; rfl
      have tb : topB n f l (r - 1) = true := by rw [top_step h hr ob, ht, ho]; rfl
      have i1 := ih (l (r - 1) - 1) (by omega) (by omega) ta
      have i2 := ih (r - 1) (by omega) (by omega) tb
      have hsplit : List.range' (l r) (r + 1 - l r) = List.range' (l (l (r - 1) - 1)) (l (r - 1) - 1 + 1 - l (l (r - 1) - 1)) ++ (List.range' (l (r - 1)) (r - 1 + 1 - l (r - 1)) ++ [r]) := by
        have e1 : r + 1 - l r = (l (r - 1) - 1 + 1 - l (l (r - 1) - 1)) + ((r - 1 + 1 - l (r - 1)) + 1) := by omega
        rw [e1, ← List.range'_append_1, ← List.range'_append_1, e]
        congr 1
        have e2 : l (l (r - 1) - 1) + (l (r - 1) - 1 + 1 - l (l (r - 1) - 1)) = l (r - 1) := by omega
        rw [e2]
        congr 1
        have e3 : l (r - 1) + (r - 1 + 1 - l (r - 1)) = r := by omega
        rw [e3]
        rfl
      rw [hsplit, List.filter_append, List.filter_append, i1, i2]
      have e4 : (f r).a.toNat = l (r - 1) - 1 := by omega
      have e5 : (f r).b.toNat = r - 1 := by omega
      have e6 : r - 1 + 1 = r := by omega
      rw [show conjF f (r + 1) r = conjF f r (f r).a.toNat ++ conjF f r (f r).b.toNat by simp only [conjF, if_pos ho], e4, e5, conjF_more h (l (r - 1) - 1) (by omega) _ r (by omega) (by omega), e6]
      simp [ho]
    · have hnil : ∀ i, l r ≤ i → i < r → topB n f l i = false := by
        intro i h1 h2
        cases hc : topB n f l i with
        | false => rfl
        | true => exact absurd (top_iff.1 hc r hr h1 h2) ho
      have hsplit : List.range' (l r) (r + 1 - l r) = List.range' (l r) (r - l r) ++ [r] := by
        have e1 : r + 1 - l r = (r - l r) + 1 := by omega
        rw [e1, ← List.range'_append_1]
        congr 1
        have e3 : l r + (r - l r) = r := by omega
        rw [e3]
        rfl
      rw [hsplit, List.filter_append, conjF, if_neg ho]
      have e2 : (List.range' (l r) (r - l r)).filter (fun i => topB n f l i && (f i).op != 25) = [] := by
        rw [List.filter_eq_nil_iff]
        intro i hi
        rw [List.mem_range'_1] at hi
        simp [hnil i hi.1 (by omega)]
      rw [e2]
      simp [ht, ho]
theorem conjL_filter (ht : treeB n f = true) : conjL n f = (List.range n).filter (fun i => topB n f (begF n f) i && (f i).op != 25) := by
  obtain ⟨hn, h, h0, _⟩ := tree_shp ht
  have := conj_seg h (n - 1) (by omega) (top_root h)
  rw [h0] at this
  have e : n - 1 + 1 - 0 = n := by omega
  have e2 : n - 1 + 1 = n := by omega
  rw [e, e2, ← List.range_eq_range'] at this
  rw [conjL, if_pos ht, this]
theorem conjF_lt (h : Shp n f l) : ∀ r, r < n → ∀ k, ∀ x ∈ conjF f k r, x ≤ r := by
  intro r
  induction r using Nat.strongRecOn with
  | _ r ih =>
    intro hr k x hx
    cases k with
    | zero => simp [conjF] at hx
    | succ k =>
      by_cases ho : (f r).op = 25
      · obtain ⟨a, b, c, d, e⟩ := and_kind h hr ho
        have hl := h.le (r - 1) (by omega)
        rw [conjF, if_pos ho, List.mem_append] at hx
        rcases hx with hx | hx
        · have := ih (f r).a.toNat (by omega) (by omega) k x hx
          omega
        · have := ih (f r).b.toNat (by omega) (by omega) k x hx
          omega
      · rw [conjF, if_neg ho] at hx
        simp at hx
        omega
end
end Go.Proofs.YtagcbljfaflhoaaDoor

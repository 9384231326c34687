/-
  Several texts in one: CheckOk, TreeMake, Parted, FindP, Together, FindQ, Found.
-/
import Derived.Test.YtagcbljfaflhoaaDoorFlw17
import Derived.Test.YtagcbljfaflhoaaDoorFlw8
import Derived.Test.YtagcbljfaflhoaaDoorFlw2
import Derived.Deep.RegionHeld3
set_option linter.unusedSimpArgs false
set_option linter.unusedVariables false
/-! ### When nothing is wrong with a query (plain); what is well formed stays so without its parts. -/
namespace Go.Proofs.YtagcbljfaflhoaaDoor
/-- Nothing is wrong with the query. -/
structure CheckOk (S : Sch) (Q : Qry) : Prop where
  sch : schErr S = 0
  shape : shapedB Q = true
  items : (itemsF S Q).code = 0
  wher : (whereF S Q).code = 0
  within : Q.within ≤ 1099511627776
  by_ : Q.by_.toList.isEmpty = true ∨ partB S Q = true
  many : Q.m ≤ 8
  rets : ∀ k, k < Q.m → (retE S Q k).2 = 0
theorem retF_ok {S : Sch} {Q : Qry} : (retF S Q).code = 0 ↔ Q.m ≤ 8 ∧ ∀ k, k < Q.m → (retE S Q k).2 = 0 := by
  by_cases h8 : 8 < Q.m
  · rw [retF_many h8]
    refine ⟨fun h => (by cases h), fun h => by omega⟩
  · rcases firstI_or (fun k => (retE S Q k).2 != 0) Q.m with ⟨e, hn⟩ | ⟨j, hj, e, hp, hb⟩
    · rw [retF_end h8 hn]
      refine ⟨fun _ => ⟨by omega, fun k hk => ?_⟩, fun _ => rfl⟩
      have := hn k hk
      rwa [bne_eq_false_iff_eq] at this
    · rw [bne_iff_ne] at hp
      rw [retF_hit (i := (retE S Q j).1) (e := (retE S Q j).2) h8 hj rfl hp hb]
      exact ⟨fun h => absurd h hp, fun h => absurd (h.2 j hj) hp⟩
theorem restF_ok {S : Sch} {Q : Qry} : (restF S Q).code = 0 ↔ Q.within ≤ 1099511627776 ∧ (Q.by_.toList.isEmpty = true ∨ partB S Q = true) ∧ Q.m ≤ 8 ∧ ∀ k, k < Q.m → (retE S Q k).2 = 0 := by
  unfold restF
  by_cases hw : 1099511627776 < Q.within
  · rw [if_pos hw]
    refine ⟨fun h => (by cases h), fun h => by omega⟩
  · rw [if_neg hw]
    by_cases hb : (!Q.by_.toList.isEmpty && !partB S Q) = true
    · rw [if_pos hb]
      refine ⟨fun h => (by cases h), fun h => ?_⟩
      rcases h.2.1 with h1 | h1 <;> simp [h1] at hb
    · rw [if_neg hb, retF_ok]
      refine ⟨fun h => ⟨by omega, ?_, h⟩, fun h => h.2.2⟩
      cases h1 : Q.by_.toList.isEmpty
      · cases h2 : partB S Q
        · simp [h1, h2] at hb
        · exact .inr rfl
      · exact .inl rfl
theorem checkF_ok {S : Sch} {Q : Qry} : (checkF S Q).code = 0 ↔ CheckOk S Q := by
  unfold checkF
  by_cases h1 : schErr S = 0
  · rw [if_neg (by rw [h1]; simp)]
    by_cases h2 : shapedB Q = true
    · rw [if_neg (by rw [h2]; simp)]
      by_cases h3 : (itemsF S Q).code = 0
      · rw [if_neg (by rw [h3]; simp)]
        by_cases h4 : (whereF S Q).code = 0
        · rw [if_neg (by rw [h4]; simp), restF_ok]
          exact ⟨fun h => ⟨h1, h2, h3, h4, h.1, h.2.1, h.2.2.1, h.2.2.2⟩, fun h => ⟨h.within, h.by_, h.many, h.rets⟩⟩
        · rw [if_pos h4]
          exact ⟨fun h => absurd h h4, fun h => absurd h.wher h4⟩
      · rw [if_pos h3]
        exact ⟨fun h => absurd h h3, fun h => absurd h.items h3⟩
    · rw [if_pos (by simpa using h2)]
      exact ⟨fun h => (by cases h), fun h => absurd h.shape h2⟩
  · rw [if_pos h1]
    exact ⟨fun h => absurd h h1, fun h => absurd h.sch h1⟩
section
variable {S : Sch} {Q : Qry}
theorem ok_noWhere (h : CheckOk S Q) : CheckOk S { Q with wn := 0 } := by
  refine ⟨h.sch, ?_, h.items, ?_, h.within, h.by_, h.many, h.rets⟩
  · have := h.shape
    simp only [shapedB, Bool.and_eq_true, Bool.or_eq_true, decide_eq_true_eq] at this ⊢
    exact ⟨⟨⟨this.1.1.1, .inl trivial⟩, this.1.2⟩, this.2⟩
  · rw [whereF, if_pos rfl]
theorem ok_noBy (h : CheckOk S Q) : CheckOk S { Q with by_ := ⟨#[]⟩ } := by
  refine ⟨h.sch, ?_, h.items, h.wher, h.within, .inl (by show (⟨#[]⟩ : ByteArray).toList.isEmpty = true; rw [toList_none]; rfl), h.many, h.rets⟩
  have := h.shape
  simp only [shapedB, Bool.and_eq_true, Bool.or_eq_true, decide_eq_true_eq] at this ⊢
  exact ⟨⟨this.1.1, .inl (by rw [toList_none]; rfl)⟩, this.2⟩
theorem ok_cut (h : CheckOk S Q) {m : Nat} (hm : m ≤ Q.m) : CheckOk S { Q with m := m } := by
  refine ⟨h.sch, ?_, h.items, h.wher, h.within, h.by_, Nat.le_trans hm h.many, fun k hk => h.rets k (Nat.lt_of_lt_of_le hk hm)⟩
  have := h.shape
  simp only [shapedB, Bool.and_eq_true] at this ⊢
  exact ⟨this.1, all_yes fun k hk => of_all this.2 (Nat.lt_of_lt_of_le hk hm)⟩
theorem ok_less (h : CheckOk S Q) {v : Int} (h0 : 0 ≤ v) (h1 : v < Q.within) : CheckOk S { Q with within := v } := by
  refine ⟨h.sch, ?_, h.items, h.wher, by have := h.within; show v ≤ _; omega, h.by_, h.many, h.rets⟩
  have := h.shape
  simp only [shapedB, Bool.and_eq_true, decide_eq_true_eq] at this ⊢
  exact ⟨⟨⟨⟨⟨this.1.1.1.1.1, h0⟩, this.1.1.1.2⟩, this.1.1.2⟩, this.1.2⟩, this.2⟩
end
end Go.Proofs.YtagcbljfaflhoaaDoor

/-! ### Trees by what they are made of (plain): a list of nodes with a beginning for each subtree is a tree; subtrees are trees, their subtrees are the tree's. -/
namespace Go.Proofs.YtagcbljfaflhoaaDoor
theorem lget_range {l : Nat → Nat} {k j : Nat} (h : j < k) : lget ((List.range k).map l) j = l j := by
  simp [lget, List.getD_eq_getElem?_getD, h]
theorem shp_bg {n : Nat} {f : Nat → Nod} {l : Nat → Nat} (h : Shp n f l) (hf : ∀ j, j < n → fieldsB (f j) = true) : ∀ k, k ≤ n → bg f k = some ((List.range k).map l)
  | 0, _ => rfl
  | k + 1, hk => by
    have ih := shp_bg h hf k (by omega)
    have hkind := h.kind k (by omega)
    have hle := h.le k (by omega)
    have hfk := hf k (by omega)
    rw [List.range_succ, List.map_append, List.map_cons, List.map_nil]
    refine bg_next ih ?_
    rcases hkind with ⟨h0, ha, hb, hl⟩ | ⟨h1, h2, ha, hb, hl⟩ | ⟨h1, h2, hb, h3, ha, hl⟩
    · rw [res_zero h0 hfk ha hb, hl]
    · rw [res_one h1 hfk h2 ha hb, lget_range (by omega), hl]
    · have hle1 := h.le (k - 1) (by omega)
      rw [res_two h1 hfk h2 hb (by rw [lget_range (by omega)]; exact h3) (by rw [lget_range (by omega)]; exact ha), lget_range (j := k - 1) (by omega), lget_range (by omega), hl]
theorem shp_tree {n : Nat} {f : Nat → Nod} {l : Nat → Nat} (h : Shp n f l) (hf : ∀ j, j < n → fieldsB (f j) = true) (h0 : 0 < n) (hr : l (n - 1) = 0) : treeB n f = true ∧ ∀ j, j < n → begF n f j = l j := by
  have hb := shp_bg h hf n (Nat.le_refl _)
  refine ⟨?_, fun j hj => ?_⟩
  · rw [tree_end hb, lget_range (by omega), hr]
    exact decide_eq_true ⟨h0, rfl⟩
  · unfold begF
    rw [hb]
    exact lget_range hj
theorem sub_shp {n : Nat} {f : Nat → Nod} {l : Nat → Nat} (h : Shp n f l) {r : Nat} (hr : r < n) : Shp (r - l r + 1) (fun i => shiftN (f (l r + i)) (l r)) (fun j => l (l r + j) - l r) := by
  have hlr := h.le r hr
  refine ⟨fun j hj => ?_, fun j hj => ?_⟩
  · have := h.le (l r + j) (by omega)
    omega
  · have hn := h.nest r hr (l r + j) (by omega) (by omega)
    rcases h.kind (l r + j) (by omega) with ⟨h0, ha, hb, hl⟩ | ⟨h1, h2, ha, hb, hl⟩ | ⟨h1, h2, hb, h3, ha, hl⟩
    · refine .inl ⟨h0, ?_, ?_, ?_⟩
      · show (if 0 ≤ (f (l r + j)).a then (f (l r + j)).a - (l r : Nat) else (f (l r + j)).a) = -1
        rw [ha]; rfl
      · show (if 0 ≤ (f (l r + j)).b then (f (l r + j)).b - (l r : Nat) else (f (l r + j)).b) = -1
        rw [hb]; rfl
      · show l (l r + j) - l r = j
        omega
    · have hp := h.le (l r + j - 1) (by omega)
      have hj1 : 1 ≤ j := by omega
      refine .inr (.inl ⟨h1, hj1, ?_, ?_, ?_⟩)
      · show (if 0 ≤ (f (l r + j)).a then (f (l r + j)).a - (l r : Nat) else (f (l r + j)).a) = (j : Int) - 1
        rw [if_pos (by omega)]; omega
      · show (if 0 ≤ (f (l r + j)).b then (f (l r + j)).b - (l r : Nat) else (f (l r + j)).b) = -1
        rw [hb]; rfl
      · show l (l r + j) - l r = l (l r + (j - 1)) - l r
        rw [hl, show l r + (j - 1) = l r + j - 1 by omega]
    · have hp := h.le (l r + j - 1) (by omega)
      have hq := h.le (l (l r + j - 1) - 1) (by omega)
      have hj1 : 1 ≤ j := by omega
      have e1 : l r + (j - 1) = l r + j - 1 := by omega
      refine .inr (.inr ⟨h1, hj1, ?_, ?_, ?_, ?_⟩)
      · show (if 0 ≤ (f (l r + j)).b then (f (l r + j)).b - (l r : Nat) else (f (l r + j)).b) = (j : Int) - 1
        rw [if_pos (by omega)]; omega
      · show 1 ≤ l (l r + (j - 1)) - l r
        rw [e1]; omega
      · show (if 0 ≤ (f (l r + j)).a then (f (l r + j)).a - (l r : Nat) else (f (l r + j)).a) = ((l (l r + (j - 1)) - l r : Nat) : Int) - 1
        rw [e1, if_pos (by omega)]; omega
      · show l (l r + j) - l r = l (l r + (l (l r + (j - 1)) - l r - 1)) - l r
        rw [e1, hl, show l r + (l (l r + j - 1) - l r - 1) = l (l r + j - 1) - 1 by omega]
theorem sub_fields {n : Nat} {f : Nat → Nod} {l : Nat → Nat} (h : Shp n f l) (hf : ∀ j, j < n → fieldsB (f j) = true) {r : Nat} (hr : r < n) : ∀ j, j < r - l r + 1 → fieldsB (shiftN (f (l r + j)) (l r)) = true := by
  intro j hj
  have := h.le r hr
  exact hf (l r + j) (by omega)
/-- A subtree's size, at a place of the tree. -/
theorem size_at {n : Nat} {f : Nat → Nod} (ht : treeB n f = true) {r : Nat} (hr : r < n) : sizeI n f (r : Int) = r - begF n f r + 1 := by
  rw [sizeI, if_pos ⟨ht, by omega, by omega⟩, Int.toNat_natCast]
theorem size_off {n : Nat} {f : Nat → Nod} {root : Int} (h : ¬ (treeB n f = true ∧ 0 ≤ root ∧ root < n)) : sizeI n f root = 0 := by
  rw [sizeI, if_neg h]
/-- A subtree is a tree; where its own subtrees begin. -/
theorem sub_tree {n : Nat} {f : Nat → Nod} (ht : treeB n f = true) {r : Nat} (hr : r < n) : treeB (sizeI n f r) (subF n f r) = true ∧ ∀ j, j < sizeI n f r → begF (sizeI n f r) (subF n f r) j = begF n f (begF n f r + j) - begF n f r := by
  obtain ⟨h0, hs, hr0, hf⟩ := tree_shp ht
  have hle := hs.le r hr
  rw [size_at ht hr]
  have e : subF n f (r : Int) = fun i => shiftN (f (begF n f r + i)) (begF n f r) := by
    funext i
    rw [subF, Int.toNat_natCast]
  rw [e]
  refine shp_tree (sub_shp hs hr) (sub_fields hs hf hr) (by omega) ?_
  show begF n f (begF n f r + (r - begF n f r + 1 - 1)) - begF n f r = 0
  rw [show begF n f r + (r - begF n f r + 1 - 1) = r by omega]
  omega
/-- A subtree's size: 1 and its operands'. -/
theorem size_rec {n : Nat} {f : Nat → Nod} (ht : treeB n f = true) {r : Nat} (hr : r < n) : sizeI n f r = 1 + (if 0 ≤ (f r).a then sizeI n f (f r).a else 0) + (if 0 ≤ (f r).b then sizeI n f (f r).b else 0) := by
  obtain ⟨h0, hs, hr0, hf⟩ := tree_shp ht
  have hle := hs.le r hr
  rw [size_at ht hr]
  rcases hs.kind r hr with ⟨h0, ha, hb, hl⟩ | ⟨h1, h2, ha, hb, hl⟩ | ⟨h1, h2, hb, h3, ha, hl⟩
  · rw [ha, hb, if_neg (by omega)]
    omega
  · have hp := hs.le (r - 1) (by omega)
    rw [hb, if_pos (show 0 ≤ (f r).a by omega), if_neg (by omega), show (f r).a = ((r - 1 : Nat) : Int) by omega, size_at ht (by omega)]
    omega
  · have hp := hs.le (r - 1) (by omega)
    have hq := hs.le (begF n f (r - 1) - 1) (by omega)
    rw [if_pos (show 0 ≤ (f r).a by omega), if_pos (show 0 ≤ (f r).b by omega), show (f r).b = ((r - 1 : Nat) : Int) by omega, show (f r).a = ((begF n f (r - 1) - 1 : Nat) : Int) by omega, size_at ht (by omega), size_at ht (by omega)]
    omega
/-- A subtree's own subtrees are the tree's. -/
theorem sub_sub {n : Nat} {f : Nat → Nod} (ht : treeB n f = true) {r : Nat} (hr : r < n) {i : Nat} (hi : i < sizeI n f r) :
    sizeI (sizeI n f r) (subF n f r) i = sizeI n f ((begF n f r + i : Nat) : Int) ∧ ∀ j, j < sizeI n f ((begF n f r + i : Nat) : Int) → subF (sizeI n f r) (subF n f r) i j = subF n f ((begF n f r + i : Nat) : Int) j := by
  obtain ⟨h0, hs, hr0, hf⟩ := tree_shp ht
  have hle := hs.le r hr
  have hsz := size_at ht hr
  obtain ⟨ht', hb'⟩ := sub_tree ht hr
  have hin : begF n f r + i < n := by omega
  have hn := hs.nest r hr (begF n f r + i) (by omega) (by omega)
  have hl := hs.le (begF n f r + i) hin
  have e1 : sizeI (sizeI n f r) (subF n f r) i = sizeI n f ((begF n f r + i : Nat) : Int) := by
    rw [size_at ht' hi, size_at ht hin, hb' i hi]
    omega
  refine ⟨e1, fun j hj => ?_⟩
  rw [size_at ht hin] at hj
  have hx := hs.rng (j := begF n f (begF n f r + i) + j) (by omega)
  have e2 : subF n f ((begF n f r + i : Nat) : Int) j = shiftN (f (begF n f (begF n f r + i) + j)) (begF n f (begF n f r + i)) := by
    rw [subF, Int.toNat_natCast]
  have e3 : subF (sizeI n f r) (subF n f r) i j = shiftN (shiftN (f (begF n f (begF n f r + i) + j)) (begF n f r)) (begF n f (begF n f r + i) - begF n f r) := by
    rw [subF, Int.toNat_natCast, hb' i hi, subF, Int.toNat_natCast, show begF n f r + (begF n f (begF n f r + i) - begF n f r + j) = begF n f (begF n f r + i) + j by omega]
  rw [e2, e3]
  have hk := hs.kind (begF n f (begF n f r + i) + j) (by omega)
  have hni := hs.nest (begF n f r + i) hin (begF n f (begF n f r + i) + j) (by omega) (by omega)
  generalize f (begF n f (begF n f r + i) + j) = x at *
  have key : ∀ c : Int, c < 0 ∨ (begF n f (begF n f r + i) : Int) ≤ c → (if 0 ≤ (if 0 ≤ c then c - (begF n f r : Nat) else c) then (if 0 ≤ c then c - (begF n f r : Nat) else c) - (begF n f (begF n f r + i) - begF n f r : Nat) else (if 0 ≤ c then c - (begF n f r : Nat) else c)) = if 0 ≤ c then c - (begF n f (begF n f r + i) : Nat) else c := by
    intro c hc
    by_cases h : 0 ≤ c
    · rw [if_pos h, if_pos h, if_pos (by omega)]; omega
    · rw [if_neg h, if_neg h, if_neg h]
  have hA : x.a < 0 ∨ (begF n f (begF n f r + i) : Int) ≤ x.a := by
    rcases hk with ⟨_, ha, _, _⟩ | ⟨_, h2, ha, _, hl2⟩ | ⟨_, h2, hb, h3, ha, hl2⟩
    · exact .inl (by omega)
    · have := hs.le (begF n f (begF n f r + i) + j - 1) (by omega)
      exact .inr (by omega)
    · have := hs.le (begF n f (begF n f r + i) + j - 1) (by omega)
      have := hs.le (begF n f (begF n f (begF n f r + i) + j - 1) - 1) (by omega)
      exact .inr (by omega)
  have hB : x.b < 0 ∨ (begF n f (begF n f r + i) : Int) ≤ x.b := by
    rcases hk with ⟨_, _, hb, _⟩ | ⟨_, h2, ha, hb, hl2⟩ | ⟨_, h2, hb, h3, ha, hl2⟩
    · exact .inl (by omega)
    · exact .inl (by omega)
    · have := hs.le (begF n f (begF n f r + i) + j - 1) (by omega)
      have := hs.le (begF n f (begF n f (begF n f r + i) + j - 1) - 1) (by omega)
      exact .inr (by omega)
  simp only [shiftN, Nod.mk.injEq, true_and]
  exact ⟨key _ hA, key _ hB⟩
/-- A subtree's last node is the one it is of. -/
theorem sub_last {n : Nat} {f : Nat → Nod} (ht : treeB n f = true) {r : Nat} (hr : r < n) : subF n f r (sizeI n f r - 1) = shiftN (f r) (begF n f r) := by
  obtain ⟨h0, hs, hr0, hf⟩ := tree_shp ht
  have hle := hs.le r hr
  rw [size_at ht hr, subF, Int.toNat_natCast, show begF n f r + (r - begF n f r + 1 - 1) = r by omega]
end Go.Proofs.YtagcbljfaflhoaaDoor

/-! ### The tree (c AND d): plain: its shape, its conjuncts, what is wrong with it as a query's WHERE. -/
namespace Go.Proofs.YtagcbljfaflhoaaDoor
/-- A node, its operands' places counted from further up. -/
def upN (x : Nod) (d : Nat) : Nod := ⟨x.op, x.n, x.vr, x.at_, if 0 ≤ x.a then x.a + d else x.a, if 0 ≤ x.b then x.b + d else x.b⟩
/-- (c AND d). -/
def bothF (cn : Nat) (cf : Nat → Nod) (dn : Nat) (df : Nat → Nod) (i : Nat) : Nod :=
  if i < cn then cf i else if i < cn + dn then upN (df (i - cn)) cn else ⟨25, 0, .empty, .empty, (cn : Int) - 1, ((cn + dn : Nat) : Int) - 1⟩
def bothL (cn : Nat) (lc : Nat → Nat) (dn : Nat) (ld : Nat → Nat) (i : Nat) : Nat := if i < cn then lc i else if i < cn + dn then cn + ld (i - cn) else 0
section
variable {cn dn : Nat} {cf df : Nat → Nod} {lc ld : Nat → Nat}
theorem both_c {i : Nat} (h : i < cn) : bothF cn cf dn df i = cf i := by rw [bothF, if_pos h]
theorem both_d {i : Nat} (h : i < dn) : bothF cn cf dn df (cn + i) = upN (df i) cn := by
  rw [bothF, if_neg (by omega), if_pos (by omega), show cn + i - cn = i by omega]
theorem both_last : bothF cn cf dn df (cn + dn) = ⟨25, 0, .empty, .empty, (cn : Int) - 1, ((cn + dn : Nat) : Int) - 1⟩ := by
  rw [bothF, if_neg (by omega), if_neg (by omega)]
theorem bothL_c {i : Nat} (h : i < cn) : bothL cn lc dn ld i = lc i := by rw [bothL, if_pos h]
theorem bothL_d {i : Nat} (h : i < dn) : bothL cn lc dn ld (cn + i) = cn + ld i := by
  rw [bothL, if_neg (by omega), if_pos (by omega), show cn + i - cn = i by omega]
theorem bothL_last : bothL cn lc dn ld (cn + dn) = 0 := by rw [bothL, if_neg (by omega), if_neg (by omega)]
theorem both_shp (hc : Shp cn cf lc) (hd : Shp dn df ld) (h0 : 0 < cn) (h1 : 0 < dn) (hc0 : lc (cn - 1) = 0) (hd0 : ld (dn - 1) = 0) : Shp (cn + dn + 1) (bothF cn cf dn df) (bothL cn lc dn ld) := by
  have key : ∀ j, j < cn + dn + 1 → j < cn ∨ (∃ i, i < dn ∧ j = cn + i) ∨ j = cn + dn := by
    intro j hj
    rcases Nat.lt_or_ge j cn with h | h
    · exact .inl h
    · rcases Nat.lt_or_ge j (cn + dn) with h2 | h2
      · exact .inr (.inl ⟨j - cn, by omega, by omega⟩)
      · exact .inr (.inr (by omega))
  refine ⟨fun j hj => ?_, fun j hj => ?_⟩
  · rcases key j hj with h | ⟨i, h, rfl⟩ | rfl
    · rw [bothL_c h]; exact hc.le j h
    · rw [bothL_d h]; have := hd.le i h; omega
    · rw [bothL_last]; omega
  · rcases key j hj with h | ⟨i, h, rfl⟩ | rfl
    · rw [both_c h]
      have hle := hc.le
      rcases hc.kind j h with ⟨k0, ha, hb, hl⟩ | ⟨k1, k2, ha, hb, hl⟩ | ⟨k1, k2, hb, k3, ha, hl⟩
      · exact .inl ⟨k0, ha, hb, by rw [bothL_c h]; exact hl⟩
      · exact .inr (.inl ⟨k1, k2, ha, hb, by rw [bothL_c h, bothL_c (by omega)]; exact hl⟩)
      · have := hle (j - 1) (by omega)
        exact .inr (.inr ⟨k1, k2, hb, by rw [bothL_c (by omega)]; exact k3, by rw [bothL_c (by omega)]; exact ha, by rw [bothL_c h, bothL_c (i := j - 1) (by omega), bothL_c (by omega)]; exact hl⟩)
    · rw [both_d h]
      have hle := hd.le
      rcases hd.kind i h with ⟨k0, ha, hb, hl⟩ | ⟨k1, k2, ha, hb, hl⟩ | ⟨k1, k2, hb, k3, ha, hl⟩
      · refine .inl ⟨k0, ?_, ?_, by rw [bothL_d h, hl]⟩
        · show (if 0 ≤ (df i).a then (df i).a + cn else (df i).a) = -1
          rw [if_neg (by omega)]; exact ha
        · show (if 0 ≤ (df i).b then (df i).b + cn else (df i).b) = -1
          rw [if_neg (by omega)]; exact hb
      · refine .inr (.inl ⟨k1, by omega, ?_, ?_, ?_⟩)
        · show (if 0 ≤ (df i).a then (df i).a + cn else (df i).a) = ((cn + i : Nat) : Int) - 1
          rw [if_pos (by omega)]; omega
        · show (if 0 ≤ (df i).b then (df i).b + cn else (df i).b) = -1
          rw [if_neg (by omega)]; exact hb
        · rw [bothL_d h, show cn + i - 1 = cn + (i - 1) by omega, bothL_d (by omega), hl]
      · have hq := hle (i - 1) (by omega)
        have e1 : cn + i - 1 = cn + (i - 1) := by omega
        refine .inr (.inr ⟨k1, by omega, ?_, ?_, ?_, ?_⟩)
        · show (if 0 ≤ (df i).b then (df i).b + cn else (df i).b) = ((cn + i : Nat) : Int) - 1
          rw [if_pos (by omega)]; omega
        · rw [e1, bothL_d (by omega)]; omega
        · show (if 0 ≤ (df i).a then (df i).a + cn else (df i).a) = _
          rw [e1, bothL_d (by omega), if_pos (by omega)]; omega
        · rw [bothL_d h, e1, bothL_d (i := i - 1) (by omega), show cn + ld (i - 1) - 1 = cn + (ld (i - 1) - 1) by omega, bothL_d (by omega), hl]
    · rw [both_last]
      have e1 : cn + dn - 1 = cn + (dn - 1) := by omega
      refine .inr (.inr ⟨rfl, by omega, by show ((cn + dn : Nat) : Int) - 1 = _; omega, ?_, ?_, ?_⟩)
      · rw [e1, bothL_d (by omega)]; omega
      · show (cn : Int) - 1 = _
        rw [e1, bothL_d (by omega), hd0]; omega
      · rw [bothL_last, e1, bothL_d (i := dn - 1) (by omega), hd0, bothL_c (by omega), show cn + 0 - 1 = cn - 1 by omega, hc0]
theorem both_tree (hc : treeB cn cf = true) (hd : treeB dn df = true) : treeB (cn + dn + 1) (bothF cn cf dn df) = true ∧ ∀ j, j < cn + dn + 1 → begF (cn + dn + 1) (bothF cn cf dn df) j = bothL cn (begF cn cf) dn (begF dn df) j := by
  obtain ⟨h0, sc, c0, fc⟩ := tree_shp hc
  obtain ⟨h1, sd, d0, fd⟩ := tree_shp hd
  refine shp_tree (both_shp sc sd h0 h1 c0 d0) (fun j hj => ?_) (by omega) (by rw [show cn + dn + 1 - 1 = cn + dn by omega, bothL_last])
  rcases Nat.lt_or_ge j cn with h | h
  · rw [both_c h]; exact fc j h
  · rcases Nat.lt_or_ge j (cn + dn) with h2 | h2
    · rw [show j = cn + (j - cn) by omega, both_d (by omega)]
      exact fd (j - cn) (by omega)
    · rw [show j = cn + dn by omega, both_last]
      simp only [fieldsB, numB, varB, attB, toList_empty]
      rfl
theorem conj_c (hc : Shp cn cf lc) : ∀ k r, r < cn → conjF (bothF cn cf dn df) k r = conjF cf k r
  | 0, _, _ => rfl
  | k + 1, r, hr => by
    rw [conjF, conjF, both_c hr]
    by_cases ho : (cf r).op = 25
    · obtain ⟨k2, hb, k3, ha, _⟩ := and_kind hc hr ho
      have := hc.le (r - 1) (by omega)
      rw [if_pos ho, if_pos ho, conj_c hc k _ (by omega), conj_c hc k _ (by omega)]
    · rw [if_neg ho, if_neg ho]
theorem conj_d (hd : Shp dn df ld) : ∀ k r, r < dn → conjF (bothF cn cf dn df) k (cn + r) = (conjF df k r).map (cn + ·)
  | 0, _, _ => rfl
  | k + 1, r, hr => by
    rw [conjF, conjF, both_d hr]
    show (if (df r).op = 25 then _ else _) = _
    by_cases ho : (df r).op = 25
    · obtain ⟨k2, hb, k3, ha, _⟩ := and_kind hd hr ho
      have := hd.le (r - 1) (by omega)
      have ea : (upN (df r) cn).a.toNat = cn + (df r).a.toNat := by
        show (if 0 ≤ (df r).a then (df r).a + cn else (df r).a).toNat = _
        rw [if_pos (by omega)]; omega
      have eb : (upN (df r) cn).b.toNat = cn + (df r).b.toNat := by
        show (if 0 ≤ (df r).b then (df r).b + cn else (df r).b).toNat = _
        rw [if_pos (by omega)]; omega
      rw [if_pos ho, if_pos ho, ea, eb, conj_d hd k _ (by omega), conj_d hd k _ (by omega), List.map_append]
    · rw [if_neg ho, if_neg ho]
      rfl
theorem both_conj (hc : treeB cn cf = true) (hd : treeB dn df = true) : conjL (cn + dn + 1) (bothF cn cf dn df) = conjL cn cf ++ (conjL dn df).map (cn + ·) := by
  obtain ⟨h0, sc, c0, fc⟩ := tree_shp hc
  obtain ⟨h1, sd, d0, fd⟩ := tree_shp hd
  rw [conjL, if_pos (both_tree hc hd).1, conjL, if_pos hc, conjL, if_pos hd, conjF, show cn + dn + 1 - 1 = cn + dn by omega, both_last, if_pos rfl]
  show conjF _ (cn + dn) ((cn : Int) - 1).toNat ++ conjF _ (cn + dn) (((cn + dn : Nat) : Int) - 1).toNat = _
  rw [show ((cn : Int) - 1).toNat = cn - 1 by omega, show (((cn + dn : Nat) : Int) - 1).toNat = cn + (dn - 1) by omega, conj_c sc _ _ (by omega), conj_d sd _ _ (by omega), conjF_more sc (cn - 1) (by omega) (cn + dn) cn (by omega) (by omega), conjF_more sd (dn - 1) (by omega) (cn + dn) dn (by omega) (by omega)]
end
/-- What a list of nodes mentions, by its operators and names. -/
theorem uses_congr {P : Int → Bool} {n : Nat} {it : Nat → Itm} {t t' : Nat → Nod} {k m : Nat} (h : ∀ j, j < k → (t j).op = (t' j).op ∧ (t j).vr = (t' j).vr) : usesL P n it t k m = usesL P n it t' k m := by
  have e : ∀ i, anyU P n it t k i = anyU P n it t' k i := by
    intro i
    unfold anyU
    rw [Bool.eq_iff_iff, List.any_eq_true, List.any_eq_true]
    constructor
    · rintro ⟨j, hj, hp⟩
      obtain ⟨e1, e2⟩ := h j (List.mem_range.1 hj)
      exact ⟨j, hj, by rw [← e1, ← e2]; exact hp⟩
    · rintro ⟨j, hj, hp⟩
      obtain ⟨e1, e2⟩ := h j (List.mem_range.1 hj)
      exact ⟨j, hj, by rw [e1, e2]; exact hp⟩
  unfold usesL
  exact List.filter_congr fun i _ => e i
/-- Does what the conjunct mentions touch more than one such item? -/
def rootMix (Q : Qry) (n : Nat) (f : Nat → Nod) (root : Nat) : Bool := mixB Q (usesL bareB Q.n Q.it (subF n f root) (sizeI n f root) Q.n)
theorem walkP_ok {S : Sch} {Q : Qry} {r : Bool} {n : Nat} {f : Nat → Nod} : (walkP S Q r n f).2 = 0 ↔ ∀ j, j < n → nodeE S Q r f j = 0 := by
  rcases firstI_or (fun i => nodeE S Q r f i != 0) n with ⟨e, hn⟩ | ⟨j, hj, e, hp, hb⟩
  · rw [walkP_none hn]
    refine ⟨fun _ k hk => ?_, fun _ => rfl⟩
    have := hn k hk
    rwa [bne_eq_false_iff_eq] at this
  · rw [bne_iff_ne] at hp
    rw [walkP_hit hj rfl hp hb]
    exact ⟨fun h => absurd h hp, fun h => absurd (h j hj) hp⟩
theorem treeP_ok {S : Sch} {Q : Qry} {r : Bool} {n : Nat} {f : Nat → Nod} : (treeP S Q r n f).2 = 0 ↔ (∀ j, j < n → nodeE S Q r f j = 0) ∧ isTruthB n f = !r := by
  unfold treeP
  by_cases h : (walkP S Q r n f).2 = 0
  · by_cases h2 : isTruthB n f = r
    · rw [if_pos ⟨h, h2⟩]
      refine ⟨fun h => (by cases h), fun h => ?_⟩
      rw [h2] at h
      cases r <;> simp at h
    · rw [if_neg (fun h => h2 h.2)]
      refine ⟨fun h => ⟨walkP_ok.1 h, ?_⟩, fun h => walkP_ok.2 h.1⟩
      cases h3 : isTruthB n f <;> cases r <;> simp_all
  · rw [if_neg (fun h' => h h'.1)]
    exact ⟨fun h' => absurd h' h, fun h' => absurd (walkP_ok.2 h'.1) h⟩
theorem whereF_ok {S : Sch} {Q : Qry} : (whereF S Q).code = 0 ↔ Q.wn = 0 ∨ ((∀ j, j < Q.wn → nodeE S Q false Q.wh j = 0) ∧ isTruthB Q.wn Q.wh = true ∧ ∀ root ∈ conjL Q.wn Q.wh, rootMix Q Q.wn Q.wh root = false) := by
  unfold whereF
  by_cases h0 : Q.wn = 0
  · rw [if_pos h0]
    exact ⟨fun _ => .inl h0, fun _ => rfl⟩
  · rw [if_neg h0]
    by_cases h1 : (treeP S Q false Q.wn Q.wh).2 = 0
    · rw [if_neg (by rw [h1]; simp)]
      have h2 := treeP_ok.1 h1
      have e : (fun root : Nat => mixB Q (usesL bareB Q.n Q.it (subF Q.wn Q.wh root) (sizeI Q.wn Q.wh root) Q.n)) = rootMix Q Q.wn Q.wh := rfl
      rw [e]
      cases hf : (conjL Q.wn Q.wh).find? (rootMix Q Q.wn Q.wh) with
      | none =>
        refine ⟨fun _ => .inr ⟨h2.1, h2.2, fun root hr => ?_⟩, fun _ => rfl⟩
        have := List.find?_eq_none.1 hf root hr
        simpa using this
      | some root =>
        refine ⟨fun h => (by cases h), fun h => ?_⟩
        rcases h with h | h
        · exact absurd h h0
        · have hp := List.find?_some hf
          rw [h.2.2 root (List.mem_of_find?_eq_some hf)] at hp
          cases hp
    · rw [if_pos h1]
      refine ⟨fun h => absurd h h1, fun h => ?_⟩
      rcases h with h | h
      · exact absurd h h0
      · exact absurd (treeP_ok.2 ⟨h.1, h.2.1⟩) h1
section
variable {S : Sch} {Q : Qry} {cn dn : Nat} {cf df : Nat → Nod}
/-- The query with another WHERE. -/
def withW (Q : Qry) (n : Nat) (f : Nat → Nod) : Qry := { Q with wn := n, wh := f }
theorem node_c (hc : treeB cn cf = true) {j : Nat} (hj : j < cn) : nodeE S Q false (bothF cn cf dn df) j = nodeE S Q false cf j := by
  have hr := (tree_shp hc).2.1.rng hj
  have kid : ∀ want (k : Int), k < cn → kidB (bothF cn cf dn df) want k = kidB cf want k := by
    intro want k hk
    unfold kidB
    by_cases h : 0 ≤ k
    · rw [both_c (by omega)]
    · simp [h]
  have kk : kindsB (bothF cn cf dn df) (cf j) = kindsB cf (cf j) := by
    unfold kindsB
    rw [kid _ _ (by omega), kid _ _ (by omega)]
  unfold nodeE
  rw [both_c hj, kk]
theorem node_d (hd : treeB dn df = true) {j : Nat} (hj : j < dn) : nodeE S Q false (bothF cn cf dn df) (cn + j) = nodeE S Q false df j := by
  have hr := (tree_shp hd).2.1.rng hj
  have kid : ∀ want (k : Int), k < dn → kidB (bothF cn cf dn df) want (if 0 ≤ k then k + cn else k) = kidB df want k := by
    intro want k hk
    by_cases h : 0 ≤ k
    · rw [if_pos h]
      unfold kidB
      rw [show (k + cn).toNat = cn + k.toNat by omega, both_d (by omega), decide_eq_true (show 0 ≤ k + cn by omega), decide_eq_true h]
      rfl
    · rw [if_neg h, kid_neg (by omega), kid_neg (by omega)]
  have kk : kindsB (bothF cn cf dn df) (upN (df j) cn) = kindsB df (df j) := by
    unfold kindsB
    show (kidB _ (wantB (df j).op) (if 0 ≤ (df j).a then (df j).a + cn else (df j).a) && kidB _ (wantB (df j).op) (if 0 ≤ (df j).b then (df j).b + cn else (df j).b)) = _
    rw [kid _ _ (by omega), kid _ _ (by omega)]
  unfold nodeE
  rw [both_d hj, kk]
  rfl
theorem node_and (h0 : 0 < cn) (h1 : 0 < dn) : nodeE S Q false (bothF cn cf dn df) (cn + dn) = 0 ↔ isTruthB cn cf = true ∧ isTruthB dn df = true := by
  have e1 : kindsB (bothF cn cf dn df) (bothF cn cf dn df (cn + dn)) = (isTruthB cn cf && isTruthB dn df) := by
    rw [both_last]
    show (kidB _ true ((cn : Int) - 1) && kidB _ true (((cn + dn : Nat) : Int) - 1)) = _
    rw [show (cn : Int) - 1 = ((cn - 1 : Nat) : Int) by omega, show ((cn + dn : Nat) : Int) - 1 = ((cn + (dn - 1) : Nat) : Int) by omega, kid_at rfl, kid_at rfl, both_c (by omega), both_d (by omega)]
    simp only [isTruthB, decide_eq_true h0, decide_eq_true h1, Bool.true_and, Bool.bne_true, Bool.not_not]
    rfl
  have e2 : mentE S Q false (bothF cn cf dn df (cn + dn)) = 0 := by rw [both_last]; rfl
  unfold nodeE
  rw [e2, if_neg (by simp), e1]
  cases isTruthB cn cf <;> cases isTruthB dn df <;> simp
theorem root_c (hc : treeB cn cf = true) (hd : treeB dn df = true) {r : Nat} (hr : r < cn) : rootMix Q (cn + dn + 1) (bothF cn cf dn df) r = rootMix Q cn cf r := by
  obtain ⟨ht, hb⟩ := both_tree hc hd
  have hle := (tree_shp hc).2.1.le r hr
  have eb : begF (cn + dn + 1) (bothF cn cf dn df) r = begF cn cf r := by rw [hb r (by omega), bothL_c hr]
  unfold rootMix
  rw [size_at ht (by omega), size_at hc hr, eb]
  congr 1
  refine uses_congr fun j hj => ?_
  have e1 : subF (cn + dn + 1) (bothF cn cf dn df) (r : Int) j = shiftN (cf (begF cn cf r + j)) (begF cn cf r) := by
    rw [subF, Int.toNat_natCast, eb, both_c (by omega)]
  rw [e1, subF, Int.toNat_natCast]
  exact ⟨rfl, rfl⟩
theorem root_d (hc : treeB cn cf = true) (hd : treeB dn df = true) {r : Nat} (hr : r < dn) : rootMix Q (cn + dn + 1) (bothF cn cf dn df) (cn + r) = rootMix Q dn df r := by
  obtain ⟨ht, hb⟩ := both_tree hc hd
  have hle := (tree_shp hd).2.1.le r hr
  have eb : begF (cn + dn + 1) (bothF cn cf dn df) (cn + r) = cn + begF dn df r := by rw [hb _ (by omega), bothL_d hr]
  unfold rootMix
  rw [size_at ht (by omega), size_at hd hr, eb, show cn + r - (cn + begF dn df r) + 1 = r - begF dn df r + 1 by omega]
  congr 1
  refine uses_congr fun j hj => ?_
  have e1 : subF (cn + dn + 1) (bothF cn cf dn df) ((cn + r : Nat) : Int) j = shiftN (upN (df (begF dn df r + j)) cn) (cn + begF dn df r) := by
    rw [subF, Int.toNat_natCast, eb, show cn + begF dn df r + j = cn + (begF dn df r + j) by omega, both_d (by omega)]
  rw [e1, subF, Int.toNat_natCast]
  exact ⟨rfl, rfl⟩
theorem both_where (hc : treeB cn cf = true) (hd : treeB dn df = true) : (whereF S (withW Q (cn + dn + 1) (bothF cn cf dn df))).code = 0 ↔ (whereF S (withW Q cn cf)).code = 0 ∧ (whereF S (withW Q dn df)).code = 0 := by
  obtain ⟨h0, sc, c0, fc⟩ := tree_shp hc
  obtain ⟨h1, sd, d0, fd⟩ := tree_shp hd
  rw [whereF_ok, whereF_ok, whereF_ok]
  show (cn + dn + 1 = 0 ∨ ((∀ j, j < cn + dn + 1 → nodeE S Q false (bothF cn cf dn df) j = 0) ∧ isTruthB (cn + dn + 1) (bothF cn cf dn df) = true ∧ ∀ root ∈ conjL (cn + dn + 1) (bothF cn cf dn df), rootMix Q (cn + dn + 1) (bothF cn cf dn df) root = false)) ↔
    (cn = 0 ∨ ((∀ j, j < cn → nodeE S Q false cf j = 0) ∧ isTruthB cn cf = true ∧ ∀ root ∈ conjL cn cf, rootMix Q cn cf root = false)) ∧
    (dn = 0 ∨ ((∀ j, j < dn → nodeE S Q false df j = 0) ∧ isTruthB dn df = true ∧ ∀ root ∈ conjL dn df, rootMix Q dn df root = false))
  rw [both_conj hc hd]
  constructor
  · rintro (h | ⟨hn, ht, hr⟩)
    · omega
    · have hand := (node_and (S := S) (Q := Q) (cf := cf) (df := df) h0 h1).1 (hn (cn + dn) (by omega))
      refine ⟨.inr ⟨fun j hj => ?_, hand.1, fun root hroot => ?_⟩, .inr ⟨fun j hj => ?_, hand.2, fun root hroot => ?_⟩⟩
      · rw [← node_c (dn := dn) (df := df) hc hj]; exact hn j (by omega)
      · rw [← root_c hc hd (conjL_lt hc root hroot)]
        exact hr root (List.mem_append_left _ hroot)
      · rw [← node_d (cn := cn) (cf := cf) hd hj]; exact hn (cn + j) (by omega)
      · rw [← root_d hc hd (conjL_lt hd root hroot)]
        exact hr (cn + root) (List.mem_append_right _ (List.mem_map.2 ⟨root, hroot, rfl⟩))
  · rintro ⟨hC, hD⟩
    obtain ⟨hc1, hc2, hc3⟩ := hC.resolve_left (by omega)
    obtain ⟨hd1, hd2, hd3⟩ := hD.resolve_left (by omega)
    refine .inr ⟨fun j hj => ?_, ?_, fun root hroot => ?_⟩
    · rcases Nat.lt_or_ge j cn with h | h
      · rw [node_c hc h]; exact hc1 j h
      · rcases Nat.lt_or_ge j (cn + dn) with h2 | h2
        · rw [show j = cn + (j - cn) by omega, node_d hd (by omega)]
          exact hd1 _ (by omega)
        · rw [show j = cn + dn by omega]
          exact (node_and h0 h1).2 ⟨hc2, hd2⟩
    · rw [isTruthB, show cn + dn + 1 - 1 = cn + dn by omega, both_last, decide_eq_true (by omega)]
      rfl
    · rcases List.mem_append.1 hroot with h | h
      · rw [root_c hc hd (conjL_lt hc root h)]; exact hc3 root h
      · obtain ⟨r, hr, rfl⟩ := List.mem_map.1 h
        rw [root_d hc hd (conjL_lt hd r hr)]; exact hd3 r hr
theorem shape_with (hc : treeB cn cf = true) (hd : treeB dn df = true) : shapedB (withW Q cn cf) = shapedB (withW Q dn df) := by
  have h0 := (tree_shp hc).1
  have h1 := (tree_shp hd).1
  simp only [shapedB, withW, hc, hd, Bool.or_true]
  rfl
/-- (c AND d) is well formed in a query just if c is and d is. -/
theorem both_ok (hc : treeB cn cf = true) (hd : treeB dn df = true) : CheckOk S (withW Q (cn + dn + 1) (bothF cn cf dn df)) ↔ CheckOk S (withW Q cn cf) ∧ CheckOk S (withW Q dn df) := by
  have ht := (both_tree hc hd).1
  constructor
  · intro h
    have hw := (both_where hc hd).1 h.wher
    exact ⟨⟨h.sch, by rw [shape_with hc ht]; exact h.shape, h.items, hw.1, h.within, h.by_, h.many, h.rets⟩, ⟨h.sch, by rw [shape_with hd ht]; exact h.shape, h.items, hw.2, h.within, h.by_, h.many, h.rets⟩⟩
  · rintro ⟨h, h'⟩
    exact ⟨h.sch, by rw [shape_with ht hc]; exact h.shape, h.items, (both_where hc hd).2 ⟨h.wher, h'.wher⟩, h.within, h.by_, h.many, h.rets⟩
end
end Go.Proofs.YtagcbljfaflhoaaDoor

/-! ### The document's own gathering of what is wrong (plain): findings, which are there, which comes first. -/
namespace Go.Proofs.YtagcbljfaflhoaaDoor
/-- Something that is wrong. -/
structure Fnd where
  rule : Int
  rank : Int
  code : Int
  part : Int
  index : Int
  sub : Int
def Fnd.flw (x : Fnd) : Flw := ⟨x.code, x.part, x.index, x.sub⟩
/-- Does x come ahead of y? -/
def aheadB (x y : Fnd) : Bool := if x.rule ≠ y.rule then decide (x.rule < y.rule) else if x.index ≠ y.index then decide (x.index < y.index) else if x.sub ≠ y.sub then decide (x.sub < y.sub) else decide (x.rank < y.rank)
/-- x is the first of those. -/
def Least (M : Fnd → Prop) (x : Fnd) : Prop := M x ∧ ∀ y, M y → aheadB y x = false
/-- What is wrong with the pattern. -/
def mItem (S : Sch) (Q : Qry) (i : Nat) (x : Fnd) : Prop :=
  (∃ j, j < (Q.it i).tn ∧ typeI S ((Q.it i).ty j) < 0 ∧ x = ⟨4, 1, 61, 1, i, 0⟩) ∨
  (∃ j k, k < j ∧ j < (Q.it i).tn ∧ ((Q.it i).ty j).toList = ((Q.it i).ty k).toList ∧ x = ⟨4, 2, 62, 1, i, 0⟩) ∨
  (¬ (1 ≤ (Q.it i).lo ∧ (Q.it i).lo ≤ (Q.it i).hi ∧ (Q.it i).hi ≤ 4) ∧ x = ⟨4, 3, 63, 1, i, 0⟩) ∨
  (itemI Q.n Q.it (Q.it i).vr < i ∧ x = ⟨4, 4, 64, 1, i, 0⟩)
def mItems (S : Sch) (Q : Qry) (x : Fnd) : Prop :=
  (10 < Q.n ∧ x = ⟨3, 0, 60, 1, 10, 0⟩) ∨ (∃ i, i < Q.n ∧ mItem S Q i x) ∨ (allB (fun i => (Q.it i).neg) Q.n = true ∧ x = ⟨5, 0, 65, 1, 0, 0⟩)
/-- What node i of a tree earns: by rank. -/
def nodeR (S : Sch) (Q : Qry) (r : Bool) (f : Nat → Nod) (i : Nat) : Nat → Int
  | 1 => if (bareB (f i).op || aggB (f i).op) = true ∧ itemI Q.n Q.it (f i).vr = -1 then 68 else 0
  | 2 => if (bareB (f i).op || aggB (f i).op) = true ∧ itemI Q.n Q.it (f i).vr ≠ -1 ∧ (!((f i).op == 5) && !hasB S (Q.it (itemI Q.n Q.it (f i).vr).toNat) (f i).at_) = true then 69 else 0
  | 3 => if (bareB (f i).op || aggB (f i).op) = true ∧ itemI Q.n Q.it (f i).vr ≠ -1 ∧ ((aggB (f i).op && (Q.it (itemI Q.n Q.it (f i).vr).toNat).neg) || ((f i).op == 11 && !repB (Q.it (itemI Q.n Q.it (f i).vr).toNat)) || (r && bareB (f i).op && ((Q.it (itemI Q.n Q.it (f i).vr).toNat).neg || repB (Q.it (itemI Q.n Q.it (f i).vr).toNat)))) = true then 76 else 0
  | 4 => if (bareB (f i).op || aggB (f i).op) = false ∧ kindsB f (f i) = false then 75 else 0
  | _ => 0
/-- What is wrong with WHERE. -/
def mWhere (S : Sch) (Q : Qry) (x : Fnd) : Prop :=
  (∃ i r : Nat, i < Q.wn ∧ 1 ≤ r ∧ r ≤ 4 ∧ nodeR S Q false Q.wh i r ≠ 0 ∧ x = ⟨6, r, nodeR S Q false Q.wh i r, 4, i, 0⟩) ∨
  (0 < Q.wn ∧ isTruthB Q.wn Q.wh = false ∧ x = ⟨7, 0, 75, 4, (Q.wn : Int) - 1, 0⟩) ∨
  (∃ root ∈ conjL Q.wn Q.wh, rootMix Q Q.wn Q.wh root = true ∧ x = ⟨8, 0, 77, 4, root, 0⟩)
/-- What is wrong with the rest. -/
def mRest (S : Sch) (Q : Qry) (x : Fnd) : Prop :=
  (1099511627776 < Q.within ∧ x = ⟨9, 0, 66, 2, 0, 0⟩) ∨
  (Q.by_.toList.isEmpty = false ∧ (∃ i, i < Q.n ∧ (hasB S (Q.it i) Q.by_ = false ∨ Q.by_.toList = [116, 115])) ∧ x = ⟨10, 0, 67, 3, 0, 0⟩) ∨
  (8 < Q.m ∧ x = ⟨11, 0, 78, 5, 8, 0⟩) ∨
  (∃ k i r : Nat, k < Q.m ∧ i < Q.ln k ∧ 1 ≤ r ∧ r ≤ 4 ∧ nodeR S Q true (Q.rt k) i r ≠ 0 ∧ x = ⟨12, r, nodeR S Q true (Q.rt k) i r, 5, k, i⟩) ∨
  (∃ k : Nat, k < Q.m ∧ isTruthB (Q.ln k) (Q.rt k) = true ∧ x = ⟨12, 5, 75, 5, k, (Q.ln k : Int) - 1⟩)
section
variable {S : Sch} {Q : Qry}
theorem known_iff {x : Itm} : knownB S x = true ↔ ∀ j, j < x.tn → 0 ≤ typeI S (x.ty j) :=
  ⟨fun h j hj => of_decide_eq_true (of_all (p := fun j => decide (0 ≤ typeI S (x.ty j))) h hj), fun h => all_yes fun j hj => decide_eq_true (h j hj)⟩
theorem once_iff {x : Itm} : onceB x = true ↔ ∀ j, j < x.tn → ∀ k, k < j → (x.ty j).toList ≠ (x.ty k).toList := by
  constructor
  · intro h j hj k hk e
    have h1 := of_all (p := fun j => !twiceB x.ty j) h hj
    rw [show twiceB x.ty j = true from inB_hit hk (by rw [e]; exact beq_self_eq_true _)] at h1
    cases h1
  · intro h
    refine all_yes fun j hj => ?_
    show (!twiceB x.ty j) = true
    rw [show twiceB x.ty j = false from inB_none fun k hk => by rw [beq_eq_false_iff_ne]; exact fun e => h j hj k hk e.symm]
    rfl
theorem dup_iff {n i : Nat} {it : Nat → Itm} (hi : i < n) : itemI n it (it i).vr < i ↔ itemI i it (it i).vr ≠ -1 := by
  rcases itemI_or i it (it i).vr with h | ⟨j, hj, h⟩
  · rw [h]
    have hit : itemI n it (it i).vr = i := firstI_hit hi (beq_self_eq_true _) (by
      rcases firstI_or (fun k => (it k).vr.toList == (it i).vr.toList) i with ⟨_, h2⟩ | ⟨j, hj, e, _, _⟩
      · exact h2
      · exact absurd (h.symm.trans e) (by omega))
    rw [hit]
    simp
  · rw [h]
    have hit : itemI n it (it i).vr = j := by
      rcases firstI_or (fun k => (it k).vr.toList == (it i).vr.toList) i with ⟨e, _⟩ | ⟨j', hj', e, hp, hb⟩
      · exact absurd (h.symm.trans e) (by omega)
      · have : j' = j := by have := e.symm.trans h; omega
        subst this
        exact firstI_hit (by omega) hp hb
    rw [hit]
    constructor
    · intro _; omega
    · intro _; omega
theorem ahead_rank {x y : Fnd} (h1 : x.rule = y.rule) (h2 : x.index = y.index) (h3 : x.sub = y.sub) (h4 : y.rank ≤ x.rank) : aheadB x y = false := by
  unfold aheadB
  rw [if_neg (by simp [h1]), if_neg (by simp [h2]), if_neg (by simp [h3])]
  exact decide_eq_false (by omega)
theorem ahead_index {x y : Fnd} (h1 : x.rule = y.rule) (h2 : y.index < x.index) : aheadB x y = false := by
  unfold aheadB
  rw [if_neg (by simp [h1]), if_pos (by omega)]
  exact decide_eq_false (by omega)
theorem ahead_rule {x y : Fnd} (h : y.rule < x.rule) : aheadB x y = false := by
  unfold aheadB
  rw [if_pos (by omega)]
  exact decide_eq_false (by omega)
theorem ahead_sub {x y : Fnd} (h1 : x.rule = y.rule) (h2 : x.index = y.index) (h3 : y.sub < x.sub) : aheadB x y = false := by
  unfold aheadB
  rw [if_neg (by simp [h1]), if_neg (by simp [h2]), if_pos (by omega)]
  exact decide_eq_false (by omega)
/-- What is wrong with item i by itself, and what comes first of it. -/
theorem item_least {i : Nat} (hi : i < Q.n) : if badI S Q.it i = 0 then ∀ x, ¬ mItem S Q i x else ∃ x, Least (mItem S Q i) x ∧ x.flw = ⟨badI S Q.it i, 1, i, 0⟩ ∧ x.rule = 4 := by
  have hd := dup_iff (it := Q.it) hi
  have shape : ∀ y, mItem S Q i y → y.rule = 4 ∧ y.index = i ∧ y.sub = 0 ∧ 1 ≤ y.rank := by
    rintro y (⟨j, _, _, rfl⟩ | ⟨j, k, _, _, _, rfl⟩ | ⟨_, rfl⟩ | ⟨_, rfl⟩) <;> exact ⟨rfl, rfl, rfl, by dsimp only; decide⟩
  by_cases h1 : knownB S (Q.it i) = true
  · have k1 := known_iff.1 h1
    by_cases h2 : onceB (Q.it i) = true
    · have k2 := once_iff.1 h2
      by_cases h3 : 1 ≤ (Q.it i).lo ∧ (Q.it i).lo ≤ (Q.it i).hi ∧ (Q.it i).hi ≤ 4
      · have e0 : itemE S (Q.it i) = 0 := by rw [itemE, if_neg (by rw [h1]; simp), if_neg (by rw [h2]; simp), if_pos h3]
        by_cases h4 : itemI i Q.it (Q.it i).vr = -1
        · have eb : badI S Q.it i = 0 := by rw [badI, e0, if_neg (by simp), if_pos h4]
          rw [if_pos eb]
          rintro x (⟨j, hj, hn, _⟩ | ⟨j, k, hk, hj, he, _⟩ | ⟨hr, _⟩ | ⟨hv, _⟩)
          · have := k1 j hj; omega
          · exact k2 j hj k hk he
          · exact hr h3
          · exact hd.1 hv h4
        · have eb : badI S Q.it i = 64 := by rw [badI, e0, if_neg (by simp), if_neg h4]
          rw [if_neg (by rw [eb]; decide), eb]
          refine ⟨⟨4, 4, 64, 1, i, 0⟩, ⟨.inr (.inr (.inr ⟨hd.2 h4, rfl⟩)), ?_⟩, rfl, rfl⟩
          rintro y (⟨j, hj, hn, _⟩ | ⟨j, k, hk, hj, he, _⟩ | ⟨hr, _⟩ | ⟨hv, rfl⟩)
          · have := k1 j hj; omega
          · exact absurd he (k2 j hj k hk)
          · exact absurd h3 hr
          · exact ahead_rank rfl rfl rfl (by dsimp only; decide)
      · have e0 : itemE S (Q.it i) = 63 := by rw [itemE, if_neg (by rw [h1]; simp), if_neg (by rw [h2]; simp), if_neg h3]
        have eb : badI S Q.it i = 63 := by rw [badI, e0, if_pos (by decide)]
        rw [if_neg (by rw [eb]; decide), eb]
        refine ⟨⟨4, 3, 63, 1, i, 0⟩, ⟨.inr (.inr (.inl ⟨h3, rfl⟩)), ?_⟩, rfl, rfl⟩
        rintro y (⟨j, hj, hn, _⟩ | ⟨j, k, hk, hj, he, _⟩ | ⟨hr, rfl⟩ | ⟨hv, rfl⟩)
        · have := k1 j hj; omega
        · exact absurd he (k2 j hj k hk)
        · exact ahead_rank rfl rfl rfl (by dsimp only; decide)
        · exact ahead_rank rfl rfl rfl (by dsimp only; decide)
    · have hx : ∃ j k, k < j ∧ j < (Q.it i).tn ∧ ((Q.it i).ty j).toList = ((Q.it i).ty k).toList := by
        rcases Classical.em (∃ j k, k < j ∧ j < (Q.it i).tn ∧ ((Q.it i).ty j).toList = ((Q.it i).ty k).toList) with h | h
        · exact h
        · exact absurd (once_iff.2 fun j hj k hk e => h ⟨j, k, hk, hj, e⟩) h2
      have e0 : itemE S (Q.it i) = 62 := by rw [itemE, if_neg (by rw [h1]; simp), if_pos (by simpa using h2)]
      have eb : badI S Q.it i = 62 := by rw [badI, e0, if_pos (by decide)]
      obtain ⟨j0, k0, hk0, hj0, he0⟩ := hx
      rw [if_neg (by rw [eb]; decide), eb]
      refine ⟨⟨4, 2, 62, 1, i, 0⟩, ⟨.inr (.inl ⟨j0, k0, hk0, hj0, he0, rfl⟩), ?_⟩, rfl, rfl⟩
      rintro y (⟨j, hj, hn, _⟩ | ⟨j, k, hk, hj, he, rfl⟩ | ⟨hr, rfl⟩ | ⟨hv, rfl⟩)
      · have := k1 j hj; omega
      · exact ahead_rank rfl rfl rfl (by dsimp only; decide)
      · exact ahead_rank rfl rfl rfl (by dsimp only; decide)
      · exact ahead_rank rfl rfl rfl (by dsimp only; decide)
  · have hx : ∃ j, j < (Q.it i).tn ∧ typeI S ((Q.it i).ty j) < 0 := by
      rcases Classical.em (∃ j, j < (Q.it i).tn ∧ typeI S ((Q.it i).ty j) < 0) with h | h
      · exact h
      · exact absurd (known_iff.2 fun j hj => by
          rcases Int.lt_or_le (typeI S ((Q.it i).ty j)) 0 with h' | h'
          · exact absurd ⟨j, hj, h'⟩ h
          · exact h') h1
    have e0 : itemE S (Q.it i) = 61 := by rw [itemE, if_pos (by simpa using h1)]
    have eb : badI S Q.it i = 61 := by rw [badI, e0, if_pos (by decide)]
    obtain ⟨j0, hj0, hn0⟩ := hx
    rw [if_neg (by rw [eb]; decide), eb]
    refine ⟨⟨4, 1, 61, 1, i, 0⟩, ⟨.inl ⟨j0, hj0, hn0, rfl⟩, ?_⟩, rfl, rfl⟩
    intro y hy
    obtain ⟨a1, a2, a3, a4⟩ := shape y hy
    exact ahead_rank a1 a2 a3 a4
theorem item_shape {i : Nat} {y : Fnd} (h : mItem S Q i y) : y.rule = 4 ∧ y.index = i := by
  rcases h with ⟨j, _, _, rfl⟩ | ⟨j, k, _, _, _, rfl⟩ | ⟨_, rfl⟩ | ⟨_, rfl⟩ <;> exact ⟨rfl, rfl⟩
theorem items_least : if (itemsF S Q).code = 0 then ∀ x, ¬ mItems S Q x else ∃ x, Least (mItems S Q) x ∧ x.flw = itemsF S Q := by
  by_cases h10 : 10 < Q.n
  · rw [itemsF_many h10, if_neg (by decide)]
    refine ⟨⟨3, 0, 60, 1, 10, 0⟩, ⟨.inl ⟨h10, rfl⟩, ?_⟩, rfl⟩
    rintro y (⟨_, rfl⟩ | ⟨i, hi, hy⟩ | ⟨_, rfl⟩)
    · exact ahead_rank rfl rfl rfl (Int.le_refl _)
    · exact ahead_rule (by rw [(item_shape hy).1]; decide)
    · exact ahead_rule (by decide)
  · rcases firstI_or (fun i => badI S Q.it i != 0) Q.n with ⟨e, hn⟩ | ⟨j, hj, e, hp, hb⟩
    · rw [itemsF_end h10 hn]
      have nob : ∀ i, i < Q.n → ∀ x, ¬ mItem S Q i x := fun i hi => by
        have h1 := hn i hi
        rw [bne_eq_false_iff_eq] at h1
        have h2 := item_least (S := S) hi
        rwa [if_pos h1] at h2
      by_cases hneg : allB (fun i => (Q.it i).neg) Q.n = true
      · rw [if_pos hneg, if_neg (by decide)]
        refine ⟨⟨5, 0, 65, 1, 0, 0⟩, ⟨.inr (.inr ⟨hneg, rfl⟩), ?_⟩, rfl⟩
        rintro y (⟨h, rfl⟩ | ⟨i, hi, hy⟩ | ⟨_, rfl⟩)
        · exact absurd h h10
        · exact absurd hy (nob i hi y)
        · exact ahead_rank rfl rfl rfl (Int.le_refl _)
      · rw [if_neg hneg, if_pos rfl]
        rintro y (⟨h, rfl⟩ | ⟨i, hi, hy⟩ | ⟨h, _⟩)
        · exact h10 h
        · exact nob i hi y hy
        · exact hneg h
    · rw [bne_iff_ne] at hp
      rw [itemsF_hit h10 hj hp hb, if_neg hp]
      have h2 := item_least (S := S) hj
      rw [if_neg hp] at h2
      obtain ⟨x, ⟨hx, hmin⟩, hf, hr⟩ := h2
      refine ⟨x, ⟨.inr (.inl ⟨j, hj, hx⟩), ?_⟩, hf⟩
      rintro y (⟨h, rfl⟩ | ⟨i, hi, hy⟩ | ⟨_, rfl⟩)
      · exact absurd h h10
      · rcases Nat.lt_trichotomy i j with h | h | h
        · have h1 := hb i h
          rw [bne_eq_false_iff_eq] at h1
          have h3 := item_least (S := S) hi
          rw [if_pos h1] at h3
          exact absurd hy (h3 y)
        · subst h
          exact hmin y hy
        · have a := item_shape hx
          have b := item_shape hy
          exact ahead_index (by rw [a.1, b.1]) (by rw [a.2, b.2]; omega)
      · exact ahead_rule (by rw [hr]; decide)
end
end Go.Proofs.YtagcbljfaflhoaaDoor

/-! ### A tree's conjuncts together (plain): their sizes, their order, what they mention; two rising lists as one. -/
namespace Go.Proofs.YtagcbljfaflhoaaDoor
/-- Two rising lists as one, none twice. -/
def mergeL : List Nat → List Nat → List Nat
  | [], b => b
  | x :: a, [] => x :: a
  | x :: a, y :: b => if x < y then x :: mergeL a (y :: b) else if y < x then y :: mergeL (x :: a) b else x :: mergeL a b
termination_by a b => a.length + b.length
theorem merge_nil (b : List Nat) : mergeL [] b = b := by rw [mergeL]
theorem merge_none (a : List Nat) : mergeL a [] = a := by cases a <;> rw [mergeL]
theorem merge_lt {x y : Nat} {a b : List Nat} (h : x < y) : mergeL (x :: a) (y :: b) = x :: mergeL a (y :: b) := by rw [mergeL, if_pos h]
theorem merge_gt {x y : Nat} {a b : List Nat} (h : y < x) : mergeL (x :: a) (y :: b) = y :: mergeL (x :: a) b := by rw [mergeL, if_neg (by omega), if_pos h]
theorem merge_eq {x : Nat} {a b : List Nat} : mergeL (x :: a) (x :: b) = x :: mergeL a b := by rw [mergeL, if_neg (by omega), if_neg (by omega)]
theorem merge_left {x : Nat} {a b : List Nat} (h : ∀ y ∈ b, x < y) : mergeL (x :: a) b = x :: mergeL a b := by
  cases b with
  | nil => rw [merge_none, merge_none]
  | cons y b => exact merge_lt (h y (by simp))
theorem merge_right {y : Nat} {a b : List Nat} (h : ∀ x ∈ a, y < x) : mergeL a (y :: b) = y :: mergeL a b := by
  cases a with
  | nil => rw [merge_nil, merge_nil]
  | cons x a => exact merge_gt (h x (by simp))
theorem merge_filter (p q : Nat → Bool) : ∀ m s, mergeL ((List.range' s m).filter p) ((List.range' s m).filter q) = (List.range' s m).filter (fun i => p i || q i)
  | 0, s => by simp [merge_nil]
  | m + 1, s => by
    have ih := merge_filter p q m (s + 1)
    have hp : ∀ (r : Nat → Bool), ∀ y ∈ (List.range' (s + 1) m).filter r, s < y := by
      intro r y hy
      have := (List.mem_range'_1.1 (List.mem_filter.1 hy).1).1
      omega
    rw [List.range'_succ, List.filter_cons, List.filter_cons, List.filter_cons]
    cases h1 : p s <;> cases h2 : q s
    · simp only [Bool.false_or, if_false, Bool.false_eq_true]
      exact ih
    · simp only [Bool.false_or, if_true, if_false, Bool.false_eq_true]
      rw [merge_right (hp p), ih]
    · simp only [Bool.true_or, if_true, if_false, Bool.false_eq_true]
      rw [merge_left (hp q), ih]
    · simp only [Bool.true_or, if_true]
      rw [merge_eq, ih]
theorem merge_range (p q : Nat → Bool) (m : Nat) : mergeL ((List.range m).filter p) ((List.range m).filter q) = (List.range m).filter (fun i => p i || q i) := by
  rw [List.range_eq_range']
  exact merge_filter p q m 0
theorem merge_len : ∀ (n : Nat) (a b : List Nat), a.length + b.length ≤ n → (mergeL a b).length ≤ a.length + b.length
  | _, [], b, _ => by rw [merge_nil]; omega
  | _, x :: a, [], _ => by rw [merge_none]; omega
  | 0, x :: a, y :: b, h => by simp at h
  | n + 1, x :: a, y :: b, h => by
    simp only [List.length_cons] at h
    rw [mergeL]
    by_cases h1 : x < y
    · rw [if_pos h1]
      have := merge_len n a (y :: b) (by simp only [List.length_cons]; omega)
      simp only [List.length_cons] at this ⊢
      omega
    · rw [if_neg h1]
      by_cases h2 : y < x
      · rw [if_pos h2]
        have := merge_len n (x :: a) b (by simp only [List.length_cons]; omega)
        simp only [List.length_cons] at this ⊢
        omega
      · rw [if_neg h2]
        have := merge_len n a b (by omega)
        simp only [List.length_cons] at this ⊢
        omega
section
variable {n : Nat} {f : Nat → Nod} {l : Nat → Nat}
theorem conj_sum (h : Shp n f l) : ∀ k r, r < n → r < k → ((conjF f k r).map fun x => x - l x + 1).sum + (conjF f k r).length = r - l r + 1 + 1
  | 0, _, _, h => absurd h (Nat.not_lt_zero _)
  | k + 1, r, hr, hk => by
    rw [conjF]
    by_cases ho : (f r).op = 25
    · obtain ⟨k2, hb, k3, ha, hl⟩ := and_kind h hr ho
      have h1 := h.le (r - 1) (by omega)
      have h2 := h.le (l (r - 1) - 1) (by omega)
      have ea : (f r).a.toNat = l (r - 1) - 1 := by omega
      have eb : (f r).b.toNat = r - 1 := by omega
      rw [if_pos ho, ea, eb, List.map_append, List.sum_append, List.length_append]
      have s1 := conj_sum h k (l (r - 1) - 1) (by omega) (by omega)
      have s2 := conj_sum h k (r - 1) (by omega) (by omega)
      omega
    · rw [if_neg ho]
      simp
theorem conj_total (ht : treeB n f = true) : ((conjL n f).map fun x : Nat => sizeI n f x).sum + (conjL n f).length = n + 1 := by
  obtain ⟨h0, hs, hl0, _⟩ := tree_shp ht
  have e := conj_sum hs n (n - 1) (by omega) (by omega)
  rw [hl0] at e
  have em : (conjL n f).map (fun x : Nat => sizeI n f x) = (conjL n f).map fun x => x - begF n f x + 1 := List.map_congr_left fun x hx => size_at ht (conjL_lt ht x hx)
  rw [em]
  have ec : conjL n f = conjF f n (n - 1) := by rw [conjL, if_pos ht]
  rw [ec]
  omega
theorem conj_pos (ht : treeB n f = true) : 0 < (conjL n f).length := by
  have h := conj_total ht
  rcases Nat.eq_zero_or_pos (conjL n f).length with h0 | h0
  · have : conjL n f = [] := List.eq_nil_of_length_eq_zero h0
    rw [this] at h
    have := (tree_shp ht).1
    simp at h <;> omega
  · exact h0
theorem conj_rise (ht : treeB n f = true) : (conjL n f).Pairwise (· < ·) := by
  rw [conjL_eq ht]
  exact List.Pairwise.filter _ List.pairwise_lt_range
theorem conj_op (ht : treeB n f = true) : ∀ r ∈ conjL n f, (f r).op ≠ 25 := by
  intro r hr
  rw [conjL_eq ht] at hr
  have := (List.mem_filter.1 hr).2
  simp only [Bool.and_eq_true, bne_iff_ne] at this
  exact this.2
theorem conj_in (h : Shp n f l) {j : Nat} (hj : (f j).op ≠ 25) : ∀ k r, r < n → r < k → l r ≤ j → j ≤ r → ∃ x ∈ conjF f k r, l x ≤ j ∧ j ≤ x
  | 0, _, _, h, _, _ => absurd h (Nat.not_lt_zero _)
  | k + 1, r, hr, hk, h1, h2 => by
    rw [conjF]
    by_cases ho : (f r).op = 25
    · obtain ⟨k2, hb, k3, ha, hl⟩ := and_kind h hr ho
      have h3 := h.le (r - 1) (by omega)
      have h4 := h.le (l (r - 1) - 1) (by omega)
      have ea : (f r).a.toNat = l (r - 1) - 1 := by omega
      have eb : (f r).b.toNat = r - 1 := by omega
      have hne : j ≠ r := fun e => hj (e ▸ ho)
      rw [if_pos ho, ea, eb]
      rcases Nat.lt_or_ge j (l (r - 1)) with hc | hc
      · obtain ⟨x, hx, hx2⟩ := conj_in h hj k (l (r - 1) - 1) (by omega) (by omega) (by omega) (by omega)
        exact ⟨x, List.mem_append_left _ hx, hx2⟩
      · obtain ⟨x, hx, hx2⟩ := conj_in h hj k (r - 1) (by omega) (by omega) (by omega) (by omega)
        exact ⟨x, List.mem_append_right _ hx, hx2⟩
    · rw [if_neg ho]
      exact ⟨r, by simp, h1, h2⟩
/-- What conjunct r mentions. -/
def cuse (P : Int → Bool) (N : Nat) (it : Nat → Itm) (n : Nat) (f : Nat → Nod) (r : Nat) (i : Nat) : Bool := anyU P N it (subF n f r) (sizeI n f r) i
theorem conj_cover {P : Int → Bool} (hP : P 25 = false) (N : Nat) (it : Nat → Itm) (ht : treeB n f = true) (i : Nat) : anyU P N it f n i = (conjL n f).any fun r => cuse P N it n f r i := by
  obtain ⟨h0, hs, hl0, _⟩ := tree_shp ht
  have ec : conjL n f = conjF f n (n - 1) := by rw [conjL, if_pos ht]
  rw [Bool.eq_iff_iff, List.any_eq_true]
  unfold anyU cuse
  rw [List.any_eq_true]
  constructor
  · rintro ⟨j, hj, hp⟩
    have hj := List.mem_range.1 hj
    rw [Bool.and_eq_true] at hp
    have hop : (f j).op ≠ 25 := fun e => by rw [e, hP] at hp; cases hp.2
    obtain ⟨x, hx, h1, h2⟩ := conj_in hs hop n (n - 1) (by omega) (by omega) (by rw [hl0]; omega) (by omega)
    rw [← ec] at hx
    have hxn := conjL_lt ht x hx
    refine ⟨x, hx, ?_⟩
    unfold anyU
    rw [List.any_eq_true]
    refine ⟨j - begF n f x, List.mem_range.2 (by rw [size_at ht hxn]; omega), ?_⟩
    rw [subF, Int.toNat_natCast, show begF n f x + (j - begF n f x) = j by omega]
    exact Bool.and_eq_true_iff.2 hp
  · rintro ⟨x, hx, hp⟩
    have hxn := conjL_lt ht x hx
    unfold anyU at hp
    rw [List.any_eq_true] at hp
    obtain ⟨j, hj, hp⟩ := hp
    have hj := List.mem_range.1 hj
    rw [size_at ht hxn] at hj
    have hle := hs.le x hxn
    refine ⟨begF n f x + j, List.mem_range.2 (by omega), ?_⟩
    rw [subF, Int.toNat_natCast] at hp
    exact hp
/-- What the first k conjuncts mention. -/
def useK (P : Int → Bool) (N : Nat) (it : Nat → Itm) (n : Nat) (f : Nat → Nod) (k : Nat) : List Nat := (List.range N).filter fun i => ((conjL n f).take k).any fun r => cuse P N it n f r i
theorem useK_zero (P : Int → Bool) (N : Nat) (it : Nat → Itm) : useK P N it n f 0 = [] := by simp [useK]
theorem useK_next {P : Int → Bool} {N : Nat} {it : Nat → Itm} {k : Nat} (hk : k < (conjL n f).length) {r : Nat} (hr : (conjL n f).getD k 0 = r) : mergeL (useK P N it n f k) (usesL P N it (subF n f r) (sizeI n f r) N) = useK P N it n f (k + 1) := by
  have e : (conjL n f).take (k + 1) = (conjL n f).take k ++ [r] := by
    rw [List.take_add_one, List.getElem?_eq_getElem hk, ← hr, getD_at hk]
    rfl
  unfold useK usesL
  rw [merge_range, e]
  refine List.filter_congr fun i _ => ?_
  rw [List.any_append]
  simp [cuse]
theorem useK_all {P : Int → Bool} (hP : P 25 = false) (N : Nat) (it : Nat → Itm) (ht : treeB n f = true) : useK P N it n f (conjL n f).length = usesL P N it f n N := by
  unfold useK usesL
  rw [List.take_length]
  exact List.filter_congr fun i _ => (conj_cover hP N it ht i).symm
theorem useK_len {P : Int → Bool} {N : Nat} {it : Nat → Itm} {k : Nat} : (useK P N it n f k).length ≤ N := by
  unfold useK
  refine Nat.le_trans (List.length_filter_le _ _) ?_
  simp
/-- The sizes of the first k conjuncts. -/
def sumK (n : Nat) (f : Nat → Nod) (k : Nat) : Nat := (((conjL n f).take k).map fun x : Nat => sizeI n f x).sum
theorem sumK_zero : sumK n f 0 = 0 := by simp [sumK]
theorem sumK_next {k : Nat} (hk : k < (conjL n f).length) {r : Nat} (hr : (conjL n f).getD k 0 = r) : sumK n f (k + 1) = sumK n f k + sizeI n f r := by
  unfold sumK
  rw [List.take_add_one, List.getElem?_eq_getElem hk, List.map_append, List.sum_append, ← hr, getD_at hk]
  simp
theorem sumK_all (ht : treeB n f = true) : sumK n f (conjL n f).length + (conjL n f).length = n + 1 := by
  unfold sumK
  rw [List.take_length]
  exact conj_total ht
theorem sumK_le (ht : treeB n f = true) {k : Nat} (hk : k ≤ (conjL n f).length) : sumK n f k ≤ n + 1 := by
  have h := sumK_all ht
  have : sumK n f k ≤ sumK n f (conjL n f).length := by
    obtain ⟨d, hd⟩ : ∃ d, (conjL n f).length = k + d := ⟨_, (Nat.add_sub_cancel' hk).symm⟩
    rw [hd]
    clear h hk
    unfold sumK
    rw [List.take_add, List.map_append, List.sum_append]
    omega
  omega
end
end Go.Proofs.YtagcbljfaflhoaaDoor

/-! ### What is wrong with WHERE and with the rest, by findings (plain): which comes first. -/
namespace Go.Proofs.YtagcbljfaflhoaaDoor
section
variable {S : Sch} {Q : Qry} {r : Bool} {f : Nat → Nod} {i n : Nat}
theorem node_rank (hk : (bareB (f i).op || aggB (f i).op) = true → kindsB f (f i) = true) : if nodeE S Q r f i = 0 then ∀ k, nodeR S Q r f i k = 0 else ∃ k : Nat, 1 ≤ k ∧ k ≤ 4 ∧ nodeR S Q r f i k = nodeE S Q r f i ∧ ∀ j, j < k → nodeR S Q r f i j = 0 := by
  have r0 : nodeR S Q r f i 0 = 0 := rfl
  have r5 : ∀ k, 5 ≤ k → nodeR S Q r f i k = 0 := fun k hk => by
    match k, hk with
    | k + 5, _ => rfl
  have low : ∀ (P : Nat → Prop) (k : Nat), k ≤ 4 → (∀ j, j < k → j = 0 ∨ j = 1 ∨ j = 2 ∨ j = 3) := fun _ k hk j hj => by omega
  have all : ∀ k, k = 0 ∨ k = 1 ∨ k = 2 ∨ k = 3 ∨ k = 4 ∨ 5 ≤ k := fun k => by omega
  cases hb : (bareB (f i).op || aggB (f i).op)
  · have hm : mentE S Q r (f i) = 0 := by
      rw [mentE, if_pos]
      rw [Bool.or_eq_false_iff] at hb
      rw [hb.1, hb.2]; rfl
    have q1 : nodeR S Q r f i 1 = 0 := by simp only [nodeR]; rw [if_neg (by rw [hb]; simp)]
    have q2 : nodeR S Q r f i 2 = 0 := by simp only [nodeR]; rw [if_neg (by rw [hb]; simp)]
    have q3 : nodeR S Q r f i 3 = 0 := by simp only [nodeR]; rw [if_neg (by rw [hb]; simp)]
    cases hq : kindsB f (f i)
    · have e : nodeE S Q r f i = 75 := by rw [nodeE, hm, if_neg (by simp), if_neg (by rw [hq]; simp)]
      have q4 : nodeR S Q r f i 4 = 75 := by simp only [nodeR]; rw [if_pos ⟨hb, hq⟩]
      rw [e, if_neg (by decide)]
      refine ⟨4, by decide, by decide, q4, fun j hj => ?_⟩
      obtain rfl | rfl | rfl | rfl : j = 0 ∨ j = 1 ∨ j = 2 ∨ j = 3 := by omega
      · exact r0
      · exact q1
      · exact q2
      · exact q3
    · have e : nodeE S Q r f i = 0 := by rw [nodeE, hm, if_neg (by simp), if_pos hq]
      have q4 : nodeR S Q r f i 4 = 0 := by simp only [nodeR]; rw [if_neg (by rw [hq]; simp)]
      rw [if_pos e]
      intro k
      rcases all k with rfl | rfl | rfl | rfl | rfl | h
      · exact r0
      · exact q1
      · exact q2
      · exact q3
      · exact q4
      · exact r5 k h
  · have hq := hk hb
    have hnb : ¬ (!bareB (f i).op && !aggB (f i).op) = true := by
      intro h
      rw [Bool.or_eq_true] at hb
      rcases hb with h' | h' <;> simp [h'] at h
    have q4 : nodeR S Q r f i 4 = 0 := by simp only [nodeR]; rw [if_neg (by rw [hb]; simp)]
    by_cases hi : itemI Q.n Q.it (f i).vr = -1
    · have hm : mentE S Q r (f i) = 68 := by rw [mentE, if_neg hnb, if_pos hi]
      have e : nodeE S Q r f i = 68 := by rw [nodeE, hm, if_pos (by decide)]
      have q1 : nodeR S Q r f i 1 = 68 := by simp only [nodeR]; rw [if_pos ⟨hb, hi⟩]
      rw [e, if_neg (by decide)]
      refine ⟨1, by decide, by decide, q1, fun j hj => ?_⟩
      obtain rfl : j = 0 := by omega
      exact r0
    · have q1 : nodeR S Q r f i 1 = 0 := by simp only [nodeR]; rw [if_neg (fun h => hi h.2)]
      have hm : mentE S Q r (f i) = useE S r (Q.it (itemI Q.n Q.it (f i).vr).toNat) (f i) := by rw [mentE, if_neg hnb, if_neg hi]
      by_cases h2 : (!((f i).op == 5) && !hasB S (Q.it (itemI Q.n Q.it (f i).vr).toNat) (f i).at_) = true
      · have e : nodeE S Q r f i = 69 := by rw [nodeE, hm, useE, if_pos h2, if_pos (by decide)]
        have q2 : nodeR S Q r f i 2 = 69 := by simp only [nodeR]; rw [if_pos ⟨hb, hi, h2⟩]
        rw [e, if_neg (by decide)]
        refine ⟨2, by decide, by decide, q2, fun j hj => ?_⟩
        obtain rfl | rfl : j = 0 ∨ j = 1 := by omega
        · exact r0
        · exact q1
      · have q2 : nodeR S Q r f i 2 = 0 := by simp only [nodeR]; rw [if_neg (fun h => h2 h.2.2)]
        by_cases h3 : ((aggB (f i).op && (Q.it (itemI Q.n Q.it (f i).vr).toNat).neg) || ((f i).op == 11 && !repB (Q.it (itemI Q.n Q.it (f i).vr).toNat)) || (r && bareB (f i).op && ((Q.it (itemI Q.n Q.it (f i).vr).toNat).neg || repB (Q.it (itemI Q.n Q.it (f i).vr).toNat)))) = true
        · have hu : useE S r (Q.it (itemI Q.n Q.it (f i).vr).toNat) (f i) = 76 := by
            rw [useE, if_neg h2]
            by_cases h4 : ((aggB (f i).op && (Q.it (itemI Q.n Q.it (f i).vr).toNat).neg) || ((f i).op == 11 && !repB (Q.it (itemI Q.n Q.it (f i).vr).toNat))) = true
            · rw [if_pos h4]
            · rw [if_neg h4]
              rw [Bool.or_eq_true] at h3
              rw [if_pos (h3.resolve_left h4)]
          have e : nodeE S Q r f i = 76 := by rw [nodeE, hm, hu, if_pos (by decide)]
          have q3 : nodeR S Q r f i 3 = 76 := by simp only [nodeR]; rw [if_pos ⟨hb, hi, h3⟩]
          rw [e, if_neg (by decide)]
          refine ⟨3, by decide, by decide, q3, fun j hj => ?_⟩
          obtain rfl | rfl | rfl : j = 0 ∨ j = 1 ∨ j = 2 := by omega
          · exact r0
          · exact q1
          · exact q2
        · have hu : useE S r (Q.it (itemI Q.n Q.it (f i).vr).toNat) (f i) = 0 := by
            have h3' := h3
            rw [Bool.or_eq_true, not_or] at h3'
            rw [useE, if_neg h2, if_neg h3'.1, if_neg h3'.2]
          have e : nodeE S Q r f i = 0 := by rw [nodeE, hm, hu, if_neg (by simp), if_pos hq]
          have q3 : nodeR S Q r f i 3 = 0 := by simp only [nodeR]; rw [if_neg (fun h => h3 h.2.2)]
          rw [if_pos e]
          intro k
          rcases all k with rfl | rfl | rfl | rfl | rfl | h
          · exact r0
          · exact q1
          · exact q2
          · exact q3
          · exact q4
          · exact r5 k h
theorem leaf_kinds (ht : treeB n f = true) (hi : i < n) : (bareB (f i).op || aggB (f i).op) = true → kindsB f (f i) = true := by
  intro hb
  have ha : arity (f i).op = 0 := by
    simp only [bareB, aggB, Bool.or_eq_true, beq_iff_eq, Bool.and_eq_true, decide_eq_true_eq] at hb
    rw [arity, if_pos (by omega)]
  rcases (tree_shp ht).2.1.kind i hi with ⟨_, h1, h2, _⟩ | ⟨h0, _⟩ | ⟨h0, _⟩
  · rw [kindsB, h1, h2, kid_neg (by decide)]
    rfl
  · rw [ha] at h0; cases h0
  · rw [ha] at h0; cases h0
theorem where_least (ht : Q.wn ≠ 0 → treeB Q.wn Q.wh = true) : if (whereF S Q).code = 0 then ∀ x, ¬ mWhere S Q x else ∃ x, Least (mWhere S Q) x ∧ x.flw = whereF S Q := by
  by_cases h0 : Q.wn = 0
  · have e : whereF S Q = ⟨0, 0, 0, 0⟩ := by rw [whereF, if_pos h0]
    rw [e, if_pos rfl]
    rintro x (⟨i, r, hi, _⟩ | ⟨h, _⟩ | ⟨root, hr, _⟩)
    · omega
    · omega
    · have hf : treeB Q.wn Q.wh = false := by
        cases h : treeB Q.wn Q.wh
        · rfl
        · have := (tree_shp h).1; omega
      rw [conjL, if_neg (by rw [hf]; simp)] at hr
      cases hr
  · have ht := ht h0
    have hn0 := (tree_shp ht).1
    rcases firstI_or (fun i => nodeE S Q false Q.wh i != 0) Q.wn with ⟨e, hn⟩ | ⟨j, hj, e, hp, hb⟩
    · have no6 : ∀ i k : Nat, i < Q.wn → nodeR S Q false Q.wh i k = 0 := fun i k hi => by
        have h1 := hn i hi
        rw [bne_eq_false_iff_eq] at h1
        have h2 := node_rank (S := S) (Q := Q) (r := false) (leaf_kinds ht hi)
        rw [if_pos h1] at h2
        exact h2 k
      have hw : (walkP S Q false Q.wn Q.wh) = (0, 0) := walkP_none hn
      by_cases hT : isTruthB Q.wn Q.wh = true
      · have ew : whereF S Q = match (conjL Q.wn Q.wh).find? (rootMix Q Q.wn Q.wh) with
            | some root => ⟨77, 4, root, 0⟩
            | none => ⟨0, 0, 0, 0⟩ := by
          have e1 : treeP S Q false Q.wn Q.wh = (0, 0) := by rw [treeP, hw, if_neg (by rw [hT]; simp)]
          rw [whereF, if_neg h0, e1, if_neg (by simp)]
          rfl
        cases hf : (conjL Q.wn Q.wh).find? (rootMix Q Q.wn Q.wh) with
        | none =>
          rw [ew, hf, if_pos rfl]
          rintro x (⟨i, k, hi, _, _, h, _⟩ | ⟨_, h, _⟩ | ⟨root, hr, h, _⟩)
          · exact h (no6 i k hi)
          · rw [hT] at h; cases h
          · have := List.find?_eq_none.1 hf root hr
            exact this h
        | some root =>
          rw [ew, hf, if_neg (show ¬ ((77 : Int) = 0) by decide)]
          rw [List.find?_eq_some_iff_getElem] at hf
          obtain ⟨hm, q, hq, he, hbef⟩ := hf
          refine ⟨⟨8, 0, 77, 4, root, 0⟩, ⟨.inr (.inr ⟨root, by rw [← he]; exact List.getElem_mem hq, hm, rfl⟩), ?_⟩, rfl⟩
          rintro y (⟨i, k, hi, _, _, h, _⟩ | ⟨_, h, _⟩ | ⟨root', hr', h, rfl⟩)
          · exact absurd (no6 i k hi) h
          · rw [hT] at h; cases h
          · obtain ⟨p, hp, rfl⟩ := List.getElem_of_mem hr'
            rcases Nat.lt_or_ge p q with hpq | hpq
            · have := hbef p hpq
              rw [h] at this
              cases this
            · rcases Nat.eq_or_lt_of_le hpq with e | hlt
              · subst e
                rw [he]
                exact ahead_rank rfl rfl rfl (Int.le_refl _)
              · have := List.pairwise_iff_getElem.1 (conj_rise ht) q p hq hp hlt
                rw [he] at this
                exact ahead_index rfl (by dsimp only; omega)
      · have hT : isTruthB Q.wn Q.wh = false := by simpa using hT
        have ew : whereF S Q = ⟨75, 4, (Q.wn : Int) - 1, 0⟩ := by
          have e1 : treeP S Q false Q.wn Q.wh = ((Q.wn : Int) - 1, 75) := by rw [treeP, hw, if_pos ⟨rfl, hT⟩]
          rw [whereF, if_neg h0, e1, if_pos (show (75 : Int) ≠ 0 by decide)]
        rw [ew, if_neg (show ¬ ((75 : Int) = 0) by decide)]
        refine ⟨⟨7, 0, 75, 4, (Q.wn : Int) - 1, 0⟩, ⟨.inr (.inl ⟨hn0, hT, rfl⟩), ?_⟩, rfl⟩
        rintro y (⟨i, k, hi, _, _, h, _⟩ | ⟨_, h, rfl⟩ | ⟨root', hr', h, rfl⟩)
        · exact absurd (no6 i k hi) h
        · exact ahead_rank rfl rfl rfl (Int.le_refl _)
        · exact ahead_rule (by dsimp only; decide)
    · rw [bne_iff_ne] at hp
      have hw := walkP_hit (S := S) (Q := Q) (r := false) hj rfl hp hb
      have ew : whereF S Q = ⟨nodeE S Q false Q.wh j, 4, j, 0⟩ := by
        have e1 : treeP S Q false Q.wn Q.wh = ((j : Int), nodeE S Q false Q.wh j) := by rw [treeP, hw, if_neg (fun h => hp h.1)]
        rw [whereF, if_neg h0, e1, if_pos hp]
      rw [ew, if_neg hp]
      have h2 := node_rank (S := S) (Q := Q) (r := false) (leaf_kinds ht hj)
      rw [if_neg hp] at h2
      obtain ⟨k0, a1, a2, a3, a4⟩ := h2
      refine ⟨⟨6, k0, nodeE S Q false Q.wh j, 4, j, 0⟩, ⟨.inl ⟨j, k0, hj, a1, a2, by rw [a3]; exact hp, by rw [a3]⟩, ?_⟩, rfl⟩
      rintro y (⟨i, k, hi, _, _, h, rfl⟩ | ⟨_, h, rfl⟩ | ⟨root', hr', h, rfl⟩)
      · rcases Nat.lt_trichotomy i j with hc | hc | hc
        · have h1 := hb i hc
          rw [bne_eq_false_iff_eq] at h1
          have h3 := node_rank (S := S) (Q := Q) (r := false) (leaf_kinds ht hi)
          rw [if_pos h1] at h3
          exact absurd (h3 k) h
        · subst hc
          rcases Nat.lt_or_ge k k0 with hk | hk
          · exact absurd (a4 k hk) h
          · exact ahead_rank rfl rfl rfl (by dsimp only; omega)
        · exact ahead_index rfl (by dsimp only; omega)
      · exact ahead_rule (by dsimp only; decide)
      · exact ahead_rule (by dsimp only; decide)
theorem part_iff (hn : 0 < Q.n) : partB S Q = false ↔ ∃ i, i < Q.n ∧ (hasB S (Q.it i) Q.by_ = false ∨ Q.by_.toList = [116, 115]) := by
  unfold partB
  constructor
  · intro h
    rw [Bool.and_eq_false_iff] at h
    rcases h with h | h
    · refine ⟨0, hn, .inr ?_⟩
      simpa using h
    · rcases Classical.em (∃ i, i < Q.n ∧ hasB S (Q.it i) Q.by_ = false) with ⟨i, hi, h2⟩ | h2
      · exact ⟨i, hi, .inl h2⟩
      · rw [all_yes (p := fun i => hasB S (Q.it i) Q.by_) (fun i hi => by
          cases h3 : hasB S (Q.it i) Q.by_
          · exact absurd ⟨i, hi, h3⟩ h2
          · rfl)] at h
        cases h
  · rintro ⟨i, hi, h | h⟩
    · rw [all_no (p := fun i => hasB S (Q.it i) Q.by_) hi h, Bool.and_false]
    · rw [h]
      rfl
theorem rest_least (hn : 0 < Q.n) (ht : ∀ k, k < Q.m → treeB (Q.ln k) (Q.rt k) = true) : if (restF S Q).code = 0 then ∀ x, ¬ mRest S Q x else ∃ x, Least (mRest S Q) x ∧ x.flw = restF S Q := by
  have rl : ∀ y, mRest S Q y → (y.rule = 9 ∧ 1099511627776 < Q.within ∧ y = ⟨9, 0, 66, 2, 0, 0⟩) ∨ (y.rule = 10 ∧ Q.by_.toList.isEmpty = false ∧ partB S Q = false ∧ y = ⟨10, 0, 67, 3, 0, 0⟩) ∨ (y.rule = 11 ∧ 8 < Q.m ∧ y = ⟨11, 0, 78, 5, 8, 0⟩) ∨ y.rule = 12 := by
    rintro y (⟨h, rfl⟩ | ⟨h, h2, rfl⟩ | ⟨h, rfl⟩ | ⟨k, i, r, _, _, _, _, _, rfl⟩ | ⟨k, _, _, rfl⟩)
    · exact .inl ⟨rfl, h, rfl⟩
    · exact .inr (.inl ⟨rfl, h, (part_iff hn).2 h2, rfl⟩)
    · exact .inr (.inr (.inl ⟨rfl, h, rfl⟩))
    · exact .inr (.inr (.inr rfl))
    · exact .inr (.inr (.inr rfl))
  by_cases hw : 1099511627776 < Q.within
  · have e : restF S Q = ⟨66, 2, 0, 0⟩ := by rw [restF, if_pos hw]
    rw [e, if_neg (by decide)]
    refine ⟨⟨9, 0, 66, 2, 0, 0⟩, ⟨.inl ⟨hw, rfl⟩, fun y hy => ?_⟩, rfl⟩
    rcases rl y hy with ⟨_, _, rfl⟩ | ⟨_, _, _, rfl⟩ | ⟨_, _, rfl⟩ | h
    · exact ahead_rank rfl rfl rfl (Int.le_refl _)
    · exact ahead_rule (by decide)
    · exact ahead_rule (by decide)
    · exact ahead_rule (by rw [h]; decide)
  · by_cases hb : (!Q.by_.toList.isEmpty && !partB S Q) = true
    · have e : restF S Q = ⟨67, 3, 0, 0⟩ := by rw [restF, if_neg hw, if_pos hb]
      rw [Bool.and_eq_true, Bool.not_eq_true', Bool.not_eq_true'] at hb
      rw [e, if_neg (by decide)]
      refine ⟨⟨10, 0, 67, 3, 0, 0⟩, ⟨.inr (.inl ⟨hb.1, (part_iff hn).1 hb.2, rfl⟩), fun y hy => ?_⟩, rfl⟩
      rcases rl y hy with ⟨_, h, _⟩ | ⟨_, _, _, rfl⟩ | ⟨_, _, rfl⟩ | h
      · exact absurd h hw
      · exact ahead_rank rfl rfl rfl (Int.le_refl _)
      · exact ahead_rule (by decide)
      · exact ahead_rule (by rw [h]; decide)
    · have e : restF S Q = retF S Q := by rw [restF, if_neg hw, if_neg hb]
      have no10 : ¬ (Q.by_.toList.isEmpty = false ∧ partB S Q = false) := fun h => hb (by rw [h.1, h.2]; rfl)
      rw [e]
      by_cases h8 : 8 < Q.m
      · rw [retF_many h8, if_neg (by decide)]
        refine ⟨⟨11, 0, 78, 5, 8, 0⟩, ⟨.inr (.inr (.inl ⟨h8, rfl⟩)), fun y hy => ?_⟩, rfl⟩
        rcases rl y hy with ⟨_, h, _⟩ | ⟨_, h1, h2, _⟩ | ⟨_, _, rfl⟩ | h
        · exact absurd h hw
        · exact absurd ⟨h1, h2⟩ no10
        · exact ahead_rank rfl rfl rfl (Int.le_refl _)
        · exact ahead_rule (by rw [h]; decide)
      · have tr : ∀ k, k < Q.m → (retE S Q k).2 = 0 → (∀ i r : Nat, i < Q.ln k → nodeR S Q true (Q.rt k) i r = 0) ∧ isTruthB (Q.ln k) (Q.rt k) = false := fun k hk h0 => by
          have h1 := treeP_ok.1 h0
          refine ⟨fun i r hi => ?_, h1.2⟩
          have h2 := node_rank (S := S) (Q := Q) (r := true) (leaf_kinds (ht k hk) hi)
          rw [if_pos (h1.1 i hi)] at h2
          exact h2 r
        rcases firstI_or (fun k => (retE S Q k).2 != 0) Q.m with ⟨_, hnn⟩ | ⟨k, hk, _, hp, hbf⟩
        · rw [retF_end h8 hnn, if_pos rfl]
          rintro y (⟨h, _⟩ | ⟨h, h2, _⟩ | ⟨h, _⟩ | ⟨k, i, r, hk, hi, _, _, h, _⟩ | ⟨k, hk, h, _⟩)
          · exact hw h
          · exact no10 ⟨h, (part_iff hn).2 h2⟩
          · exact h8 h
          · have h0 := hnn k hk
            rw [bne_eq_false_iff_eq] at h0
            exact h ((tr k hk h0).1 i r hi)
          · have h0 := hnn k hk
            rw [bne_eq_false_iff_eq] at h0
            rw [(tr k hk h0).2] at h
            cases h
        · rw [bne_iff_ne] at hp
          have other : ∀ y, mRest S Q y → (∃ k' i r : Nat, k' < Q.m ∧ k ≤ k' ∧ i < Q.ln k' ∧ 1 ≤ r ∧ r ≤ 4 ∧ nodeR S Q true (Q.rt k') i r ≠ 0 ∧ y = ⟨12, r, nodeR S Q true (Q.rt k') i r, 5, k', i⟩) ∨ (∃ k' : Nat, k' < Q.m ∧ k ≤ k' ∧ isTruthB (Q.ln k') (Q.rt k') = true ∧ y = ⟨12, 5, 75, 5, k', (Q.ln k' : Int) - 1⟩) := by
            rintro y (⟨h, _⟩ | ⟨h, h2, _⟩ | ⟨h, _⟩ | ⟨k', i, r, hk', hi, h1, h2, h, rfl⟩ | ⟨k', hk', h, rfl⟩)
            · exact absurd h hw
            · exact absurd ⟨h, (part_iff hn).2 h2⟩ no10
            · exact absurd h h8
            · refine .inl ⟨k', i, r, hk', ?_, hi, h1, h2, h, rfl⟩
              rcases Nat.lt_or_ge k' k with hc | hc
              · have h0 := hbf k' hc
                rw [bne_eq_false_iff_eq] at h0
                exact absurd ((tr k' hk' h0).1 i r hi) h
              · exact hc
            · refine .inr ⟨k', hk', ?_, h, rfl⟩
              rcases Nat.lt_or_ge k' k with hc | hc
              · have h0 := hbf k' hc
                rw [bne_eq_false_iff_eq] at h0
                rw [(tr k' hk' h0).2] at h
                cases h
              · exact hc
          have htk := ht k hk
          have hl0 := (tree_shp htk).1
          rcases firstI_or (fun i => nodeE S Q true (Q.rt k) i != 0) (Q.ln k) with ⟨_, hno⟩ | ⟨j, hj, _, hpj, hbj⟩
          · have hwk : walkP S Q true (Q.ln k) (Q.rt k) = (0, 0) := walkP_none hno
            have hT : isTruthB (Q.ln k) (Q.rt k) = true := by
              cases hT : isTruthB (Q.ln k) (Q.rt k)
              · exact absurd (treeP_ok.2 ⟨fun i hi => by have := hno i hi; rwa [bne_eq_false_iff_eq] at this, hT⟩) hp
              · rfl
            have er : retE S Q k = ((Q.ln k : Int) - 1, 75) := by rw [retE, treeP, hwk, if_pos ⟨rfl, hT⟩]
            rw [retF_hit h8 hk er (by decide) hbf, if_neg (show ¬ ((75 : Int) = 0) by decide)]
            refine ⟨⟨12, 5, 75, 5, k, (Q.ln k : Int) - 1⟩, ⟨.inr (.inr (.inr (.inr ⟨k, hk, hT, rfl⟩))), fun y hy => ?_⟩, rfl⟩
            rcases other y hy with ⟨k', i, r, hk', hge, hi, _, _, h, rfl⟩ | ⟨k', hk', hge, h, rfl⟩
            · rcases Nat.eq_or_lt_of_le hge with e | hlt
              · subst e
                have h1 := hno i hi
                rw [bne_eq_false_iff_eq] at h1
                have h3 := node_rank (S := S) (Q := Q) (r := true) (leaf_kinds htk hi)
                rw [if_pos h1] at h3
                exact absurd (h3 r) h
              · exact ahead_index rfl (by dsimp only; omega)
            · rcases Nat.eq_or_lt_of_le hge with e | hlt
              · subst e
                exact ahead_rank rfl rfl rfl (Int.le_refl _)
              · exact ahead_index rfl (by dsimp only; omega)
          · rw [bne_iff_ne] at hpj
            have hwk := walkP_hit (S := S) (Q := Q) (r := true) hj rfl hpj hbj
            have er : retE S Q k = ((j : Int), nodeE S Q true (Q.rt k) j) := by rw [retE, treeP, hwk, if_neg (fun h => hpj h.1)]
            rw [retF_hit h8 hk er hpj hbf, if_neg hpj]
            have h2 := node_rank (S := S) (Q := Q) (r := true) (leaf_kinds htk hj)
            rw [if_neg hpj] at h2
            obtain ⟨r0, a1, a2, a3, a4⟩ := h2
            refine ⟨⟨12, r0, nodeE S Q true (Q.rt k) j, 5, k, j⟩, ⟨.inr (.inr (.inr (.inl ⟨k, j, r0, hk, hj, a1, a2, by rw [a3]; exact hpj, by rw [a3]⟩))), fun y hy => ?_⟩, rfl⟩
            rcases other y hy with ⟨k', i, r, hk', hge, hi, _, _, h, rfl⟩ | ⟨k', hk', hge, h, rfl⟩
            · rcases Nat.eq_or_lt_of_le hge with e | hlt
              · subst e
                rcases Nat.lt_trichotomy i j with hc | hc | hc
                · have h1 := hbj i hc
                  rw [bne_eq_false_iff_eq] at h1
                  have h3 := node_rank (S := S) (Q := Q) (r := true) (leaf_kinds htk hi)
                  rw [if_pos h1] at h3
                  exact absurd (h3 r) h
                · subst hc
                  rcases Nat.lt_or_ge r r0 with hr | hr
                  · exact absurd (a4 r hr) h
                  · exact ahead_rank rfl rfl rfl (by dsimp only; omega)
                · exact ahead_sub rfl rfl (by dsimp only; omega)
              · exact ahead_index rfl (by dsimp only; omega)
            · rcases Nat.eq_or_lt_of_le hge with e | hlt
              · subst e
                rcases Nat.eq_or_lt_of_le (show j ≤ Q.ln k - 1 by omega) with e2 | hlt2
                · exact by
                    have e3 : (Q.ln k : Int) - 1 = j := by omega
                    rw [e3]
                    exact ahead_rank rfl rfl rfl (by dsimp only; omega)
                · exact ahead_sub rfl rfl (by dsimp only; omega)
              · exact ahead_index rfl (by dsimp only; omega)
end
/-- Two that neither comes ahead of have the same place in the order. -/
theorem ahead_key {x y : Fnd} (h1 : aheadB x y = false) (h2 : aheadB y x = false) : x.rule = y.rule ∧ x.index = y.index ∧ x.sub = y.sub ∧ x.rank = y.rank := by
  unfold aheadB at h1 h2
  by_cases e1 : x.rule = y.rule
  · rw [if_neg (by simp [e1])] at h1 h2
    by_cases e2 : x.index = y.index
    · rw [if_neg (by simp [e2])] at h1 h2
      by_cases e3 : x.sub = y.sub
      · rw [if_neg (by simp [e3])] at h1 h2
        have a := of_decide_eq_false h1
        have b := of_decide_eq_false h2
        exact ⟨e1, e2, e3, by omega⟩
      · rw [if_pos e3] at h1
        rw [if_pos (Ne.symm e3)] at h2
        have a := of_decide_eq_false h1
        have b := of_decide_eq_false h2
        omega
    · rw [if_pos e2] at h1
      rw [if_pos (Ne.symm e2)] at h2
      have a := of_decide_eq_false h1
      have b := of_decide_eq_false h2
      omega
  · rw [if_pos e1] at h1
    rw [if_pos (Ne.symm e1)] at h2
    have a := of_decide_eq_false h1
    have b := of_decide_eq_false h2
    omega
/-- The flaw hangs on the place in the order alone. -/
theorem items_key {S : Sch} {Q : Qry} {x y : Fnd} (hx : mItems S Q x) (hy : mItems S Q y) (h1 : x.rule = y.rule) (h2 : x.index = y.index) (h4 : x.rank = y.rank) : x.flw = y.flw := by
  rcases hx with ⟨_, rfl⟩ | ⟨i, _, (⟨_, _, _, rfl⟩ | ⟨_, _, _, _, _, rfl⟩ | ⟨_, rfl⟩ | ⟨_, rfl⟩)⟩ | ⟨_, rfl⟩ <;> rcases hy with ⟨_, rfl⟩ | ⟨k, _, (⟨_, _, _, rfl⟩ | ⟨_, _, _, _, _, rfl⟩ | ⟨_, rfl⟩ | ⟨_, rfl⟩)⟩ | ⟨_, rfl⟩ <;> simp_all [Fnd.flw]
theorem both_key {S : Sch} {Q : Qry} {x y : Fnd} (hx : mWhere S Q x ∨ mRest S Q x) (hy : mWhere S Q y ∨ mRest S Q y) (h1 : x.rule = y.rule) (h2 : x.index = y.index) (h3 : x.sub = y.sub) (h4 : x.rank = y.rank) : x.flw = y.flw := by
  have hp : ∀ z : Fnd, mWhere S Q z ∨ mRest S Q z → (z.rule = 6 ∧ ∃ i r : Nat, 1 ≤ r ∧ r ≤ 4 ∧ z = ⟨6, r, nodeR S Q false Q.wh i r, 4, i, 0⟩) ∨ (z.rule = 7 ∧ z = ⟨7, 0, 75, 4, (Q.wn : Int) - 1, 0⟩) ∨ (z.rule = 8 ∧ ∃ root : Nat, z = ⟨8, 0, 77, 4, root, 0⟩) ∨ (z.rule = 9 ∧ z = ⟨9, 0, 66, 2, 0, 0⟩) ∨ (z.rule = 10 ∧ z = ⟨10, 0, 67, 3, 0, 0⟩) ∨ (z.rule = 11 ∧ z = ⟨11, 0, 78, 5, 8, 0⟩) ∨ (z.rule = 12 ∧ ∃ k i r : Nat, 1 ≤ r ∧ r ≤ 4 ∧ z = ⟨12, r, nodeR S Q true (Q.rt k) i r, 5, k, i⟩) ∨ (z.rule = 12 ∧ ∃ k : Nat, z = ⟨12, 5, 75, 5, k, (Q.ln k : Int) - 1⟩) := by
    rintro z ((⟨i, r, _, a, b, _, rfl⟩ | ⟨_, _, rfl⟩ | ⟨root, _, _, rfl⟩) | (⟨_, rfl⟩ | ⟨_, _, rfl⟩ | ⟨_, rfl⟩ | ⟨k, i, r, _, _, a, b, _, rfl⟩ | ⟨k, _, _, rfl⟩))
    · exact .inl ⟨rfl, i, r, a, b, rfl⟩
    · exact .inr (.inl ⟨rfl, rfl⟩)
    · exact .inr (.inr (.inl ⟨rfl, root, rfl⟩))
    · exact .inr (.inr (.inr (.inl ⟨rfl, rfl⟩)))
    · exact .inr (.inr (.inr (.inr (.inl ⟨rfl, rfl⟩))))
    · exact .inr (.inr (.inr (.inr (.inr (.inl ⟨rfl, rfl⟩)))))
    · exact .inr (.inr (.inr (.inr (.inr (.inr (.inl ⟨rfl, k, i, r, a, b, rfl⟩))))))
    · exact .inr (.inr (.inr (.inr (.inr (.inr (.inr ⟨rfl, k, rfl⟩))))))
  rcases hp x hx with ⟨a, i, r, b1, b2, rfl⟩ | ⟨a, rfl⟩ | ⟨a, i, rfl⟩ | ⟨a, rfl⟩ | ⟨a, rfl⟩ | ⟨a, rfl⟩ | ⟨a, k, i, r, b1, b2, rfl⟩ | ⟨a, k, rfl⟩ <;>
    rcases hp y hy with ⟨c, i', r', d1, d2, rfl⟩ | ⟨c, rfl⟩ | ⟨c, i', rfl⟩ | ⟨c, rfl⟩ | ⟨c, rfl⟩ | ⟨c, rfl⟩ | ⟨c, k', i', r', d1, d2, rfl⟩ | ⟨c, k', rfl⟩ <;>
    dsimp only at h1 h2 h3 h4 <;> first
      | (exfalso; omega)
      | rfl
      | (obtain rfl : i = i' := by omega
         obtain rfl : r = r' := by omega
         rfl)
      | (obtain rfl : i = i' := by omega
         rfl)
      | (obtain rfl : k = k' := by omega
         obtain rfl : i = i' := by omega
         obtain rfl : r = r' := by omega
         rfl)
      | (obtain rfl : k = k' := by omega
         rfl)
end Go.Proofs.YtagcbljfaflhoaaDoor

/-! ### Findings in memory: a list that grows; the walks of found, ahead. -/
namespace Go.Proofs.YtagcbljfaflhoaaDoor
open Go.RowKit Go.ChangeShapes Go.WideShapes Go.ChangeAt Go.Deep Go.Joins
theorem infoFnd : (Tryd.prog.info? 89).map (fun i => (i.zero, i.size, i.bytes)) = some (some (.agg #[.int .i64 0, .int .i64 0, .int .i64 0, .int .i64 0, .int .i64 0, .int .i64 0]), 6, 48) := by kernel_rfl
def fnd0 : Fnd := ⟨0, 0, 0, 0, 0, 0⟩
def fndArr (x : Fnd) : Array Value := #[.int .i64 x.rule, .int .i64 x.rank, .int .i64 x.code, .int .i64 x.part, .int .i64 x.index, .int .i64 x.sub]
def fndCell (x : Fnd) : Nat → Value
  | 0 => .int .i64 x.rule
  | 1 => .int .i64 x.rank
  | 2 => .int .i64 x.code
  | 3 => .int .i64 x.part
  | 4 => .int .i64 x.index
  | _ => .int .i64 x.sub
/-- The cells of findings. -/
def fndC (L : List Fnd) : Nat → Nat → Value := fun j => fndCell (L.getD j fnd0)
theorem fnd_snoc (L : List Fnd) (x : Fnd) : flat (fndC (L ++ [x])) 6 (L.length + 1) = flat (fndC L) 6 L.length ++ (fndArr x).toList := by
  rw [flat_succ, flat_congr (C' := fndC L) (fun j hj i _ => by
    show fndCell ((L ++ [x]).getD j fnd0) i = fndCell (L.getD j fnd0) i
    rw [List.getD_eq_getElem?_getD, List.getD_eq_getElem?_getD, List.getElem?_append_left hj])]
  congr 1
  have e : fndC (L ++ [x]) L.length = fndCell x := by
    show fndCell ((L ++ [x]).getD L.length fnd0) = _
    rw [List.getD_eq_getElem?_getD, List.getElem?_append_right (Nat.le_refl _)]
    simp
  rw [e]
  rfl
set_option maxRecDepth 100000 in
theorem found_any (x : Fnd) (w : World) :
    Calls Tryd.prog 91 #[.int .i64 x.rule, .int .i64 x.rank, .int .i64 x.code, .int .i64 x.part, .int .i64 x.index, .int .i64 x.sub] w fun e w' => e = .returned (.agg (fndArr x)) ∧ Below w.heap.size w w' := by
  have hb0 := bnew (Below.refl w.heap.size w) (.cells #[.int .i64 0, .int .i64 0, .int .i64 0, .int .i64 0, .int .i64 0, .int .i64 0] 89)
  have R0 := Lib.hid (blk_new w #[.int .i64 0, .int .i64 0, .int .i64 0, .int .i64 0, .int .i64 0, .int .i64 0] 89)
  obtain ⟨a, b, c, d, i, s⟩ := x
  go_enter Tryd.func91, Tryd.ntmps91
  go_upto_region 1 with fail
  generalize w.alloc _ = w0 at *
  go_wp2_with (refine wpList_store_row rfl 89 _ _ rfl w.heap.size #[.int .i64 a, .int .i64 b, .int .i64 c, .int .i64 d, .int .i64 i, .int .i64 s] rfl rfl 89 _ R0.out (by kernel_rfl) rfl (by simp [Value.oneCell']) ?_)
  (try simp only [Exit.inBlock, Exit.then])
  have BF := Lib.hid (row_set R0.out #[.int .i64 a, .int .i64 b, .int .i64 c, .int .i64 d, .int .i64 i, .int .i64 s])
  have hbf := below_setRow (cs := #[.int .i64 a, .int .i64 b, .int .i64 c, .int .i64 d, .int .i64 i, .int .i64 s]) hb0 (Nat.le_refl w.heap.size)
  generalize World.setRow _ _ _ = wf at *
  refine bodyPost_ret (v := .agg #[.int .i64 a, .int .i64 b, .int .i64 c, .int .i64 d, .int .i64 i, .int .i64 s]) ?_ rfl ?_
  · exact results_cell_row Tryd.results91 _ _ w.heap.size 89 _ (0, 0) _ rfl BF.out Tryd.underlying89 rfl (by kernel_rfl)
  · exact ⟨rfl, hbf⟩
theorem blk6f {w : World} {b : Nat} {v0 v1 v2 v3 v4 v5 : Value} {T : TypeId} (h : w.heap[b]? = some (.cells #[v0, v1, v2, v3, v4, v5] T (0, 0))) : w.cell? ⟨b, 0, none⟩ = some v0 ∧ w.cell? ⟨b, 1, none⟩ = some v1 ∧ w.cell? ⟨b, 2, none⟩ = some v2 ∧ w.cell? ⟨b, 3, none⟩ = some v3 ∧ w.cell? ⟨b, 4, none⟩ = some v4 ∧ w.cell? ⟨b, 5, none⟩ = some v5 :=
  ⟨blk_cell h (j := 0) rfl, blk_cell h (j := 1) rfl, blk_cell h (j := 2) rfl, blk_cell h (j := 3) rfl, blk_cell h (j := 4) rfl, blk_cell h (j := 5) rfl⟩
set_option maxRecDepth 100000 in
set_option maxHeartbeats 2000000 in
theorem ahead_any (x y : Fnd) (w : World) : Calls Tryd.prog 65 #[.agg (fndArr x), .agg (fndArr y)] w fun e w' => e = .returned (.bool (aheadB x y)) ∧ Below w.heap.size w w' := by
  obtain ⟨xr, xk, xc, xp, xi, xs⟩ := x
  obtain ⟨yr, yk, yc, yp, yi, ys⟩ := y
  show Calls _ _ #[.agg #[.int .i64 xr, .int .i64 xk, .int .i64 xc, .int .i64 xp, .int .i64 xi, .int .i64 xs], .agg #[.int .i64 yr, .int .i64 yk, .int .i64 yc, .int .i64 yp, .int .i64 yi, .int .i64 ys]] w _
  have hb0 := bnew (bnew (Below.refl w.heap.size w) (.cells #[.int .i64 xr, .int .i64 xk, .int .i64 xc, .int .i64 xp, .int .i64 xi, .int .i64 xs] 89)) (.cells #[.int .i64 yr, .int .i64 yk, .int .i64 yc, .int .i64 yp, .int .i64 yi, .int .i64 ys] 89)
  have x0 := blk_alloc (blk_new w #[.int .i64 xr, .int .i64 xk, .int .i64 xc, .int .i64 xp, .int .i64 xi, .int .i64 xs] 89) (.cells #[.int .i64 yr, .int .i64 yk, .int .i64 yc, .int .i64 yp, .int .i64 yi, .int .i64 ys] 89)
  have y0 := blk_new (w.alloc (.cells #[.int .i64 xr, .int .i64 xk, .int .i64 xc, .int .i64 xp, .int .i64 xi, .int .i64 xs] 89)) #[.int .i64 yr, .int .i64 yk, .int .i64 yc, .int .i64 yp, .int .i64 yi, .int .i64 ys] 89
  rw [World.size_alloc] at y0
  have HE := Lib.hid (show aheadB ⟨xr, xk, xc, xp, xi, xs⟩ ⟨yr, yk, yc, yp, yi, ys⟩ = if xr ≠ yr then decide (xr < yr) else if xi ≠ yi then decide (xi < yi) else if xs ≠ ys then decide (xs < ys) else decide (xk < yk) from rfl)
  go_enter Tryd.func65, Tryd.ntmps65
  go_upto_region 1 with fail
  generalize (w.alloc _).alloc _ = w0 at *
  obtain ⟨a0, a1, a2, a3, a4, a5⟩ := blk6f x0
  obtain ⟨b0, b1, b2, b3, b4, b5⟩ := blk6f y0
  clear x0 y0
  by_cases h1 : xr = yr
  · subst h1
    by_cases h2 : xi = yi
    · subst h2
      by_cases h3 : xs = ys
      · subst h3
        go_wp2_with fail
        go_ret
        exact ⟨by rw [HE.out]; simp, hb0⟩
      · have n3 : (xs != ys) = true := by rw [bne_iff_ne]; exact h3
        go_wp2_with fail
        go_ret
        exact ⟨by rw [HE.out]; simp [h3], hb0⟩
    · have n2 : (xi != yi) = true := by rw [bne_iff_ne]; exact h2
      go_wp2_with fail
      go_ret
      exact ⟨by rw [HE.out]; simp [h2], hb0⟩
  · have n1 : (xr != yr) = true := by rw [bne_iff_ne]; exact h1
    go_wp2_with fail
    go_ret
    exact ⟨by rw [HE.out]; simp [h1], hb0⟩
set_option maxRecDepth 100000 in
set_option maxHeartbeats 4000000 in
theorem every_any (A : Option Addr) (cap : Nat) (S : Sch) (x : Itm) (a : Option Addr) (c : Nat) (at_ : ByteArray) (w : World) (hS : TypRd w w.heap.size A S) (h : TxtRd w w.heap.size a x.tn x.ty) :
    Calls Tryd.prog 95 #[.agg #[.slice A S.n cap], .agg (itmArr x (.slice a x.tn c)), .string at_] w fun e w' => e = .returned (.bool (hasB S x at_)) ∧ Below w.heap.size w w' := by
  obtain ⟨ng, tn, ty, vr, lo, hi⟩ := x
  show Calls _ _ #[.agg #[.slice A S.n cap], .agg #[.bool ng, .slice a tn c, .string vr, .int .i64 lo, .int .i64 hi], _] w _
  have hn : tn * 16 ≤ 140737488351232 := h.1
  have hb0 := bnew (bnew (Below.refl w.heap.size w) (.cells #[.slice A S.n cap] 34)) (.cells #[.bool ng, .slice a tn c, .string vr, .int .i64 lo, .int .i64 hi] 80)
  have s0 := blk_alloc (blk_new w #[.slice A S.n cap] 34) (.cells #[.bool ng, .slice a tn c, .string vr, .int .i64 lo, .int .i64 hi] 80)
  have i0 := blk_new (w.alloc (.cells #[.slice A S.n cap] 34)) #[.bool ng, .slice a tn c, .string vr, .int .i64 lo, .int .i64 hi] 80
  rw [World.size_alloc] at i0
  have S0 := Lib.hid s0
  have I0 := Lib.hid i0
  have HT := Lib.hid h
  have HS := Lib.hid hS
  clear h hS s0 i0
  go_enter Tryd.func95, Tryd.ntmps95
  go_upto_region 1 with fail
  generalize (w.alloc _).alloc _ = w0 at *
  go_wp2_with fail
  go_loopw [7] (fun i wr => ∃ k : Nat, k ≤ tn ∧ i = .int .i64 k ∧ Hid (∀ j, j < k → colB S (ty j) at_ = true) ∧ Below w0.heap.size w0 wr) (fun i _ => tn - (intOf i).toNat)
  case atStart => exact ⟨0, Nat.zero_le _, rfl, Lib.hid (yes_zero (p := fun j => colB S (ty j) at_)), Below.refl _ _⟩
  case round =>
    obtain ⟨k, hk, rfl, HN, hb⟩ := hrel
    obtain ⟨W1, e1⟩ : ∃ W1 : World, W1 = wr := ⟨_, rfl⟩
    subst e1
    have hbk := bcall hb0 hb
    have t1 := blk_cell (blk_below I0.out hb) (j := 1) rfl
    by_cases hlt : k < tn
    · obtain ⟨b, off, rfl, hbl, hcs⟩ := RowRd.spot1 (RowRd.later HT.out hbk) (by omega)
      have d1 := hcs k hlt
      have x1 := blk_cell (blk_below S0.out hb) (j := 0) rfl
      have HS1 := Lib.hid (HS.out.later hbk)
      obtain ⟨tI, htI⟩ : ∃ tI, typeI S (ty k) = tI := ⟨_, rfl⟩
      obtain ⟨aI, haI⟩ : ∃ aI, attrI S tI at_ = aI := ⟨_, rfl⟩
      have HTI := Lib.hid htI
      have HAI := Lib.hid haI
      have HC := Lib.hid (show colB S (ty k) at_ = (aI != -1) by rw [colB, htI, haI])
      clear hcs htI haI
      go_wp2_with fail
      go_region_held3 (fun w' => w'.cell? ⟨w.heap.size, 0, none⟩ = some (.slice A S.n cap) ∧ w'.cell? ⟨w.heap.size + 1, 1, none⟩ = some (.slice (some ⟨b, off, none⟩) tn c) ∧ w'.cell? ⟨b, off + k, none⟩ = some (.string (ty k)) ∧ Below W1.heap.size W1 w')
        (first
          | exact ⟨x1, t1, d1, (Below.refl _ _).drew⟩
          | (go_split_ands; exact ⟨rd_later (by assumption) hbz, rd_later (by assumption) hbz, rd_later (by assumption) hbz, bcall (by assumption) hbz⟩))
        (first
          | (go_at_call 92; go_split_ands; refine (refTypeOf_any A cap S (ty k) _ (HS1.out.later (by assumption))).mono ?_; rw [HTI.out]; rintro e wz ⟨rfl, hbz⟩))
      go_split_ands
      have hb5 : Below W1.heap.size W1 wz := by assumption
      have x2 := rd_later x1 hb5
      have t2 := rd_later t1 hb5
      clear x1 t1 d1
      go_wp2_with fail
      refine (refAttrOf_any A cap S tI at_ _ (HS1.out.later hb5)).mono ?_
      rw [HAI.out]
      rintro e w6 ⟨rfl, hb6⟩
      have hb7 := bcall hb5 hb6
      by_cases hc : aI = -1
      · have HE := Lib.hid (show hasB S ⟨ng, tn, ty, vr, lo, hi⟩ at_ = false from all_no (p := fun j => colB S (ty j) at_) hlt (by show colB S (ty k) at_ = false; rw [HC.out, hc]; rfl))
        subst hc
        go_wp2_with fail
        go_ret
        exact ⟨by rw [HE.out]; rfl, bcall hbk hb7⟩
      · have hcb : (aI == -1) = false := by rw [beq_eq_false_iff_ne]; exact hc
        have HY := Lib.hid (yes_step (p := fun j => colB S (ty j) at_) HN.out (by show colB S (ty k) at_ = true; rw [HC.out, bne_iff_ne]; exact hc))
        go_wp2_with fail
        go_roundw
        case rel => exact ⟨k + 1, by omega, by go_num, HY, bcall hb hb7⟩
        case measure => simp [intOf]; omega
    · obtain rfl : k = tn := by omega
      have HE := Lib.hid (show hasB S ⟨ng, k, ty, vr, lo, hi⟩ at_ = true from all_yes HN.out)
      go_wp2_with fail
      go_ret
      exact ⟨by rw [HE.out]; rfl, hbk⟩
end Go.Proofs.YtagcbljfaflhoaaDoor

/-
  Several texts in one: Parted, Together, FindP, FindQ, Found, UsesRef, OfItems.
-/
import Derived.Test.YtagcbljfaflhoaaDoorCheckOk
import Derived.Test.YtagcbljfaflhoaaDoorTreeMake
import Derived.Test.YtagcbljfaflhoaaDoorCheckFn
import Derived.Deep.RegionHeld3
import Derived.Test.YtagcbljfaflhoaaDoorUsesWalk
import Derived.Test.YtagcbljfaflhoaaDoorQuerySame
import Derived.Deep.RegionWith
import Derived.Deep.CutRange
set_option linter.unusedSimpArgs false
set_option linter.unusedVariables false
/-! ### The tree (c AND d): plain: its shape, its conjuncts, what is wrong with it as a query's WHERE. -/
namespace Go.Proofs.YtagcbljfaflhoaaDoor
/-- A node, its operands' places counted from further up. -/
def upN (x : Nod) (d : Nat) : Nod := ⟨x.op, x.n, x.vr, x.at_, if 0 ≤ x.a then x.a + d else x.a, if 0 ≤ x.b then x.b + d else x.b⟩
/-- (c AND d). -/
def bothF (cn : Nat) (cf : Nat → Nod) (dn : Nat) (df : Nat → Nod) (i : Nat) : Nod :=
  if i < cn then cf i else if i < cn + dn then upN (df (i - cn)) cn else ⟨25, 0, .empty, .empty, (cn : Int) - 1, ((cn + dn : Nat) : Int) - 1⟩
def bothL (cn : Nat) (lc : Nat → Nat) (dn : Nat) (ld : Nat → Nat) (i : Nat) : Nat := if i < cn then lc i else if i < cn + dn then cn + ld (i - cn) else 0
section
variable {cn dn : Nat} {cf df : Nat → Nod} {lc ld : Nat → Nat}
theorem both_c {i : Nat} (h : i < cn) : bothF cn cf dn df i = cf i := by rw [bothF, if_pos h]
theorem both_d {i : Nat} (h : i < dn) : bothF cn cf dn df (cn + i) = upN (df i) cn := by
  rw [bothF, if_neg (by omega), if_pos (by omega), show cn + i - cn = i by omega]
theorem both_last : bothF cn cf dn df (cn + dn) = ⟨25, 0, .empty, .empty, (cn : Int) - 1, ((cn + dn : Nat) : Int) - 1⟩ := by
  rw [bothF, if_neg (by omega), if_neg (by omega)]
theorem bothL_c {i : Nat} (h : i < cn) : bothL cn lc dn ld i = lc i := by rw [bothL, if_pos h]
theorem bothL_d {i : Nat} (h : i < dn) : bothL cn lc dn ld (cn + i) = cn + ld i := by
  rw [bothL, if_neg (by omega), if_pos (by omega), show cn + i - cn = i by omega]
theorem bothL_last : bothL cn lc dn ld (cn + dn) = 0 := by rw [bothL, if_neg (by omega), if_neg (by omega)]
theorem both_shp (hc : Shp cn cf lc) (hd : Shp dn df ld) (h0 : 0 < cn) (h1 : 0 < dn) (hc0 : lc (cn - 1) = 0) (hd0 : ld (dn - 1) = 0) : Shp (cn + dn + 1) (bothF cn cf dn df) (bothL cn lc dn ld) := by
  have key : ∀ j, j < cn + dn + 1 → j < cn ∨ (∃ i, i < dn ∧ j = cn + i) ∨ j = cn + dn := by
    intro j hj
    rcases Nat.lt_or_ge j cn with h | h
    · exact .inl h
    · rcases Nat.lt_or_ge j (cn + dn) with h2 | h2
      · exact .inr (.inl ⟨j - cn, by omega, by omega⟩)
      · exact .inr (.inr (by omega))
  refine ⟨fun j hj => ?_, fun j hj => ?_⟩
  · rcases key j hj with h | ⟨i, h, rfl⟩ | rfl
    · rw [bothL_c h]; exact hc.le j h
    · rw [bothL_d h]; have := hd.le i h; omega
    · rw [bothL_last]; omega
  · rcases key j hj with h | ⟨i, h, rfl⟩ | rfl
    · rw [both_c h]
      have hle := hc.le
      rcases hc.kind j h with ⟨k0, ha, hb, hl⟩ | ⟨k1, k2, ha, hb, hl⟩ | ⟨k1, k2, hb, k3, ha, hl⟩
      · exact .inl ⟨k0, ha, hb, by rw [bothL_c h]; exact hl⟩
      · exact .inr (.inl ⟨k1, k2, ha, hb, by rw [bothL_c h, bothL_c (by omega)]; exact hl⟩)
      · have := hle (j - 1) (by omega)
        exact .inr (.inr ⟨k1, k2, hb, by rw [bothL_c (by omega)]; exact k3, by rw [bothL_c (by omega)]; exact ha, by rw [bothL_c h, bothL_c (i := j - 1) (by omega), bothL_c (by omega)]; exact hl⟩)
    · rw [both_d h]
      have hle := hd.le
      rcases hd.kind i h with ⟨k0, ha, hb, hl⟩ | ⟨k1, k2, ha, hb, hl⟩ | ⟨k1, k2, hb, k3, ha, hl⟩
      · refine .inl ⟨k0, ?_, ?_, by rw [bothL_d h, hl]⟩
        · show (if 0 ≤ (df i).a then (df i).a + cn else (df i).a) = -1
          rw [if_neg (by omega)]; exact ha
        · show (if 0 ≤ (df i).b then (df i).b + cn else (df i).b) = -1
          rw [if_neg (by omega)]; exact hb
      · refine .inr (.inl ⟨k1, by omega, ?_, ?_, ?_⟩)
        · show (if 0 ≤ (df i).a then (df i).a + cn else (df i).a) = ((cn + i : Nat) : Int) - 1
          rw [if_pos (by omega)]; omega
        · show (if 0 ≤ (df i).b then (df i).b + cn else (df i).b) = -1
          rw [if_neg (by omega)]; exact hb
        · rw [bothL_d h, show cn + i - 1 = cn + (i - 1) by omega, bothL_d (by omega), hl]
      · have hq := hle (i - 1) (by omega)
        have e1 : cn + i - 1 = cn + (i - 1) := by omega
        refine .inr (.inr ⟨k1, by omega, ?_, ?_, ?_, ?_⟩)
        · show (if 0 ≤ (df i).b then (df i).b + cn else (df i).b) = ((cn + i : Nat) : Int) - 1
          rw [if_pos (by omega)]; omega
        · rw [e1, bothL_d (by omega)]; omega
        · show (if 0 ≤ (df i).a then (df i).a + cn else (df i).a) = _
          rw [e1, bothL_d (by omega), if_pos (by omega)]; omega
        · rw [bothL_d h, e1, bothL_d (i := i - 1) (by omega), show cn + ld (i - 1) - 1 = cn + (ld (i - 1) - 1) by omega, bothL_d (by omega), hl]
    · rw [both_last]
      have e1 : cn + dn - 1 = cn + (dn - 1) := by omega
      refine .inr (.inr ⟨rfl, by omega, by show ((cn + dn : Nat) : Int) - 1 = _; omega, ?_, ?_, ?_⟩)
      · rw [e1, bothL_d (by omega)]; omega
      · show (cn : Int) - 1 = _
        rw [e1, bothL_d (by omega), hd0]; omega
      · rw [bothL_last, e1, bothL_d (i := dn - 1) (by omega), hd0, bothL_c (by omega), show cn + 0 - 1 = cn - 1 by omega, hc0]
theorem both_tree (hc : treeB cn cf = true) (hd : treeB dn df = true) : treeB (cn + dn + 1) (bothF cn cf dn df) = true ∧ ∀ j, j < cn + dn + 1 → begF (cn + dn + 1) (bothF cn cf dn df) j = bothL cn (begF cn cf) dn (begF dn df) j := by
  obtain ⟨h0, sc, c0, fc⟩ := tree_shp hc
  obtain ⟨h1, sd, d0, fd⟩ := tree_shp hd
  refine shp_tree (both_shp sc sd h0 h1 c0 d0) (fun j hj => ?_) (by omega) (by rw [show cn + dn + 1 - 1 = cn + dn by omega, bothL_last])
  rcases Nat.lt_or_ge j cn with h | h
  · rw [both_c h]; exact fc j h
  · rcases Nat.lt_or_ge j (cn + dn) with h2 | h2
    · rw [show j = cn + (j - cn) by omega, both_d (by omega)]
      exact fd (j - cn) (by omega)
    · rw [show j = cn + dn by omega, both_last]
      simp only [fieldsB, numB, varB, attB, toList_empty]
      rfl
theorem conj_c (hc : Shp cn cf lc) : ∀ k r, r < cn → conjF (bothF cn cf dn df) k r = conjF cf k r
  | 0, _, _ => rfl
  | k + 1, r, hr => by
    rw [conjF, conjF, both_c hr]
    by_cases ho : (cf r).op = 25
    · obtain ⟨k2, hb, k3, ha, _⟩ := and_kind hc hr ho
      have := hc.le (r - 1) (by omega)
      rw [if_pos ho, if_pos ho, conj_c hc k _ (by omega), conj_c hc k _ (by omega)]
    · rw [if_neg ho, if_neg ho]
theorem conj_d (hd : Shp dn df ld) : ∀ k r, r < dn → conjF (bothF cn cf dn df) k (cn + r) = (conjF df k r).map (cn + ·)
  | 0, _, _ => rfl
  | k + 1, r, hr => by
    rw [conjF, conjF, both_d hr]
    show (if (df r).op = 25 then _ else _) = _
    by_cases ho : (df r).op = 25
    · obtain ⟨k2, hb, k3, ha, _⟩ := and_kind hd hr ho
      have := hd.le (r - 1) (by omega)
      have ea : (upN (df r) cn).a.toNat = cn + (df r).a.toNat := by
        show (if 0 ≤ (df r).a then (df r).a + cn else (df r).a).toNat = _
        rw [if_pos (by omega)]; omega
      have eb : (upN (df r) cn).b.toNat = cn + (df r).b.toNat := by
        show (if 0 ≤ (df r).b then (df r).b + cn else (df r).b).toNat = _
        rw [if_pos (by omega)]; omega
      rw [if_pos ho, if_pos ho, ea, eb, conj_d hd k _ (by omega), conj_d hd k _ (by omega), List.map_append]
    · rw [if_neg ho, if_neg ho]
      rfl
theorem both_conj (hc : treeB cn cf = true) (hd : treeB dn df = true) : conjL (cn + dn + 1) (bothF cn cf dn df) = conjL cn cf ++ (conjL dn df).map (cn + ·) := by
  obtain ⟨h0, sc, c0, fc⟩ := tree_shp hc
  obtain ⟨h1, sd, d0, fd⟩ := tree_shp hd
  rw [conjL, if_pos (both_tree hc hd).1, conjL, if_pos hc, conjL, if_pos hd, conjF, show cn + dn + 1 - 1 = cn + dn by omega, both_last, if_pos rfl]
  show conjF _ (cn + dn) ((cn : Int) - 1).toNat ++ conjF _ (cn + dn) (((cn + dn : Nat) : Int) - 1).toNat = _
  rw [show ((cn : Int) - 1).toNat = cn - 1 by omega, show (((cn + dn : Nat) : Int) - 1).toNat = cn + (dn - 1) by omega, conj_c sc _ _ (by omega), conj_d sd _ _ (by omega), conjF_more sc (cn - 1) (by omega) (cn + dn) cn (by omega) (by omega), conjF_more sd (dn - 1) (by omega) (cn + dn) dn (by omega) (by omega)]
end
/-- What a list of nodes mentions, by its operators and names. -/
theorem uses_congr {P : Int → Bool} {n : Nat} {it : Nat → Itm} {t t' : Nat → Nod} {k m : Nat} (h : ∀ j, j < k → (t j).op = (t' j).op ∧ (t j).vr = (t' j).vr) : usesL P n it t k m = usesL P n it t' k m := by
  have e : ∀ i, anyU P n it t k i = anyU P n it t' k i := by
    intro i
    unfold anyU
    rw [Bool.eq_iff_iff, List.any_eq_true, List.any_eq_true]
    constructor
    · rintro ⟨j, hj, hp⟩
      obtain ⟨e1, e2⟩ := h j (List.mem_range.1 hj)
      exact ⟨j, hj, by rw [← e1, ← e2]; exact hp⟩
    · rintro ⟨j, hj, hp⟩
      obtain ⟨e1, e2⟩ := h j (List.mem_range.1 hj)
      exact ⟨j, hj, by rw [e1, e2]; exact hp⟩
  unfold usesL
  exact List.filter_congr fun i _ => e i
/-- Does what the conjunct mentions touch more than one such item? -/
def rootMix (Q : Qry) (n : Nat) (f : Nat → Nod) (root : Nat) : Bool := mixB Q (usesL bareB Q.n Q.it (subF n f root) (sizeI n f root) Q.n)
theorem walkP_ok {S : Sch} {Q : Qry} {r : Bool} {n : Nat} {f : Nat → Nod} : (walkP S Q r n f).2 = 0 ↔ ∀ j, j < n → nodeE S Q r f j = 0 := by
  rcases firstI_or (fun i => nodeE S Q r f i != 0) n with ⟨e, hn⟩ | ⟨j, hj, e, hp, hb⟩
  · rw [walkP_none hn]
    refine ⟨fun _ k hk => ?_, fun _ => rfl⟩
    have := hn k hk
    rwa [bne_eq_false_iff_eq] at this
  · rw [bne_iff_ne] at hp
    rw [walkP_hit hj rfl hp hb]
    exact ⟨fun h => absurd h hp, fun h => absurd (h j hj) hp⟩
theorem treeP_ok {S : Sch} {Q : Qry} {r : Bool} {n : Nat} {f : Nat → Nod} : (treeP S Q r n f).2 = 0 ↔ (∀ j, j < n → nodeE S Q r f j = 0) ∧ isTruthB n f = !r := by
  unfold treeP
  by_cases h : (walkP S Q r n f).2 = 0
  · by_cases h2 : isTruthB n f = r
    · rw [if_pos ⟨h, h2⟩]
      refine ⟨fun h => (by cases h), fun h => ?_⟩
      rw [h2] at h
      cases r <;> simp at h
    · rw [if_neg (fun h => h2 h.2)]
      refine ⟨fun h => ⟨walkP_ok.1 h, ?_⟩, fun h => walkP_ok.2 h.1⟩
      cases h3 : isTruthB n f <;> cases r <;> simp_all
  · rw [if_neg (fun h' => h h'.1)]
    exact ⟨fun h' => absurd h' h, fun h' => absurd (walkP_ok.2 h'.1) h⟩
theorem whereF_ok {S : Sch} {Q : Qry} : (whereF S Q).code = 0 ↔ Q.wn = 0 ∨ ((∀ j, j < Q.wn → nodeE S Q false Q.wh j = 0) ∧ isTruthB Q.wn Q.wh = true ∧ ∀ root ∈ conjL Q.wn Q.wh, rootMix Q Q.wn Q.wh root = false) := by
  unfold whereF
  by_cases h0 : Q.wn = 0
  · rw [if_pos h0]
    exact ⟨fun _ => .inl h0, fun _ => rfl⟩
  · rw [if_neg h0]
    by_cases h1 : (treeP S Q false Q.wn Q.wh).2 = 0
    · rw [if_neg (by rw [h1]; simp)]
      have h2 := treeP_ok.1 h1
      have e : (fun root : Nat => mixB Q (usesL bareB Q.n Q.it (subF Q.wn Q.wh root) (sizeI Q.wn Q.wh root) Q.n)) = rootMix Q Q.wn Q.wh := rfl
      rw [e]
      cases hf : (conjL Q.wn Q.wh).find? (rootMix Q Q.wn Q.wh) with
      | none =>
        refine ⟨fun _ => .inr ⟨h2.1, h2.2, fun root hr => ?_⟩, fun _ => rfl⟩
        have := List.find?_eq_none.1 hf root hr
        simpa using this
      | some root =>
        refine ⟨fun h => (by cases h), fun h => ?_⟩
        rcases h with h | h
        · exact absurd h h0
        · have hp := List.find?_some hf
          rw [h.2.2 root (List.mem_of_find?_eq_some hf)] at hp
          cases hp
    · rw [if_pos h1]
      refine ⟨fun h => absurd h h1, fun h => ?_⟩
      rcases h with h | h
      · exact absurd h h0
      · exact absurd (treeP_ok.2 ⟨h.1, h.2.1⟩) h1
section
variable {S : Sch} {Q : Qry} {cn dn : Nat} {cf df : Nat → Nod}
/-- The query with another WHERE. -/
def withW (Q : Qry) (n : Nat) (f : Nat → Nod) : Qry := { Q with wn := n, wh := f }
theorem node_c (hc : treeB cn cf = true) {j : Nat} (hj : j < cn) : nodeE S Q false (bothF cn cf dn df) j = nodeE S Q false cf j := by
  have hr := (tree_shp hc).2.1.rng hj
  have kid : ∀ want (k : Int), k < cn → kidB (bothF cn cf dn df) want k = kidB cf want k := by
    intro want k hk
    unfold kidB
    by_cases h : 0 ≤ k
    · rw [both_c (by omega)]
    · simp [h]
  have kk : kindsB (bothF cn cf dn df) (cf j) = kindsB cf (cf j) := by
    unfold kindsB
    rw [kid _ _ (by omega), kid _ _ (by omega)]
  unfold nodeE
  rw [both_c hj, kk]
theorem node_d (hd : treeB dn df = true) {j : Nat} (hj : j < dn) : nodeE S Q false (bothF cn cf dn df) (cn + j) = nodeE S Q false df j := by
  have hr := (tree_shp hd).2.1.rng hj
  have kid : ∀ want (k : Int), k < dn → kidB (bothF cn cf dn df) want (if 0 ≤ k then k + cn else k) = kidB df want k := by
    intro want k hk
    by_cases h : 0 ≤ k
    · rw [if_pos h]
      unfold kidB
      rw [show (k + cn).toNat = cn + k.toNat by omega, both_d (by omega), decide_eq_true (show 0 ≤ k + cn by omega), decide_eq_true h]
      rfl
    · rw [if_neg h, kid_neg (by omega), kid_neg (by omega)]
  have kk : kindsB (bothF cn cf dn df) (upN (df j) cn) = kindsB df (df j) := by
    unfold kindsB
    show (kidB _ (wantB (df j).op) (if 0 ≤ (df j).a then (df j).a + cn else (df j).a) && kidB _ (wantB (df j).op) (if 0 ≤ (df j).b then (df j).b + cn else (df j).b)) = _
    rw [kid _ _ (by omega), kid _ _ (by omega)]
  unfold nodeE
  rw [both_d hj, kk]
  rfl
theorem node_and (h0 : 0 < cn) (h1 : 0 < dn) : nodeE S Q false (bothF cn cf dn df) (cn + dn) = 0 ↔ isTruthB cn cf = true ∧ isTruthB dn df = true := by
  have e1 : kindsB (bothF cn cf dn df) (bothF cn cf dn df (cn + dn)) = (isTruthB cn cf && isTruthB dn df) := by
    rw [both_last]
    show (kidB _ true ((cn : Int) - 1) && kidB _ true (((cn + dn : Nat) : Int) - 1)) = _
    rw [show (cn : Int) - 1 = ((cn - 1 : Nat) : Int) by omega, show ((cn + dn : Nat) : Int) - 1 = ((cn + (dn - 1) : Nat) : Int) by omega, kid_at rfl, kid_at rfl, both_c (by omega), both_d (by omega)]
    simp only [isTruthB, decide_eq_true h0, decide_eq_true h1, Bool.true_and, Bool.bne_true, Bool.not_not]
    rfl
  have e2 : mentE S Q false (bothF cn cf dn df (cn + dn)) = 0 := by rw [both_last]; rfl
  unfold nodeE
  rw [e2, if_neg (by simp), e1]
  cases isTruthB cn cf <;> cases isTruthB dn df <;> simp
theorem root_c (hc : treeB cn cf = true) (hd : treeB dn df = true) {r : Nat} (hr : r < cn) : rootMix Q (cn + dn + 1) (bothF cn cf dn df) r = rootMix Q cn cf r := by
  obtain ⟨ht, hb⟩ := both_tree hc hd
  have hle := (tree_shp hc).2.1.le r hr
  have eb : begF (cn + dn + 1) (bothF cn cf dn df) r = begF cn cf r := by rw [hb r (by omega), bothL_c hr]
  unfold rootMix
  rw [size_at ht (by omega), size_at hc hr, eb]
  congr 1
  refine uses_congr fun j hj => ?_
  have e1 : subF (cn + dn + 1) (bothF cn cf dn df) (r : Int) j = shiftN (cf (begF cn cf r + j)) (begF cn cf r) := by
    rw [subF, Int.toNat_natCast, eb, both_c (by omega)]
  rw [e1, subF, Int.toNat_natCast]
  exact ⟨rfl, rfl⟩
theorem root_d (hc : treeB cn cf = true) (hd : treeB dn df = true) {r : Nat} (hr : r < dn) : rootMix Q (cn + dn + 1) (bothF cn cf dn df) (cn + r) = rootMix Q dn df r := by
  obtain ⟨ht, hb⟩ := both_tree hc hd
  have hle := (tree_shp hd).2.1.le r hr
  have eb : begF (cn + dn + 1) (bothF cn cf dn df) (cn + r) = cn + begF dn df r := by rw [hb _ (by omega), bothL_d hr]
  unfold rootMix
  rw [size_at ht (by omega), size_at hd hr, eb, show cn + r - (cn + begF dn df r) + 1 = r - begF dn df r + 1 by omega]
  congr 1
  refine uses_congr fun j hj => ?_
  have e1 : subF (cn + dn + 1) (bothF cn cf dn df) ((cn + r : Nat) : Int) j = shiftN (upN (df (begF dn df r + j)) cn) (cn + begF dn df r) := by
    rw [subF, Int.toNat_natCast, eb, show cn + begF dn df r + j = cn + (begF dn df r + j) by omega, both_d (by omega)]
  rw [e1, subF, Int.toNat_natCast]
  exact ⟨rfl, rfl⟩
theorem both_where (hc : treeB cn cf = true) (hd : treeB dn df = true) : (whereF S (withW Q (cn + dn + 1) (bothF cn cf dn df))).code = 0 ↔ (whereF S (withW Q cn cf)).code = 0 ∧ (whereF S (withW Q dn df)).code = 0 := by
  obtain ⟨h0, sc, c0, fc⟩ := tree_shp hc
  obtain ⟨h1, sd, d0, fd⟩ := tree_shp hd
  rw [whereF_ok, whereF_ok, whereF_ok]
  show (cn + dn + 1 = 0 ∨ ((∀ j, j < cn + dn + 1 → nodeE S Q false (bothF cn cf dn df) j = 0) ∧ isTruthB (cn + dn + 1) (bothF cn cf dn df) = true ∧ ∀ root ∈ conjL (cn + dn + 1) (bothF cn cf dn df), rootMix Q (cn + dn + 1) (bothF cn cf dn df) root = false)) ↔
    (cn = 0 ∨ ((∀ j, j < cn → nodeE S Q false cf j = 0) ∧ isTruthB cn cf = true ∧ ∀ root ∈ conjL cn cf, rootMix Q cn cf root = false)) ∧
    (dn = 0 ∨ ((∀ j, j < dn → nodeE S Q false df j = 0) ∧ isTruthB dn df = true ∧ ∀ root ∈ conjL dn df, rootMix Q dn df root = false))
  rw [both_conj hc hd]
  constructor
  · rintro (h | ⟨hn, ht, hr⟩)
    · omega
    · have hand := (node_and (S := S) (Q := Q) (cf := cf) (df := df) h0 h1).1 (hn (cn + dn) (by omega))
      refine ⟨.inr ⟨fun j hj => ?_, hand.1, fun root hroot => ?_⟩, .inr ⟨fun j hj => ?_, hand.2, fun root hroot => ?_⟩⟩
      · rw [← node_c (dn := dn) (df := df) hc hj]; exact hn j (by omega)
      · rw [← root_c hc hd (conjL_lt hc root hroot)]
        exact hr root (List.mem_append_left _ hroot)
      · rw [← node_d (cn := cn) (cf := cf) hd hj]; exact hn (cn + j) (by omega)
      · rw [← root_d hc hd (conjL_lt hd root hroot)]
        exact hr (cn + root) (List.mem_append_right _ (List.mem_map.2 ⟨root, hroot, rfl⟩))
  · rintro ⟨hC, hD⟩
    obtain ⟨hc1, hc2, hc3⟩ := hC.resolve_left (by omega)
    obtain ⟨hd1, hd2, hd3⟩ := hD.resolve_left (by omega)
    refine .inr ⟨fun j hj => ?_, ?_, fun root hroot => ?_⟩
    · rcases Nat.lt_or_ge j cn with h | h
      · rw [node_c hc h]; exact hc1 j h
      · rcases Nat.lt_or_ge j (cn + dn) with h2 | h2
        · rw [show j = cn + (j - cn) by omega, node_d hd (by omega)]
          exact hd1 _ (by omega)
        · rw [show j = cn + dn by omega]
          exact (node_and h0 h1).2 ⟨hc2, hd2⟩
    · rw [isTruthB, show cn + dn + 1 - 1 = cn + dn by omega, both_last, decide_eq_true (by omega)]
      rfl
    · rcases List.mem_append.1 hroot with h | h
      · rw [root_c hc hd (conjL_lt hc root h)]; exact hc3 root h
      · obtain ⟨r, hr, rfl⟩ := List.mem_map.1 h
        rw [root_d hc hd (conjL_lt hd r hr)]; exact hd3 r hr
theorem shape_with (hc : treeB cn cf = true) (hd : treeB dn df = true) : shapedB (withW Q cn cf) = shapedB (withW Q dn df) := by
  have h0 := (tree_shp hc).1
  have h1 := (tree_shp hd).1
  simp only [shapedB, withW, hc, hd, Bool.or_true]
  rfl
/-- (c AND d) is well formed in a query just if c is and d is. -/
theorem both_ok (hc : treeB cn cf = true) (hd : treeB dn df = true) : CheckOk S (withW Q (cn + dn + 1) (bothF cn cf dn df)) ↔ CheckOk S (withW Q cn cf) ∧ CheckOk S (withW Q dn df) := by
  have ht := (both_tree hc hd).1
  constructor
  · intro h
    have hw := (both_where hc hd).1 h.wher
    exact ⟨⟨h.sch, by rw [shape_with hc ht]; exact h.shape, h.items, hw.1, h.within, h.by_, h.many, h.rets⟩, ⟨h.sch, by rw [shape_with hd ht]; exact h.shape, h.items, hw.2, h.within, h.by_, h.many, h.rets⟩⟩
  · rintro ⟨h, h'⟩
    exact ⟨h.sch, by rw [shape_with ht hc]; exact h.shape, h.items, (both_where hc hd).2 ⟨h.wher, h'.wher⟩, h.within, h.by_, h.many, h.rets⟩
end
end Go.Proofs.YtagcbljfaflhoaaDoor

/-! ### The document's own gathering of what is wrong (plain): findings, which are there, which comes first. -/
namespace Go.Proofs.YtagcbljfaflhoaaDoor
/-- Something that is wrong. -/
structure Fnd where
  rule : Int
  rank : Int
  code : Int
  part : Int
  index : Int
  sub : Int
def Fnd.flw (x : Fnd) : Flw := ⟨x.code, x.part, x.index, x.sub⟩
/-- Does x come ahead of y? -/
def aheadB (x y : Fnd) : Bool := if x.rule ≠ y.rule then decide (x.rule < y.rule) else if x.index ≠ y.index then decide (x.index < y.index) else if x.sub ≠ y.sub then decide (x.sub < y.sub) else decide (x.rank < y.rank)
/-- x is the first of those. -/
def Least (M : Fnd → Prop) (x : Fnd) : Prop := M x ∧ ∀ y, M y → aheadB y x = false
/-- What is wrong with the pattern. -/
def mItem (S : Sch) (Q : Qry) (i : Nat) (x : Fnd) : Prop :=
  (∃ j, j < (Q.it i).tn ∧ typeI S ((Q.it i).ty j) < 0 ∧ x = ⟨4, 1, 61, 1, i, 0⟩) ∨
  (∃ j k, k < j ∧ j < (Q.it i).tn ∧ ((Q.it i).ty j).toList = ((Q.it i).ty k).toList ∧ x = ⟨4, 2, 62, 1, i, 0⟩) ∨
  (¬ (1 ≤ (Q.it i).lo ∧ (Q.it i).lo ≤ (Q.it i).hi ∧ (Q.it i).hi ≤ 4) ∧ x = ⟨4, 3, 63, 1, i, 0⟩) ∨
  (itemI Q.n Q.it (Q.it i).vr < i ∧ x = ⟨4, 4, 64, 1, i, 0⟩)
def mItems (S : Sch) (Q : Qry) (x : Fnd) : Prop :=
  (10 < Q.n ∧ x = ⟨3, 0, 60, 1, 10, 0⟩) ∨ (∃ i, i < Q.n ∧ mItem S Q i x) ∨ (allB (fun i => (Q.it i).neg) Q.n = true ∧ x = ⟨5, 0, 65, 1, 0, 0⟩)
/-- What node i of a tree earns: by rank. -/
def nodeR (S : Sch) (Q : Qry) (r : Bool) (f : Nat → Nod) (i : Nat) : Nat → Int
  | 1 => if (bareB (f i).op || aggB (f i).op) = true ∧ itemI Q.n Q.it (f i).vr = -1 then 68 else 0
  | 2 => if (bareB (f i).op || aggB (f i).op) = true ∧ itemI Q.n Q.it (f i).vr ≠ -1 ∧ (!((f i).op == 5) && !hasB S (Q.it (itemI Q.n Q.it (f i).vr).toNat) (f i).at_) = true then 69 else 0
  | 3 => if (bareB (f i).op || aggB (f i).op) = true ∧ itemI Q.n Q.it (f i).vr ≠ -1 ∧ ((aggB (f i).op && (Q.it (itemI Q.n Q.it (f i).vr).toNat).neg) || ((f i).op == 11 && !repB (Q.it (itemI Q.n Q.it (f i).vr).toNat)) || (r && bareB (f i).op && ((Q.it (itemI Q.n Q.it (f i).vr).toNat).neg || repB (Q.it (itemI Q.n Q.it (f i).vr).toNat)))) = true then 76 else 0
  | 4 => if (bareB (f i).op || aggB (f i).op) = false ∧ kindsB f (f i) = false then 75 else 0
  | _ => 0
/-- What is wrong with WHERE. -/
def mWhere (S : Sch) (Q : Qry) (x : Fnd) : Prop :=
  (∃ i r : Nat, i < Q.wn ∧ 1 ≤ r ∧ r ≤ 4 ∧ nodeR S Q false Q.wh i r ≠ 0 ∧ x = ⟨6, r, nodeR S Q false Q.wh i r, 4, i, 0⟩) ∨
  (0 < Q.wn ∧ isTruthB Q.wn Q.wh = false ∧ x = ⟨7, 0, 75, 4, (Q.wn : Int) - 1, 0⟩) ∨
  (∃ root ∈ conjL Q.wn Q.wh, rootMix Q Q.wn Q.wh root = true ∧ x = ⟨8, 0, 77, 4, root, 0⟩)
/-- What is wrong with the rest. -/
def mRest (S : Sch) (Q : Qry) (x : Fnd) : Prop :=
  (1099511627776 < Q.within ∧ x = ⟨9, 0, 66, 2, 0, 0⟩) ∨
  (Q.by_.toList.isEmpty = false ∧ (∃ i, i < Q.n ∧ (hasB S (Q.it i) Q.by_ = false ∨ Q.by_.toList = [116, 115])) ∧ x = ⟨10, 0, 67, 3, 0, 0⟩) ∨
  (8 < Q.m ∧ x = ⟨11, 0, 78, 5, 8, 0⟩) ∨
  (∃ k i r : Nat, k < Q.m ∧ i < Q.ln k ∧ 1 ≤ r ∧ r ≤ 4 ∧ nodeR S Q true (Q.rt k) i r ≠ 0 ∧ x = ⟨12, r, nodeR S Q true (Q.rt k) i r, 5, k, i⟩) ∨
  (∃ k : Nat, k < Q.m ∧ isTruthB (Q.ln k) (Q.rt k) = true ∧ x = ⟨12, 5, 75, 5, k, (Q.ln k : Int) - 1⟩)
section
variable {S : Sch} {Q : Qry}
theorem known_iff {x : Itm} : knownB S x = true ↔ ∀ j, j < x.tn → 0 ≤ typeI S (x.ty j) :=
  ⟨fun h j hj => of_decide_eq_true (of_all (p := fun j => decide (0 ≤ typeI S (x.ty j))) h hj), fun h => all_yes fun j hj => decide_eq_true (h j hj)⟩
theorem once_iff {x : Itm} : onceB x = true ↔ ∀ j, j < x.tn → ∀ k, k < j → (x.ty j).toList ≠ (x.ty k).toList := by
  constructor
  · intro h j hj k hk e
    have h1 := of_all (p := fun j => !twiceB x.ty j) h hj
    rw [show twiceB x.ty j = true from inB_hit hk (by rw [e]; exact beq_self_eq_true _)] at h1
    cases h1
  · intro h
    refine all_yes fun j hj => ?_
    show (!twiceB x.ty j) = true
    rw [show twiceB x.ty j = false from inB_none fun k hk => by rw [beq_eq_false_iff_ne]; exact fun e => h j hj k hk e.symm]
    rfl
theorem dup_iff {n i : Nat} {it : Nat → Itm} (hi : i < n) : itemI n it (it i).vr < i ↔ itemI i it (it i).vr ≠ -1 := by
  rcases itemI_or i it (it i).vr with h | ⟨j, hj, h⟩
  · rw [h]
    have hit : itemI n it (it i).vr = i := firstI_hit hi (beq_self_eq_true _) (by
      rcases firstI_or (fun k => (it k).vr.toList == (it i).vr.toList) i with ⟨_, h2⟩ | ⟨j, hj, e, _, _⟩
      · exact h2
      · exact absurd (h.symm.trans e) (by omega))
    rw [hit]
    simp
  · rw [h]
    have hit : itemI n it (it i).vr = j := by
      rcases firstI_or (fun k => (it k).vr.toList == (it i).vr.toList) i with ⟨e, _⟩ | ⟨j', hj', e, hp, hb⟩
      · exact absurd (h.symm.trans e) (by omega)
      · have : j' = j := by have := e.symm.trans h; omega
        subst this
        exact firstI_hit (by omega) hp hb
    rw [hit]
    constructor
    · intro _; omega
    · intro _; omega
theorem ahead_rank {x y : Fnd} (h1 : x.rule = y.rule) (h2 : x.index = y.index) (h3 : x.sub = y.sub) (h4 : y.rank ≤ x.rank) : aheadB x y = false := by
  unfold aheadB
  rw [if_neg (by simp [h1]), if_neg (by simp [h2]), if_neg (by simp [h3])]
  exact decide_eq_false (by omega)
theorem ahead_index {x y : Fnd} (h1 : x.rule = y.rule) (h2 : y.index < x.index) : aheadB x y = false := by
  unfold aheadB
  rw [if_neg (by simp [h1]), if_pos (by omega)]
  exact decide_eq_false (by omega)
theorem ahead_rule {x y : Fnd} (h : y.rule < x.rule) : aheadB x y = false := by
  unfold aheadB
  rw [if_pos (by omega)]
  exact decide_eq_false (by omega)
theorem ahead_sub {x y : Fnd} (h1 : x.rule = y.rule) (h2 : x.index = y.index) (h3 : y.sub < x.sub) : aheadB x y = false := by
  unfold aheadB
  rw [if_neg (by simp [h1]), if_neg (by simp [h2]), if_pos (by omega)]
  exact decide_eq_false (by omega)
/-- What is wrong with item i by itself, and what comes first of it. -/
theorem item_least {i : Nat} (hi : i < Q.n) : if badI S Q.it i = 0 then ∀ x, ¬ mItem S Q i x else ∃ x, Least (mItem S Q i) x ∧ x.flw = ⟨badI S Q.it i, 1, i, 0⟩ ∧ x.rule = 4 := by
  have hd := dup_iff (it := Q.it) hi
  have shape : ∀ y, mItem S Q i y → y.rule = 4 ∧ y.index = i ∧ y.sub = 0 ∧ 1 ≤ y.rank := by
    rintro y (⟨j, _, _, rfl⟩ | ⟨j, k, _, _, _, rfl⟩ | ⟨_, rfl⟩ | ⟨_, rfl⟩) <;> exact ⟨rfl, rfl, rfl, by dsimp only; decide⟩
  by_cases h1 : knownB S (Q.it i) = true
  · have k1 := known_iff.1 h1
    by_cases h2 : onceB (Q.it i) = true
    · have k2 := once_iff.1 h2
      by_cases h3 : 1 ≤ (Q.it i).lo ∧ (Q.it i).lo ≤ (Q.it i).hi ∧ (Q.it i).hi ≤ 4
      · have e0 : itemE S (Q.it i) = 0 := by rw [itemE, if_neg (by rw [h1]; simp), if_neg (by rw [h2]; simp), if_pos h3]
        by_cases h4 : itemI i Q.it (Q.it i).vr = -1
        · have eb : badI S Q.it i = 0 := by rw [badI, e0, if_neg (by simp), if_pos h4]
          rw [if_pos eb]
          rintro x (⟨j, hj, hn, _⟩ | ⟨j, k, hk, hj, he, _⟩ | ⟨hr, _⟩ | ⟨hv, _⟩)
          · have := k1 j hj; omega
          · exact k2 j hj k hk he
          · exact hr h3
          · exact hd.1 hv h4
        · have eb : badI S Q.it i = 64 := by rw [badI, e0, if_neg (by simp), if_neg h4]
          rw [if_neg (by rw [eb]; decide), eb]
          refine ⟨⟨4, 4, 64, 1, i, 0⟩, ⟨.inr (.inr (.inr ⟨hd.2 h4, rfl⟩)), ?_⟩, rfl, rfl⟩
          rintro y (⟨j, hj, hn, _⟩ | ⟨j, k, hk, hj, he, _⟩ | ⟨hr, _⟩ | ⟨hv, rfl⟩)
          · have := k1 j hj; omega
          · exact absurd he (k2 j hj k hk)
          · exact absurd h3 hr
          · exact ahead_rank rfl rfl rfl (by dsimp only; decide)
      · have e0 : itemE S (Q.it i) = 63 := by rw [itemE, if_neg (by rw [h1]; simp), if_neg (by rw [h2]; simp), if_neg h3]
        have eb : badI S Q.it i = 63 := by rw [badI, e0, if_pos (by decide)]
        rw [if_neg (by rw [eb]; decide), eb]
        refine ⟨⟨4, 3, 63, 1, i, 0⟩, ⟨.inr (.inr (.inl ⟨h3, rfl⟩)), ?_⟩, rfl, rfl⟩
        rintro y (⟨j, hj, hn, _⟩ | ⟨j, k, hk, hj, he, _⟩ | ⟨hr, rfl⟩ | ⟨hv, rfl⟩)
        · have := k1 j hj; omega
        · exact absurd he (k2 j hj k hk)
        · exact ahead_rank rfl rfl rfl (by dsimp only; decide)
        · exact ahead_rank rfl rfl rfl (by dsimp only; decide)
    · have hx : ∃ j k, k < j ∧ j < (Q.it i).tn ∧ ((Q.it i).ty j).toList = ((Q.it i).ty k).toList := by
        rcases Classical.em (∃ j k, k < j ∧ j < (Q.it i).tn ∧ ((Q.it i).ty j).toList = ((Q.it i).ty k).toList) with h | h
        · exact h
        · exact absurd (once_iff.2 fun j hj k hk e => h ⟨j, k, hk, hj, e⟩) h2
      have e0 : itemE S (Q.it i) = 62 := by rw [itemE, if_neg (by rw [h1]; simp), if_pos (by simpa using h2)]
      have eb : badI S Q.it i = 62 := by rw [badI, e0, if_pos (by decide)]
      obtain ⟨j0, k0, hk0, hj0, he0⟩ := hx
      rw [if_neg (by rw [eb]; decide), eb]
      refine ⟨⟨4, 2, 62, 1, i, 0⟩, ⟨.inr (.inl ⟨j0, k0, hk0, hj0, he0, rfl⟩), ?_⟩, rfl, rfl⟩
      rintro y (⟨j, hj, hn, _⟩ | ⟨j, k, hk, hj, he, rfl⟩ | ⟨hr, rfl⟩ | ⟨hv, rfl⟩)
      · have := k1 j hj; omega
      · exact ahead_rank rfl rfl rfl (by dsimp only; decide)
      · exact ahead_rank rfl rfl rfl (by dsimp only; decide)
      · exact ahead_rank rfl rfl rfl (by dsimp only; decide)
  · have hx : ∃ j, j < (Q.it i).tn ∧ typeI S ((Q.it i).ty j) < 0 := by
      rcases Classical.em (∃ j, j < (Q.it i).tn ∧ typeI S ((Q.it i).ty j) < 0) with h | h
      · exact h
      · exact absurd (known_iff.2 fun j hj => by
          rcases Int.lt_or_le (typeI S ((Q.it i).ty j)) 0 with h' | h'
          · exact absurd ⟨j, hj, h'⟩ h
          · exact h') h1
    have e0 : itemE S (Q.it i) = 61 := by rw [itemE, if_pos (by simpa using h1)]
    have eb : badI S Q.it i = 61 := by rw [badI, e0, if_pos (by decide)]
    obtain ⟨j0, hj0, hn0⟩ := hx
    rw [if_neg (by rw [eb]; decide), eb]
    refine ⟨⟨4, 1, 61, 1, i, 0⟩, ⟨.inl ⟨j0, hj0, hn0, rfl⟩, ?_⟩, rfl, rfl⟩
    intro y hy
    obtain ⟨a1, a2, a3, a4⟩ := shape y hy
    exact ahead_rank a1 a2 a3 a4
theorem item_shape {i : Nat} {y : Fnd} (h : mItem S Q i y) : y.rule = 4 ∧ y.index = i := by
  rcases h with ⟨j, _, _, rfl⟩ | ⟨j, k, _, _, _, rfl⟩ | ⟨_, rfl⟩ | ⟨_, rfl⟩ <;> exact ⟨rfl, rfl⟩
theorem items_least : if (itemsF S Q).code = 0 then ∀ x, ¬ mItems S Q x else ∃ x, Least (mItems S Q) x ∧ x.flw = itemsF S Q := by
  by_cases h10 : 10 < Q.n
  · rw [itemsF_many h10, if_neg (by decide)]
    refine ⟨⟨3, 0, 60, 1, 10, 0⟩, ⟨.inl ⟨h10, rfl⟩, ?_⟩, rfl⟩
    rintro y (⟨_, rfl⟩ | ⟨i, hi, hy⟩ | ⟨_, rfl⟩)
    · exact ahead_rank rfl rfl rfl (Int.le_refl _)
    · exact ahead_rule (by rw [(item_shape hy).1]; decide)
    · exact ahead_rule (by decide)
  · rcases firstI_or (fun i => badI S Q.it i != 0) Q.n with ⟨e, hn⟩ | ⟨j, hj, e, hp, hb⟩
    · rw [itemsF_end h10 hn]
      have nob : ∀ i, i < Q.n → ∀ x, ¬ mItem S Q i x := fun i hi => by
        have h1 := hn i hi
        rw [bne_eq_false_iff_eq] at h1
        have h2 := item_least (S := S) hi
        rwa [if_pos h1] at h2
      by_cases hneg : allB (fun i => (Q.it i).neg) Q.n = true
      · rw [if_pos hneg, if_neg (by decide)]
        refine ⟨⟨5, 0, 65, 1, 0, 0⟩, ⟨.inr (.inr ⟨hneg, rfl⟩), ?_⟩, rfl⟩
        rintro y (⟨h, rfl⟩ | ⟨i, hi, hy⟩ | ⟨_, rfl⟩)
        · exact absurd h h10
        · exact absurd hy (nob i hi y)
        · exact ahead_rank rfl rfl rfl (Int.le_refl _)
      · rw [if_neg hneg, if_pos rfl]
        rintro y (⟨h, rfl⟩ | ⟨i, hi, hy⟩ | ⟨h, _⟩)
        · exact h10 h
        · exact nob i hi y hy
        · exact hneg h
    · rw [bne_iff_ne] at hp
      rw [itemsF_hit h10 hj hp hb, if_neg hp]
      have h2 := item_least (S := S) hj
      rw [if_neg hp] at h2
      obtain ⟨x, ⟨hx, hmin⟩, hf, hr⟩ := h2
      refine ⟨x, ⟨.inr (.inl ⟨j, hj, hx⟩), ?_⟩, hf⟩
      rintro y (⟨h, rfl⟩ | ⟨i, hi, hy⟩ | ⟨_, rfl⟩)
      · exact absurd h h10
      · rcases Nat.lt_trichotomy i j with h | h | h
        · have h1 := hb i h
          rw [bne_eq_false_iff_eq] at h1
          have h3 := item_least (S := S) hi
          rw [if_pos h1] at h3
          exact absurd hy (h3 y)
        · subst h
          exact hmin y hy
        · have a := item_shape hx
          have b := item_shape hy
          exact ahead_index (by rw [a.1, b.1]) (by rw [a.2, b.2]; omega)
      · exact ahead_rule (by rw [hr]; decide)
end
end Go.Proofs.YtagcbljfaflhoaaDoor

/-! ### A tree's conjuncts together (plain): their sizes, their order, what they mention; two rising lists as one. -/
namespace Go.Proofs.YtagcbljfaflhoaaDoor
/-- Two rising lists as one, none twice. -/
def mergeL : List Nat → List Nat → List Nat
  | [], b => b
  | x :: a, [] => x :: a
  | x :: a, y :: b => if x < y then x :: mergeL a (y :: b) else if y < x then y :: mergeL (x :: a) b else x :: mergeL a b
termination_by a b => a.length + b.length
theorem merge_nil (b : List Nat) : mergeL [] b = b := by rw [mergeL]
theorem merge_none (a : List Nat) : mergeL a [] = a := by cases a <;> rw [mergeL]
theorem merge_lt {x y : Nat} {a b : List Nat} (h : x < y) : mergeL (x :: a) (y :: b) = x :: mergeL a (y :: b) := by rw [mergeL, if_pos h]
theorem merge_gt {x y : Nat} {a b : List Nat} (h : y < x) : mergeL (x :: a) (y :: b) = y :: mergeL (x :: a) b := by rw [mergeL, if_neg (by omega), if_pos h]
theorem merge_eq {x : Nat} {a b : List Nat} : mergeL (x :: a) (x :: b) = x :: mergeL a b := by rw [mergeL, if_neg (by omega), if_neg (by omega)]
theorem merge_left {x : Nat} {a b : List Nat} (h : ∀ y ∈ b, x < y) : mergeL (x :: a) b = x :: mergeL a b := by
  cases b with
  | nil => rw [merge_none, merge_none]
  | cons y b => exact merge_lt (h y (by simp))
theorem merge_right {y : Nat} {a b : List Nat} (h : ∀ x ∈ a, y < x) : mergeL a (y :: b) = y :: mergeL a b := by
  cases a with
  | nil => rw [merge_nil, merge_nil]
  | cons x a => exact merge_gt (h x (by simp))
theorem merge_filter (p q : Nat → Bool) : ∀ m s, mergeL ((List.range' s m).filter p) ((List.range' s m).filter q) = (List.range' s m).filter (fun i => p i || q i)
  | 0, s => by simp [merge_nil]
  | m + 1, s => by
    have ih := merge_filter p q m (s + 1)
    have hp : ∀ (r : Nat → Bool), ∀ y ∈ (List.range' (s + 1) m).filter r, s < y := by
      intro r y hy
      have := (List.mem_range'_1.1 (List.mem_filter.1 hy).1).1
      omega
    rw [List.range'_succ, List.filter_cons, List.filter_cons, List.filter_cons]
    cases h1 : p s <;> cases h2 : q s
    · simp only [Bool.false_or, if_false, Bool.false_eq_true]
      exact ih
    · simp only [Bool.false_or, if_true, if_false, Bool.false_eq_true]
      rw [merge_right (hp p), ih]
    · simp only [Bool.true_or, if_true, if_false, Bool.false_eq_true]
      rw [merge_left (hp q), ih]
    · simp only [Bool.true_or, if_true]
      rw [merge_eq, ih]
theorem merge_range (p q : Nat → Bool) (m : Nat) : mergeL ((List.range m).filter p) ((List.range m).filter q) = (List.range m).filter (fun i => p i || q i) := by
  rw [List.range_eq_range']
  exact merge_filter p q m 0
theorem merge_len : ∀ (n : Nat) (a b : List Nat), a.length + b.length ≤ n → (mergeL a b).length ≤ a.length + b.length
  | _, [], b, _ => by rw [merge_nil]; omega
  | _, x :: a, [], _ => by rw [merge_none]; omega
  | 0, x :: a, y :: b, h => by simp at h
  | n + 1, x :: a, y :: b, h => by
    simp only [List.length_cons] at h
    rw [mergeL]
    by_cases h1 : x < y
    · rw [if_pos h1]
      have := merge_len n a (y :: b) (by simp only [List.length_cons]; omega)
      simp only [List.length_cons] at this ⊢
      omega
    · rw [if_neg h1]
      by_cases h2 : y < x
      · rw [if_pos h2]
        have := merge_len n (x :: a) b (by simp only [List.length_cons]; omega)
        simp only [List.length_cons] at this ⊢
        omega
      · rw [if_neg h2]
        have := merge_len n a b (by omega)
        simp only [List.length_cons] at this ⊢
        omega
section
variable {n : Nat} {f : Nat → Nod} {l : Nat → Nat}
theorem conj_sum (h : Shp n f l) : ∀ k r, r < n → r < k → ((conjF f k r).map fun x => x - l x + 1).sum + (conjF f k r).length = r - l r + 1 + 1
  | 0, _, _, h => absurd h (Nat.not_lt_zero _)
  | k + 1, r, hr, hk => by
    rw [conjF]
    by_cases ho : (f r).op = 25
    · obtain ⟨k2, hb, k3, ha, hl⟩ := and_kind h hr ho
      have h1 := h.le (r - 1) (by omega)
      have h2 := h.le (l (r - 1) - 1) (by omega)
      have ea : (f r).a.toNat = l (r - 1) - 1 := by omega
      have eb : (f r).b.toNat = r - 1 := by omega
      rw [if_pos ho, ea, eb, List.map_append, List.sum_append, List.length_append]
      have s1 := conj_sum h k (l (r - 1) - 1) (by omega) (by omega)
      have s2 := conj_sum h k (r - 1) (by omega) (by omega)
      omega
    · rw [if_neg ho]
      simp
theorem conj_total (ht : treeB n f = true) : ((conjL n f).map fun x : Nat => sizeI n f x).sum + (conjL n f).length = n + 1 := by
  obtain ⟨h0, hs, hl0, _⟩ := tree_shp ht
  have e := conj_sum hs n (n - 1) (by omega) (by omega)
  rw [hl0] at e
  have em : (conjL n f).map (fun x : Nat => sizeI n f x) = (conjL n f).map fun x => x - begF n f x + 1 := List.map_congr_left fun x hx => size_at ht (conjL_lt ht x hx)
  rw [em]
  have ec : conjL n f = conjF f n (n - 1) := by rw [conjL, if_pos ht]
  rw [ec]
  omega
theorem conj_pos (ht : treeB n f = true) : 0 < (conjL n f).length := by
  have h := conj_total ht
  rcases Nat.eq_zero_or_pos (conjL n f).length with h0 | h0
  · have : conjL n f = [] := List.eq_nil_of_length_eq_zero h0
    rw [this] at h
    have := (tree_shp ht).1
    simp at h <;> omega
  · exact h0
theorem conj_rise (ht : treeB n f = true) : (conjL n f).Pairwise (· < ·) := by
  rw [conjL_eq ht]
  exact List.Pairwise.filter _ List.pairwise_lt_range
theorem conj_op (ht : treeB n f = true) : ∀ r ∈ conjL n f, (f r).op ≠ 25 := by
  intro r hr
  rw [conjL_eq ht] at hr
  have := (List.mem_filter.1 hr).2
  simp only [Bool.and_eq_true, bne_iff_ne] at this
  exact this.2
theorem conj_in (h : Shp n f l) {j : Nat} (hj : (f j).op ≠ 25) : ∀ k r, r < n → r < k → l r ≤ j → j ≤ r → ∃ x ∈ conjF f k r, l x ≤ j ∧ j ≤ x
  | 0, _, _, h, _, _ => absurd h (Nat.not_lt_zero _)
  | k + 1, r, hr, hk, h1, h2 => by
    rw [conjF]
    by_cases ho : (f r).op = 25
    · obtain ⟨k2, hb, k3, ha, hl⟩ := and_kind h hr ho
      have h3 := h.le (r - 1) (by omega)
      have h4 := h.le (l (r - 1) - 1) (by omega)
      have ea : (f r).a.toNat = l (r - 1) - 1 := by omega
      have eb : (f r).b.toNat = r - 1 := by omega
      have hne : j ≠ r := fun e => hj (e ▸ ho)
      rw [if_pos ho, ea, eb]
      rcases Nat.lt_or_ge j (l (r - 1)) with hc | hc
      · obtain ⟨x, hx, hx2⟩ := conj_in h hj k (l (r - 1) - 1) (by omega) (by omega) (by omega) (by omega)
        exact ⟨x, List.mem_append_left _ hx, hx2⟩
      · obtain ⟨x, hx, hx2⟩ := conj_in h hj k (r - 1) (by omega) (by omega) (by omega) (by omega)
        exact ⟨x, List.mem_append_right _ hx, hx2⟩
    · rw [if_neg ho]
      exact ⟨r, by simp, h1, h2⟩
/-- What conjunct r mentions. -/
def cuse (P : Int → Bool) (N : Nat) (it : Nat → Itm) (n : Nat) (f : Nat → Nod) (r : Nat) (i : Nat) : Bool := anyU P N it (subF n f r) (sizeI n f r) i
theorem conj_cover {P : Int → Bool} (hP : P 25 = false) (N : Nat) (it : Nat → Itm) (ht : treeB n f = true) (i : Nat) : anyU P N it f n i = (conjL n f).any fun r => cuse P N it n f r i := by
  obtain ⟨h0, hs, hl0, _⟩ := tree_shp ht
  have ec : conjL n f = conjF f n (n - 1) := by rw [conjL, if_pos ht]
  rw [Bool.eq_iff_iff, List.any_eq_true]
  unfold anyU cuse
  rw [List.any_eq_true]
  constructor
  · rintro ⟨j, hj, hp⟩
    have hj := List.mem_range.1 hj
    rw [Bool.and_eq_true] at hp
    have hop : (f j).op ≠ 25 := fun e => by rw [e, hP] at hp; cases hp.2
    obtain ⟨x, hx, h1, h2⟩ := conj_in hs hop n (n - 1) (by omega) (by omega) (by rw [hl0]; omega) (by omega)
    rw [← ec] at hx
    have hxn := conjL_lt ht x hx
    refine ⟨x, hx, ?_⟩
    unfold anyU
    rw [List.any_eq_true]
    refine ⟨j - begF n f x, List.mem_range.2 (by rw [size_at ht hxn]; omega), ?_⟩
    rw [subF, Int.toNat_natCast, show begF n f x + (j - begF n f x) = j by omega]
    exact Bool.and_eq_true_iff.2 hp
  · rintro ⟨x, hx, hp⟩
    have hxn := conjL_lt ht x hx
    unfold anyU at hp
    rw [List.any_eq_true] at hp
    obtain ⟨j, hj, hp⟩ := hp
    have hj := List.mem_range.1 hj
    rw [size_at ht hxn] at hj
    have hle := hs.le x hxn
    refine ⟨begF n f x + j, List.mem_range.2 (by omega), ?_⟩
    rw [subF, Int.toNat_natCast] at hp
    exact hp
/-- What the first k conjuncts mention. -/
def useK (P : Int → Bool) (N : Nat) (it : Nat → Itm) (n : Nat) (f : Nat → Nod) (k : Nat) : List Nat := (List.range N).filter fun i => ((conjL n f).take k).any fun r => cuse P N it n f r i
theorem useK_zero (P : Int → Bool) (N : Nat) (it : Nat → Itm) : useK P N it n f 0 = [] := by simp [useK]
theorem useK_next {P : Int → Bool} {N : Nat} {it : Nat → Itm} {k : Nat} (hk : k < (conjL n f).length) {r : Nat} (hr : (conjL n f).getD k 0 = r) : mergeL (useK P N it n f k) (usesL P N it (subF n f r) (sizeI n f r) N) = useK P N it n f (k + 1) := by
  have e : (conjL n f).take (k + 1) = (conjL n f).take k ++ [r] := by
    rw [List.take_add_one, List.getElem?_eq_getElem hk, ← hr, getD_at hk]
    rfl
  unfold useK usesL
  rw [merge_range, e]
  refine List.filter_congr fun i _ => ?_
  rw [List.any_append]
  simp [cuse]
theorem useK_all {P : Int → Bool} (hP : P 25 = false) (N : Nat) (it : Nat → Itm) (ht : treeB n f = true) : useK P N it n f (conjL n f).length = usesL P N it f n N := by
  unfold useK usesL
  rw [List.take_length]
  exact List.filter_congr fun i _ => (conj_cover hP N it ht i).symm
theorem useK_len {P : Int → Bool} {N : Nat} {it : Nat → Itm} {k : Nat} : (useK P N it n f k).length ≤ N := by
  unfold useK
  refine Nat.le_trans (List.length_filter_le _ _) ?_
  simp
/-- The sizes of the first k conjuncts. -/
def sumK (n : Nat) (f : Nat → Nod) (k : Nat) : Nat := (((conjL n f).take k).map fun x : Nat => sizeI n f x).sum
theorem sumK_zero : sumK n f 0 = 0 := by simp [sumK]
theorem sumK_next {k : Nat} (hk : k < (conjL n f).length) {r : Nat} (hr : (conjL n f).getD k 0 = r) : sumK n f (k + 1) = sumK n f k + sizeI n f r := by
  unfold sumK
  rw [List.take_add_one, List.getElem?_eq_getElem hk, List.map_append, List.sum_append, ← hr, getD_at hk]
  simp
theorem sumK_all (ht : treeB n f = true) : sumK n f (conjL n f).length + (conjL n f).length = n + 1 := by
  unfold sumK
  rw [List.take_length]
  exact conj_total ht
theorem sumK_le (ht : treeB n f = true) {k : Nat} (hk : k ≤ (conjL n f).length) : sumK n f k ≤ n + 1 := by
  have h := sumK_all ht
  have : sumK n f k ≤ sumK n f (conjL n f).length := by
    obtain ⟨d, hd⟩ : ∃ d, (conjL n f).length = k + d := ⟨_, (Nat.add_sub_cancel' hk).symm⟩
    rw [hd]
    clear h hk
    unfold sumK
    rw [List.take_add, List.map_append, List.sum_append]
    omega
  omega
end
end Go.Proofs.YtagcbljfaflhoaaDoor

/-! ### What is wrong with WHERE and with the rest, by findings (plain): which comes first. -/
namespace Go.Proofs.YtagcbljfaflhoaaDoor
section
variable {S : Sch} {Q : Qry} {r : Bool} {f : Nat → Nod} {i n : Nat}
theorem node_rank (hk : (bareB (f i).op || aggB (f i).op) = true → kindsB f (f i) = true) : if nodeE S Q r f i = 0 then ∀ k, nodeR S Q r f i k = 0 else ∃ k : Nat, 1 ≤ k ∧ k ≤ 4 ∧ nodeR S Q r f i k = nodeE S Q r f i ∧ ∀ j, j < k → nodeR S Q r f i j = 0 := by
  have r0 : nodeR S Q r f i 0 = 0 := rfl
  have r5 : ∀ k, 5 ≤ k → nodeR S Q r f i k = 0 := fun k hk => by
    match k, hk with
    | k + 5, _ => rfl
  have low : ∀ (P : Nat → Prop) (k : Nat), k ≤ 4 → (∀ j, j < k → j = 0 ∨ j = 1 ∨ j = 2 ∨ j = 3) := fun _ k hk j hj => by omega
  have all : ∀ k, k = 0 ∨ k = 1 ∨ k = 2 ∨ k = 3 ∨ k = 4 ∨ 5 ≤ k := fun k => by omega
  cases hb : (bareB (f i).op || aggB (f i).op)
  · have hm : mentE S Q r (f i) = 0 := by
      rw [mentE, if_pos]
      rw [Bool.or_eq_false_iff] at hb
      rw [hb.1, hb.2]; rfl
    have q1 : nodeR S Q r f i 1 = 0 := by simp only [nodeR]; rw [if_neg (by rw [hb]; simp)]
    have q2 : nodeR S Q r f i 2 = 0 := by simp only [nodeR]; rw [if_neg (by rw [hb]; simp)]
    have q3 : nodeR S Q r f i 3 = 0 := by simp only [nodeR]; rw [if_neg (by rw [hb]; simp)]
    cases hq : kindsB f (f i)
    · have e : nodeE S Q r f i = 75 := by rw [nodeE, hm, if_neg (by simp), if_neg (by rw [hq]; simp)]
      have q4 : nodeR S Q r f i 4 = 75 := by simp only [nodeR]; rw [if_pos ⟨hb, hq⟩]
      rw [e, if_neg (by decide)]
      refine ⟨4, by decide, by decide, q4, fun j hj => ?_⟩
      obtain rfl | rfl | rfl | rfl : j = 0 ∨ j = 1 ∨ j = 2 ∨ j = 3 := by omega
      · exact r0
      · exact q1
      · exact q2
      · exact q3
    · have e : nodeE S Q r f i = 0 := by rw [nodeE, hm, if_neg (by simp), if_pos hq]
      have q4 : nodeR S Q r f i 4 = 0 := by simp only [nodeR]; rw [if_neg (by rw [hq]; simp)]
      rw [if_pos e]
      intro k
      rcases all k with rfl | rfl | rfl | rfl | rfl | h
      · exact r0
      · exact q1
      · exact q2
      · exact q3
      · exact q4
      · exact r5 k h
  · have hq := hk hb
    have hnb : ¬ (!bareB (f i).op && !aggB (f i).op) = true := by
      intro h
      rw [Bool.or_eq_true] at hb
      rcases hb with h' | h' <;> simp [h'] at h
    have q4 : nodeR S Q r f i 4 = 0 := by simp only [nodeR]; rw [if_neg (by rw [hb]; simp)]
    by_cases hi : itemI Q.n Q.it (f i).vr = -1
    · have hm : mentE S Q r (f i) = 68 := by rw [mentE, if_neg hnb, if_pos hi]
      have e : nodeE S Q r f i = 68 := by rw [nodeE, hm, if_pos (by decide)]
      have q1 : nodeR S Q r f i 1 = 68 := by simp only [nodeR]; rw [if_pos ⟨hb, hi⟩]
      rw [e, if_neg (by decide)]
      refine ⟨1, by decide, by decide, q1, fun j hj => ?_⟩
      obtain rfl : j = 0 := by omega
      exact r0
    · have q1 : nodeR S Q r f i 1 = 0 := by simp only [nodeR]; rw [if_neg (fun h => hi h.2)]
      have hm : mentE S Q r (f i) = useE S r (Q.it (itemI Q.n Q.it (f i).vr).toNat) (f i) := by rw [mentE, if_neg hnb, if_neg hi]
      by_cases h2 : (!((f i).op == 5) && !hasB S (Q.it (itemI Q.n Q.it (f i).vr).toNat) (f i).at_) = true
      · have e : nodeE S Q r f i = 69 := by rw [nodeE, hm, useE, if_pos h2, if_pos (by decide)]
        have q2 : nodeR S Q r f i 2 = 69 := by simp only [nodeR]; rw [if_pos ⟨hb, hi, h2⟩]
        rw [e, if_neg (by decide)]
        refine ⟨2, by decide, by decide, q2, fun j hj => ?_⟩
        obtain rfl | rfl : j = 0 ∨ j = 1 := by omega
        · exact r0
        · exact q1
      · have q2 : nodeR S Q r f i 2 = 0 := by simp only [nodeR]; rw [if_neg (fun h => h2 h.2.2)]
        by_cases h3 : ((aggB (f i).op && (Q.it (itemI Q.n Q.it (f i).vr).toNat).neg) || ((f i).op == 11 && !repB (Q.it (itemI Q.n Q.it (f i).vr).toNat)) || (r && bareB (f i).op && ((Q.it (itemI Q.n Q.it (f i).vr).toNat).neg || repB (Q.it (itemI Q.n Q.it (f i).vr).toNat)))) = true
        · have hu : useE S r (Q.it (itemI Q.n Q.it (f i).vr).toNat) (f i) = 76 := by
            rw [useE, if_neg h2]
            by_cases h4 : ((aggB (f i).op && (Q.it (itemI Q.n Q.it (f i).vr).toNat).neg) || ((f i).op == 11 && !repB (Q.it (itemI Q.n Q.it (f i).vr).toNat))) = true
            · rw [if_pos h4]
            · rw [if_neg h4]
              rw [Bool.or_eq_true] at h3
              rw [if_pos (h3.resolve_left h4)]
          have e : nodeE S Q r f i = 76 := by rw [nodeE, hm, hu, if_pos (by decide)]
          have q3 : nodeR S Q r f i 3 = 76 := by simp only [nodeR]; rw [if_pos ⟨hb, hi, h3⟩]
          rw [e, if_neg (by decide)]
          refine ⟨3, by decide, by decide, q3, fun j hj => ?_⟩
          obtain rfl | rfl | rfl : j = 0 ∨ j = 1 ∨ j = 2 := by omega
          · exact r0
          · exact q1
          · exact q2
        · have hu : useE S r (Q.it (itemI Q.n Q.it (f i).vr).toNat) (f i) = 0 := by
            have h3' := h3
            rw [Bool.or_eq_true, not_or] at h3'
            rw [useE, if_neg h2, if_neg h3'.1, if_neg h3'.2]
          have e : nodeE S Q r f i = 0 := by rw [nodeE, hm, hu, if_neg (by simp), if_pos hq]
          have q3 : nodeR S Q r f i 3 = 0 := by simp only [nodeR]; rw [if_neg (fun h => h3 h.2.2)]
          rw [if_pos e]
          intro k
          rcases all k with rfl | rfl | rfl | rfl | rfl | h
          · exact r0
          · exact q1
          · exact q2
          · exact q3
          · exact q4
          · exact r5 k h
theorem leaf_kinds (ht : treeB n f = true) (hi : i < n) : (bareB (f i).op || aggB (f i).op) = true → kindsB f (f i) = true := by
  intro hb
  have ha : arity (f i).op = 0 := by
    simp only [bareB, aggB, Bool.or_eq_true, beq_iff_eq, Bool.and_eq_true, decide_eq_true_eq] at hb
    rw [arity, if_pos (by omega)]
  rcases (tree_shp ht).2.1.kind i hi with ⟨_, h1, h2, _⟩ | ⟨h0, _⟩ | ⟨h0, _⟩
  · rw [kindsB, h1, h2, kid_neg (by decide)]
    rfl
  · rw [ha] at h0; cases h0
  · rw [ha] at h0; cases h0
theorem where_least (ht : Q.wn ≠ 0 → treeB Q.wn Q.wh = true) : if (whereF S Q).code = 0 then ∀ x, ¬ mWhere S Q x else ∃ x, Least (mWhere S Q) x ∧ x.flw = whereF S Q := by
  by_cases h0 : Q.wn = 0
  · have e : whereF S Q = ⟨0, 0, 0, 0⟩ := by rw [whereF, if_pos h0]
    rw [e, if_pos rfl]
    rintro x (⟨i, r, hi, _⟩ | ⟨h, _⟩ | ⟨root, hr, _⟩)
    · omega
    · omega
    · have hf : treeB Q.wn Q.wh = false := by
        cases h : treeB Q.wn Q.wh
        · rfl
        · have := (tree_shp h).1; omega
      rw [conjL, if_neg (by rw [hf]; simp)] at hr
      cases hr
  · have ht := ht h0
    have hn0 := (tree_shp ht).1
    rcases firstI_or (fun i => nodeE S Q false Q.wh i != 0) Q.wn with ⟨e, hn⟩ | ⟨j, hj, e, hp, hb⟩
    · have no6 : ∀ i k : Nat, i < Q.wn → nodeR S Q false Q.wh i k = 0 := fun i k hi => by
        have h1 := hn i hi
        rw [bne_eq_false_iff_eq] at h1
        have h2 := node_rank (S := S) (Q := Q) (r := false) (leaf_kinds ht hi)
        rw [if_pos h1] at h2
        exact h2 k
      have hw : (walkP S Q false Q.wn Q.wh) = (0, 0) := walkP_none hn
      by_cases hT : isTruthB Q.wn Q.wh = true
      · have ew : whereF S Q = match (conjL Q.wn Q.wh).find? (rootMix Q Q.wn Q.wh) with
            | some root => ⟨77, 4, root, 0⟩
            | none => ⟨0, 0, 0, 0⟩ := by
          have e1 : treeP S Q false Q.wn Q.wh = (0, 0) := by rw [treeP, hw, if_neg (by rw [hT]; simp)]
          rw [whereF, if_neg h0, e1, if_neg (by simp)]
          rfl
        cases hf : (conjL Q.wn Q.wh).find? (rootMix Q Q.wn Q.wh) with
        | none =>
          rw [ew, hf, if_pos rfl]
          rintro x (⟨i, k, hi, _, _, h, _⟩ | ⟨_, h, _⟩ | ⟨root, hr, h, _⟩)
          · exact h (no6 i k hi)
          · rw [hT] at h; cases h
          · have := List.find?_eq_none.1 hf root hr
            exact this h
        | some root =>
          rw [ew, hf, if_neg (show ¬ ((77 : Int) = 0) by decide)]
          rw [List.find?_eq_some_iff_getElem] at hf
          obtain ⟨hm, q, hq, he, hbef⟩ := hf
          refine ⟨⟨8, 0, 77, 4, root, 0⟩, ⟨.inr (.inr ⟨root, by rw [← he]; exact List.getElem_mem hq, hm, rfl⟩), ?_⟩, rfl⟩
          rintro y (⟨i, k, hi, _, _, h, _⟩ | ⟨_, h, _⟩ | ⟨root', hr', h, rfl⟩)
          · exact absurd (no6 i k hi) h
          · rw [hT] at h; cases h
          · obtain ⟨p, hp, rfl⟩ := List.getElem_of_mem hr'
            rcases Nat.lt_or_ge p q with hpq | hpq
            · have := hbef p hpq
              rw [h] at this
              cases this
            · rcases Nat.eq_or_lt_of_le hpq with e | hlt
              · subst e
                rw [he]
                exact ahead_rank rfl rfl rfl (Int.le_refl _)
              · have := List.pairwise_iff_getElem.1 (conj_rise ht) q p hq hp hlt
                rw [he] at this
                exact ahead_index rfl (by dsimp only; omega)
      · have hT : isTruthB Q.wn Q.wh = false := by simpa using hT
        have ew : whereF S Q = ⟨75, 4, (Q.wn : Int) - 1, 0⟩ := by
          have e1 : treeP S Q false Q.wn Q.wh = ((Q.wn : Int) - 1, 75) := by rw [treeP, hw, if_pos ⟨rfl, hT⟩]
          rw [whereF, if_neg h0, e1, if_pos (show (75 : Int) ≠ 0 by decide)]
        rw [ew, if_neg (show ¬ ((75 : Int) = 0) by decide)]
        refine ⟨⟨7, 0, 75, 4, (Q.wn : Int) - 1, 0⟩, ⟨.inr (.inl ⟨hn0, hT, rfl⟩), ?_⟩, rfl⟩
        rintro y (⟨i, k, hi, _, _, h, _⟩ | ⟨_, h, rfl⟩ | ⟨root', hr', h, rfl⟩)
        · exact absurd (no6 i k hi) h
        · exact ahead_rank rfl rfl rfl (Int.le_refl _)
        · exact ahead_rule (by dsimp only; decide)
    · rw [bne_iff_ne] at hp
      have hw := walkP_hit (S := S) (Q := Q) (r := false) hj rfl hp hb
      have ew : whereF S Q = ⟨nodeE S Q false Q.wh j, 4, j, 0⟩ := by
        have e1 : treeP S Q false Q.wn Q.wh = ((j : Int), nodeE S Q false Q.wh j) := by rw [treeP, hw, if_neg (fun h => hp h.1)]
        rw [whereF, if_neg h0, e1, if_pos hp]
      rw [ew, if_neg hp]
      have h2 := node_rank (S := S) (Q := Q) (r := false) (leaf_kinds ht hj)
      rw [if_neg hp] at h2
      obtain ⟨k0, a1, a2, a3, a4⟩ := h2
      refine ⟨⟨6, k0, nodeE S Q false Q.wh j, 4, j, 0⟩, ⟨.inl ⟨j, k0, hj, a1, a2, by rw [a3]; exact hp, by rw [a3]⟩, ?_⟩, rfl⟩
      rintro y (⟨i, k, hi, _, _, h, rfl⟩ | ⟨_, h, rfl⟩ | ⟨root', hr', h, rfl⟩)
      · rcases Nat.lt_trichotomy i j with hc | hc | hc
        · have h1 := hb i hc
          rw [bne_eq_false_iff_eq] at h1
          have h3 := node_rank (S := S) (Q := Q) (r := false) (leaf_kinds ht hi)
          rw [if_pos h1] at h3
          exact absurd (h3 k) h
        · subst hc
          rcases Nat.lt_or_ge k k0 with hk | hk
          · exact absurd (a4 k hk) h
          · exact ahead_rank rfl rfl rfl (by dsimp only; omega)
        · exact ahead_index rfl (by dsimp only; omega)
      · exact ahead_rule (by dsimp only; decide)
      · exact ahead_rule (by dsimp only; decide)
theorem part_iff (hn : 0 < Q.n) : partB S Q = false ↔ ∃ i, i < Q.n ∧ (hasB S (Q.it i) Q.by_ = false ∨ Q.by_.toList = [116, 115]) := by
  unfold partB
  constructor
  · intro h
    rw [Bool.and_eq_false_iff] at h
    rcases h with h | h
    · refine ⟨0, hn, .inr ?_⟩
      simpa using h
    · rcases Classical.em (∃ i, i < Q.n ∧ hasB S (Q.it i) Q.by_ = false) with ⟨i, hi, h2⟩ | h2
      · exact ⟨i, hi, .inl h2⟩
      · rw [all_yes (p := fun i => hasB S (Q.it i) Q.by_) (fun i hi => by
          cases h3 : hasB S (Q.it i) Q.by_
          · exact absurd ⟨i, hi, h3⟩ h2
          · rfl)] at h
        cases h
  · rintro ⟨i, hi, h | h⟩
    · rw [all_no (p := fun i => hasB S (Q.it i) Q.by_) hi h, Bool.and_false]
    · rw [h]
      rfl
theorem rest_least (hn : 0 < Q.n) (ht : ∀ k, k < Q.m → treeB (Q.ln k) (Q.rt k) = true) : if (restF S Q).code = 0 then ∀ x, ¬ mRest S Q x else ∃ x, Least (mRest S Q) x ∧ x.flw = restF S Q := by
  have rl : ∀ y, mRest S Q y → (y.rule = 9 ∧ 1099511627776 < Q.within ∧ y = ⟨9, 0, 66, 2, 0, 0⟩) ∨ (y.rule = 10 ∧ Q.by_.toList.isEmpty = false ∧ partB S Q = false ∧ y = ⟨10, 0, 67, 3, 0, 0⟩) ∨ (y.rule = 11 ∧ 8 < Q.m ∧ y = ⟨11, 0, 78, 5, 8, 0⟩) ∨ y.rule = 12 := by
    rintro y (⟨h, rfl⟩ | ⟨h, h2, rfl⟩ | ⟨h, rfl⟩ | ⟨k, i, r, _, _, _, _, _, rfl⟩ | ⟨k, _, _, rfl⟩)
    · exact .inl ⟨rfl, h, rfl⟩
    · exact .inr (.inl ⟨rfl, h, (part_iff hn).2 h2, rfl⟩)
    · exact .inr (.inr (.inl ⟨rfl, h, rfl⟩))
    · exact .inr (.inr (.inr rfl))
    · exact .inr (.inr (.inr rfl))
  by_cases hw : 1099511627776 < Q.within
  · have e : restF S Q = ⟨66, 2, 0, 0⟩ := by rw [restF, if_pos hw]
    rw [e, if_neg (by decide)]
    refine ⟨⟨9, 0, 66, 2, 0, 0⟩, ⟨.inl ⟨hw, rfl⟩, fun y hy => ?_⟩, rfl⟩
    rcases rl y hy with ⟨_, _, rfl⟩ | ⟨_, _, _, rfl⟩ | ⟨_, _, rfl⟩ | h
    · exact ahead_rank rfl rfl rfl (Int.le_refl _)
    · exact ahead_rule (by decide)
    · exact ahead_rule (by decide)
    · exact ahead_rule (by rw [h]; decide)
  · by_cases hb : (!Q.by_.toList.isEmpty && !partB S Q) = true
    · have e : restF S Q = ⟨67, 3, 0, 0⟩ := by rw [restF, if_neg hw, if_pos hb]
      rw [Bool.and_eq_true, Bool.not_eq_true', Bool.not_eq_true'] at hb
      rw [e, if_neg (by decide)]
      refine ⟨⟨10, 0, 67, 3, 0, 0⟩, ⟨.inr (.inl ⟨hb.1, (part_iff hn).1 hb.2, rfl⟩), fun y hy => ?_⟩, rfl⟩
      rcases rl y hy with ⟨_, h, _⟩ | ⟨_, _, _, rfl⟩ | ⟨_, _, rfl⟩ | h
      · exact absurd h hw
      · exact ahead_rank rfl rfl rfl (Int.le_refl _)
      · exact ahead_rule (by decide)
      · exact ahead_rule (by rw [h]; decide)
    · have e : restF S Q = retF S Q := by rw [restF, if_neg hw, if_neg hb]
      have no10 : ¬ (Q.by_.toList.isEmpty = false ∧ partB S Q = false) := fun h => hb (by rw [h.1, h.2]; rfl)
      rw [e]
      by_cases h8 : 8 < Q.m
      · rw [retF_many h8, if_neg (by decide)]
        refine ⟨⟨11, 0, 78, 5, 8, 0⟩, ⟨.inr (.inr (.inl ⟨h8, rfl⟩)), fun y hy => ?_⟩, rfl⟩
        rcases rl y hy with ⟨_, h, _⟩ | ⟨_, h1, h2, _⟩ | ⟨_, _, rfl⟩ | h
        · exact absurd h hw
        · exact absurd ⟨h1, h2⟩ no10
        · exact ahead_rank rfl rfl rfl (Int.le_refl _)
        · exact ahead_rule (by rw [h]; decide)
      · have tr : ∀ k, k < Q.m → (retE S Q k).2 = 0 → (∀ i r : Nat, i < Q.ln k → nodeR S Q true (Q.rt k) i r = 0) ∧ isTruthB (Q.ln k) (Q.rt k) = false := fun k hk h0 => by
          have h1 := treeP_ok.1 h0
          refine ⟨fun i r hi => ?_, h1.2⟩
          have h2 := node_rank (S := S) (Q := Q) (r := true) (leaf_kinds (ht k hk) hi)
          rw [if_pos (h1.1 i hi)] at h2
          exact h2 r
        rcases firstI_or (fun k => (retE S Q k).2 != 0) Q.m with ⟨_, hnn⟩ | ⟨k, hk, _, hp, hbf⟩
        · rw [retF_end h8 hnn, if_pos rfl]
          rintro y (⟨h, _⟩ | ⟨h, h2, _⟩ | ⟨h, _⟩ | ⟨k, i, r, hk, hi, _, _, h, _⟩ | ⟨k, hk, h, _⟩)
          · exact hw h
          · exact no10 ⟨h, (part_iff hn).2 h2⟩
          · exact h8 h
          · have h0 := hnn k hk
            rw [bne_eq_false_iff_eq] at h0
            exact h ((tr k hk h0).1 i r hi)
          · have h0 := hnn k hk
            rw [bne_eq_false_iff_eq] at h0
            rw [(tr k hk h0).2] at h
            cases h
        · rw [bne_iff_ne] at hp
          have other : ∀ y, mRest S Q y → (∃ k' i r : Nat, k' < Q.m ∧ k ≤ k' ∧ i < Q.ln k' ∧ 1 ≤ r ∧ r ≤ 4 ∧ nodeR S Q true (Q.rt k') i r ≠ 0 ∧ y = ⟨12, r, nodeR S Q true (Q.rt k') i r, 5, k', i⟩) ∨ (∃ k' : Nat, k' < Q.m ∧ k ≤ k' ∧ isTruthB (Q.ln k') (Q.rt k') = true ∧ y = ⟨12, 5, 75, 5, k', (Q.ln k' : Int) - 1⟩) := by
            rintro y (⟨h, _⟩ | ⟨h, h2, _⟩ | ⟨h, _⟩ | ⟨k', i, r, hk', hi, h1, h2, h, rfl⟩ | ⟨k', hk', h, rfl⟩)
            · exact absurd h hw
            · exact absurd ⟨h, (part_iff hn).2 h2⟩ no10
            · exact absurd h h8
            · refine .inl ⟨k', i, r, hk', ?_, hi, h1, h2, h, rfl⟩
              rcases Nat.lt_or_ge k' k with hc | hc
              · have h0 := hbf k' hc
                rw [bne_eq_false_iff_eq] at h0
                exact absurd ((tr k' hk' h0).1 i r hi) h
              · exact hc
            · refine .inr ⟨k', hk', ?_, h, rfl⟩
              rcases Nat.lt_or_ge k' k with hc | hc
              · have h0 := hbf k' hc
                rw [bne_eq_false_iff_eq] at h0
                rw [(tr k' hk' h0).2] at h
                cases h
              · exact hc
          have htk := ht k hk
          have hl0 := (tree_shp htk).1
          rcases firstI_or (fun i => nodeE S Q true (Q.rt k) i != 0) (Q.ln k) with ⟨_, hno⟩ | ⟨j, hj, _, hpj, hbj⟩
          · have hwk : walkP S Q true (Q.ln k) (Q.rt k) = (0, 0) := walkP_none hno
            have hT : isTruthB (Q.ln k) (Q.rt k) = true := by
              cases hT : isTruthB (Q.ln k) (Q.rt k)
              · exact absurd (treeP_ok.2 ⟨fun i hi => by have := hno i hi; rwa [bne_eq_false_iff_eq] at this, hT⟩) hp
              · rfl
            have er : retE S Q k = ((Q.ln k : Int) - 1, 75) := by rw [retE, treeP, hwk, if_pos ⟨rfl, hT⟩]
            rw [retF_hit h8 hk er (by decide) hbf, if_neg (show ¬ ((75 : Int) = 0) by decide)]
            refine ⟨⟨12, 5, 75, 5, k, (Q.ln k : Int) - 1⟩, ⟨.inr (.inr (.inr (.inr ⟨k, hk, hT, rfl⟩))), fun y hy => ?_⟩, rfl⟩
            rcases other y hy with ⟨k', i, r, hk', hge, hi, _, _, h, rfl⟩ | ⟨k', hk', hge, h, rfl⟩
            · rcases Nat.eq_or_lt_of_le hge with e | hlt
              · subst e
                have h1 := hno i hi
                rw [bne_eq_false_iff_eq] at h1
                have h3 := node_rank (S := S) (Q := Q) (r := true) (leaf_kinds htk hi)
                rw [if_pos h1] at h3
                exact absurd (h3 r) h
              · exact ahead_index rfl (by dsimp only; omega)
            · rcases Nat.eq_or_lt_of_le hge with e | hlt
              · subst e
                exact ahead_rank rfl rfl rfl (Int.le_refl _)
              · exact ahead_index rfl (by dsimp only; omega)
          · rw [bne_iff_ne] at hpj
            have hwk := walkP_hit (S := S) (Q := Q) (r := true) hj rfl hpj hbj
            have er : retE S Q k = ((j : Int), nodeE S Q true (Q.rt k) j) := by rw [retE, treeP, hwk, if_neg (fun h => hpj h.1)]
            rw [retF_hit h8 hk er hpj hbf, if_neg hpj]
            have h2 := node_rank (S := S) (Q := Q) (r := true) (leaf_kinds htk hj)
            rw [if_neg hpj] at h2
            obtain ⟨r0, a1, a2, a3, a4⟩ := h2
            refine ⟨⟨12, r0, nodeE S Q true (Q.rt k) j, 5, k, j⟩, ⟨.inr (.inr (.inr (.inl ⟨k, j, r0, hk, hj, a1, a2, by rw [a3]; exact hpj, by rw [a3]⟩))), fun y hy => ?_⟩, rfl⟩
            rcases other y hy with ⟨k', i, r, hk', hge, hi, _, _, h, rfl⟩ | ⟨k', hk', hge, h, rfl⟩
            · rcases Nat.eq_or_lt_of_le hge with e | hlt
              · subst e
                rcases Nat.lt_trichotomy i j with hc | hc | hc
                · have h1 := hbj i hc
                  rw [bne_eq_false_iff_eq] at h1
                  have h3 := node_rank (S := S) (Q := Q) (r := true) (leaf_kinds htk hi)
                  rw [if_pos h1] at h3
                  exact absurd (h3 r) h
                · subst hc
                  rcases Nat.lt_or_ge r r0 with hr | hr
                  · exact absurd (a4 r hr) h
                  · exact ahead_rank rfl rfl rfl (by dsimp only; omega)
                · exact ahead_sub rfl rfl (by dsimp only; omega)
              · exact ahead_index rfl (by dsimp only; omega)
            · rcases Nat.eq_or_lt_of_le hge with e | hlt
              · subst e
                rcases Nat.eq_or_lt_of_le (show j ≤ Q.ln k - 1 by omega) with e2 | hlt2
                · exact by
                    have e3 : (Q.ln k : Int) - 1 = j := by omega
                    rw [e3]
                    exact ahead_rank rfl rfl rfl (by dsimp only; omega)
                · exact ahead_sub rfl rfl (by dsimp only; omega)
              · exact ahead_index rfl (by dsimp only; omega)
end
/-- Two that neither comes ahead of have the same place in the order. -/
theorem ahead_key {x y : Fnd} (h1 : aheadB x y = false) (h2 : aheadB y x = false) : x.rule = y.rule ∧ x.index = y.index ∧ x.sub = y.sub ∧ x.rank = y.rank := by
  unfold aheadB at h1 h2
  by_cases e1 : x.rule = y.rule
  · rw [if_neg (by simp [e1])] at h1 h2
    by_cases e2 : x.index = y.index
    · rw [if_neg (by simp [e2])] at h1 h2
      by_cases e3 : x.sub = y.sub
      · rw [if_neg (by simp [e3])] at h1 h2
        have a := of_decide_eq_false h1
        have b := of_decide_eq_false h2
        exact ⟨e1, e2, e3, by omega⟩
      · rw [if_pos e3] at h1
        rw [if_pos (Ne.symm e3)] at h2
        have a := of_decide_eq_false h1
        have b := of_decide_eq_false h2
        omega
    · rw [if_pos e2] at h1
      rw [if_pos (Ne.symm e2)] at h2
      have a := of_decide_eq_false h1
      have b := of_decide_eq_false h2
      omega
  · rw [if_pos e1] at h1
    rw [if_pos (Ne.symm e1)] at h2
    have a := of_decide_eq_false h1
    have b := of_decide_eq_false h2
    omega
/-- The flaw hangs on the place in the order alone. -/
theorem items_key {S : Sch} {Q : Qry} {x y : Fnd} (hx : mItems S Q x) (hy : mItems S Q y) (h1 : x.rule = y.rule) (h2 : x.index = y.index) (h4 : x.rank = y.rank) : x.flw = y.flw := by
  rcases hx with ⟨_, rfl⟩ | ⟨i, _, (⟨_, _, _, rfl⟩ | ⟨_, _, _, _, _, rfl⟩ | ⟨_, rfl⟩ | ⟨_, rfl⟩)⟩ | ⟨_, rfl⟩ <;> rcases hy with ⟨_, rfl⟩ | ⟨k, _, (⟨_, _, _, rfl⟩ | ⟨_, _, _, _, _, rfl⟩ | ⟨_, rfl⟩ | ⟨_, rfl⟩)⟩ | ⟨_, rfl⟩ <;> simp_all [Fnd.flw]
theorem both_key {S : Sch} {Q : Qry} {x y : Fnd} (hx : mWhere S Q x ∨ mRest S Q x) (hy : mWhere S Q y ∨ mRest S Q y) (h1 : x.rule = y.rule) (h2 : x.index = y.index) (h3 : x.sub = y.sub) (h4 : x.rank = y.rank) : x.flw = y.flw := by
  have hp : ∀ z : Fnd, mWhere S Q z ∨ mRest S Q z → (z.rule = 6 ∧ ∃ i r : Nat, 1 ≤ r ∧ r ≤ 4 ∧ z = ⟨6, r, nodeR S Q false Q.wh i r, 4, i, 0⟩) ∨ (z.rule = 7 ∧ z = ⟨7, 0, 75, 4, (Q.wn : Int) - 1, 0⟩) ∨ (z.rule = 8 ∧ ∃ root : Nat, z = ⟨8, 0, 77, 4, root, 0⟩) ∨ (z.rule = 9 ∧ z = ⟨9, 0, 66, 2, 0, 0⟩) ∨ (z.rule = 10 ∧ z = ⟨10, 0, 67, 3, 0, 0⟩) ∨ (z.rule = 11 ∧ z = ⟨11, 0, 78, 5, 8, 0⟩) ∨ (z.rule = 12 ∧ ∃ k i r : Nat, 1 ≤ r ∧ r ≤ 4 ∧ z = ⟨12, r, nodeR S Q true (Q.rt k) i r, 5, k, i⟩) ∨ (z.rule = 12 ∧ ∃ k : Nat, z = ⟨12, 5, 75, 5, k, (Q.ln k : Int) - 1⟩) := by
    rintro z ((⟨i, r, _, a, b, _, rfl⟩ | ⟨_, _, rfl⟩ | ⟨root, _, _, rfl⟩) | (⟨_, rfl⟩ | ⟨_, _, rfl⟩ | ⟨_, rfl⟩ | ⟨k, i, r, _, _, a, b, _, rfl⟩ | ⟨k, _, _, rfl⟩))
    · exact .inl ⟨rfl, i, r, a, b, rfl⟩
    · exact .inr (.inl ⟨rfl, rfl⟩)
    · exact .inr (.inr (.inl ⟨rfl, root, rfl⟩))
    · exact .inr (.inr (.inr (.inl ⟨rfl, rfl⟩)))
    · exact .inr (.inr (.inr (.inr (.inl ⟨rfl, rfl⟩))))
    · exact .inr (.inr (.inr (.inr (.inr (.inl ⟨rfl, rfl⟩)))))
    · exact .inr (.inr (.inr (.inr (.inr (.inr (.inl ⟨rfl, k, i, r, a, b, rfl⟩))))))
    · exact .inr (.inr (.inr (.inr (.inr (.inr (.inr ⟨rfl, k, rfl⟩))))))
  rcases hp x hx with ⟨a, i, r, b1, b2, rfl⟩ | ⟨a, rfl⟩ | ⟨a, i, rfl⟩ | ⟨a, rfl⟩ | ⟨a, rfl⟩ | ⟨a, rfl⟩ | ⟨a, k, i, r, b1, b2, rfl⟩ | ⟨a, k, rfl⟩ <;>
    rcases hp y hy with ⟨c, i', r', d1, d2, rfl⟩ | ⟨c, rfl⟩ | ⟨c, i', rfl⟩ | ⟨c, rfl⟩ | ⟨c, rfl⟩ | ⟨c, rfl⟩ | ⟨c, k', i', r', d1, d2, rfl⟩ | ⟨c, k', rfl⟩ <;>
    dsimp only at h1 h2 h3 h4 <;> first
      | (exfalso; omega)
      | rfl
      | (obtain rfl : i = i' := by omega
         obtain rfl : r = r' := by omega
         rfl)
      | (obtain rfl : i = i' := by omega
         rfl)
      | (obtain rfl : k = k' := by omega
         obtain rfl : i = i' := by omega
         obtain rfl : r = r' := by omega
         rfl)
      | (obtain rfl : k = k' := by omega
         rfl)
end Go.Proofs.YtagcbljfaflhoaaDoor

/-! ### Findings in memory: a list that grows; the walks of found, ahead. -/
namespace Go.Proofs.YtagcbljfaflhoaaDoor
open Go.RowKit Go.ChangeShapes Go.WideShapes Go.ChangeAt Go.Deep Go.Joins
theorem infoFnd : (Tryd.prog.info? 89).map (fun i => (i.zero, i.size, i.bytes)) = some (some (.agg #[.int .i64 0, .int .i64 0, .int .i64 0, .int .i64 0, .int .i64 0, .int .i64 0]), 6, 48) := by kernel_rfl
def fnd0 : Fnd := ⟨0, 0, 0, 0, 0, 0⟩
def fndArr (x : Fnd) : Array Value := #[.int .i64 x.rule, .int .i64 x.rank, .int .i64 x.code, .int .i64 x.part, .int .i64 x.index, .int .i64 x.sub]
def fndCell (x : Fnd) : Nat → Value
  | 0 => .int .i64 x.rule
  | 1 => .int .i64 x.rank
  | 2 => .int .i64 x.code
  | 3 => .int .i64 x.part
  | 4 => .int .i64 x.index
  | _ => .int .i64 x.sub
/-- The cells of findings. -/
def fndC (L : List Fnd) : Nat → Nat → Value := fun j => fndCell (L.getD j fnd0)
theorem fnd_snoc (L : List Fnd) (x : Fnd) : flat (fndC (L ++ [x])) 6 (L.length + 1) = flat (fndC L) 6 L.length ++ (fndArr x).toList := by
  rw [flat_succ, flat_congr (C' := fndC L) (fun j hj i _ => by
    show fndCell ((L ++ [x]).getD j fnd0) i = fndCell (L.getD j fnd0) i
    rw [List.getD_eq_getElem?_getD, List.getD_eq_getElem?_getD, List.getElem?_append_left hj])]
  congr 1
  have e : fndC (L ++ [x]) L.length = fndCell x := by
    show fndCell ((L ++ [x]).getD L.length fnd0) = _
    rw [List.getD_eq_getElem?_getD, List.getElem?_append_right (Nat.le_refl _)]
    simp
  rw [e]
  rfl
set_option maxRecDepth 100000 in
theorem found_any (x : Fnd) (w : World) :
    Calls Tryd.prog 91 #[.int .i64 x.rule, .int .i64 x.rank, .int .i64 x.code, .int .i64 x.part, .int .i64 x.index, .int .i64 x.sub] w fun e w' => e = .returned (.agg (fndArr x)) ∧ Below w.heap.size w w' := by
  have hb0 := bnew (Below.refl w.heap.size w) (.cells #[.int .i64 0, .int .i64 0, .int .i64 0, .int .i64 0, .int .i64 0, .int .i64 0] 89)
  have R0 := Lib.hid (blk_new w #[.int .i64 0, .int .i64 0, .int .i64 0, .int .i64 0, .int .i64 0, .int .i64 0] 89)
  obtain ⟨a, b, c, d, i, s⟩ := x
  go_enter Tryd.func91, Tryd.ntmps91
  go_upto_region 1 with fail
  generalize w.alloc _ = w0 at *
  go_wp2_with (refine wpList_store_row rfl 89 _ _ rfl w.heap.size #[.int .i64 a, .int .i64 b, .int .i64 c, .int .i64 d, .int .i64 i, .int .i64 s] rfl rfl 89 _ R0.out (by kernel_rfl) rfl (by simp [Value.oneCell']) ?_)
  (try simp only [Exit.inBlock, Exit.then])
  have BF := Lib.hid (row_set R0.out #[.int .i64 a, .int .i64 b, .int .i64 c, .int .i64 d, .int .i64 i, .int .i64 s])
  have hbf := below_setRow (cs := #[.int .i64 a, .int .i64 b, .int .i64 c, .int .i64 d, .int .i64 i, .int .i64 s]) hb0 (Nat.le_refl w.heap.size)
  generalize World.setRow _ _ _ = wf at *
  refine bodyPost_ret (v := .agg #[.int .i64 a, .int .i64 b, .int .i64 c, .int .i64 d, .int .i64 i, .int .i64 s]) ?_ rfl ?_
  · exact results_cell_row Tryd.results91 _ _ w.heap.size 89 _ (0, 0) _ rfl BF.out Tryd.underlying89 rfl (by kernel_rfl)
  · exact ⟨rfl, hbf⟩
theorem blk6f {w : World} {b : Nat} {v0 v1 v2 v3 v4 v5 : Value} {T : TypeId} (h : w.heap[b]? = some (.cells #[v0, v1, v2, v3, v4, v5] T (0, 0))) : w.cell? ⟨b, 0, none⟩ = some v0 ∧ w.cell? ⟨b, 1, none⟩ = some v1 ∧ w.cell? ⟨b, 2, none⟩ = some v2 ∧ w.cell? ⟨b, 3, none⟩ = some v3 ∧ w.cell? ⟨b, 4, none⟩ = some v4 ∧ w.cell? ⟨b, 5, none⟩ = some v5 :=
  ⟨blk_cell h (j := 0) rfl, blk_cell h (j := 1) rfl, blk_cell h (j := 2) rfl, blk_cell h (j := 3) rfl, blk_cell h (j := 4) rfl, blk_cell h (j := 5) rfl⟩
set_option maxRecDepth 100000 in
set_option maxHeartbeats 2000000 in
theorem ahead_any (x y : Fnd) (w : World) : Calls Tryd.prog 65 #[.agg (fndArr x), .agg (fndArr y)] w fun e w' => e = .returned (.bool (aheadB x y)) ∧ Below w.heap.size w w' := by
  obtain ⟨xr, xk, xc, xp, xi, xs⟩ := x
  obtain ⟨yr, yk, yc, yp, yi, ys⟩ := y
  show Calls _ _ #[.agg #[.int .i64 xr, .int .i64 xk, .int .i64 xc, .int .i64 xp, .int .i64 xi, .int .i64 xs], .agg #[.int .i64 yr, .int .i64 yk, .int .i64 yc, .int .i64 yp, .int .i64 yi, .int .i64 ys]] w _
  have hb0 := bnew (bnew (Below.refl w.heap.size w) (.cells #[.int .i64 xr, .int .i64 xk, .int .i64 xc, .int .i64 xp, .int .i64 xi, .int .i64 xs] 89)) (.cells #[.int .i64 yr, .int .i64 yk, .int .i64 yc, .int .i64 yp, .int .i64 yi, .int .i64 ys] 89)
  have x0 := blk_alloc (blk_new w #[.int .i64 xr, .int .i64 xk, .int .i64 xc, .int .i64 xp, .int .i64 xi, .int .i64 xs] 89) (.cells #[.int .i64 yr, .int .i64 yk, .int .i64 yc, .int .i64 yp, .int .i64 yi, .int .i64 ys] 89)
  have y0 := blk_new (w.alloc (.cells #[.int .i64 xr, .int .i64 xk, .int .i64 xc, .int .i64 xp, .int .i64 xi, .int .i64 xs] 89)) #[.int .i64 yr, .int .i64 yk, .int .i64 yc, .int .i64 yp, .int .i64 yi, .int .i64 ys] 89
  rw [World.size_alloc] at y0
  have HE := Lib.hid (show aheadB ⟨xr, xk, xc, xp, xi, xs⟩ ⟨yr, yk, yc, yp, yi, ys⟩ = if xr ≠ yr then decide (xr < yr) else if xi ≠ yi then decide (xi < yi) else if xs ≠ ys then decide (xs < ys) else decide (xk < yk) from rfl)
  go_enter Tryd.func65, Tryd.ntmps65
  go_upto_region 1 with fail
  generalize (w.alloc _).alloc _ = w0 at *
  obtain ⟨a0, a1, a2, a3, a4, a5⟩ := blk6f x0
  obtain ⟨b0, b1, b2, b3, b4, b5⟩ := blk6f y0
  clear x0 y0
  by_cases h1 : xr = yr
  · subst h1
    by_cases h2 : xi = yi
    · subst h2
      by_cases h3 : xs = ys
      · subst h3
        go_wp2_with fail
        go_ret
        exact ⟨by rw [HE.out]; simp, hb0⟩
      · have n3 : (xs != ys) = true := by rw [bne_iff_ne]; exact h3
        go_wp2_with fail
        go_ret
        exact ⟨by rw [HE.out]; simp [h3], hb0⟩
    · have n2 : (xi != yi) = true := by rw [bne_iff_ne]; exact h2
      go_wp2_with fail
      go_ret
      exact ⟨by rw [HE.out]; simp [h2], hb0⟩
  · have n1 : (xr != yr) = true := by rw [bne_iff_ne]; exact h1
    go_wp2_with fail
    go_ret
    exact ⟨by rw [HE.out]; simp [h1], hb0⟩
set_option maxRecDepth 100000 in
set_option maxHeartbeats 4000000 in
theorem every_any (A : Option Addr) (cap : Nat) (S : Sch) (x : Itm) (a : Option Addr) (c : Nat) (at_ : ByteArray) (w : World) (hS : TypRd w w.heap.size A S) (h : TxtRd w w.heap.size a x.tn x.ty) :
    Calls Tryd.prog 95 #[.agg #[.slice A S.n cap], .agg (itmArr x (.slice a x.tn c)), .string at_] w fun e w' => e = .returned (.bool (hasB S x at_)) ∧ Below w.heap.size w w' := by
  obtain ⟨ng, tn, ty, vr, lo, hi⟩ := x
  show Calls _ _ #[.agg #[.slice A S.n cap], .agg #[.bool ng, .slice a tn c, .string vr, .int .i64 lo, .int .i64 hi], _] w _
  have hn : tn * 16 ≤ 140737488351232 := h.1
  have hb0 := bnew (bnew (Below.refl w.heap.size w) (.cells #[.slice A S.n cap] 34)) (.cells #[.bool ng, .slice a tn c, .string vr, .int .i64 lo, .int .i64 hi] 80)
  have s0 := blk_alloc (blk_new w #[.slice A S.n cap] 34) (.cells #[.bool ng, .slice a tn c, .string vr, .int .i64 lo, .int .i64 hi] 80)
  have i0 := blk_new (w.alloc (.cells #[.slice A S.n cap] 34)) #[.bool ng, .slice a tn c, .string vr, .int .i64 lo, .int .i64 hi] 80
  rw [World.size_alloc] at i0
  have S0 := Lib.hid s0
  have I0 := Lib.hid i0
  have HT := Lib.hid h
  have HS := Lib.hid hS
  clear h hS s0 i0
  go_enter Tryd.func95, Tryd.ntmps95
  go_upto_region 1 with fail
  generalize (w.alloc _).alloc _ = w0 at *
  go_wp2_with fail
  go_loopw [7] (fun i wr => ∃ k : Nat, k ≤ tn ∧ i = .int .i64 k ∧ Hid (∀ j, j < k → colB S (ty j) at_ = true) ∧ Below w0.heap.size w0 wr) (fun i _ => tn - (intOf i).toNat)
  case atStart => exact ⟨0, Nat.zero_le _, rfl, Lib.hid (yes_zero (p := fun j => colB S (ty j) at_)), Below.refl _ _⟩
  case round =>
    obtain ⟨k, hk, rfl, HN, hb⟩ := hrel
    obtain ⟨W1, e1⟩ : ∃ W1 : World, W1 = wr := ⟨_, rfl⟩
    subst e1
    have hbk := bcall hb0 hb
    have t1 := blk_cell (blk_below I0.out hb) (j := 1) rfl
    by_cases hlt : k < tn
    · obtain ⟨b, off, rfl, hbl, hcs⟩ := RowRd.spot1 (RowRd.later HT.out hbk) (by omega)
      have d1 := hcs k hlt
      have x1 := blk_cell (blk_below S0.out hb) (j := 0) rfl
      have HS1 := Lib.hid (HS.out.later hbk)
      obtain ⟨tI, htI⟩ : ∃ tI, typeI S (ty k) = tI := ⟨_, rfl⟩
      obtain ⟨aI, haI⟩ : ∃ aI, attrI S tI at_ = aI := ⟨_, rfl⟩
      have HTI := Lib.hid htI
      have HAI := Lib.hid haI
      have HC := Lib.hid (show colB S (ty k) at_ = (aI != -1) by rw [colB, htI, haI])
      clear hcs htI haI
      go_wp2_with fail
      go_region_held3 (fun w' => w'.cell? ⟨w.heap.size, 0, none⟩ = some (.slice A S.n cap) ∧ w'.cell? ⟨w.heap.size + 1, 1, none⟩ = some (.slice (some ⟨b, off, none⟩) tn c) ∧ w'.cell? ⟨b, off + k, none⟩ = some (.string (ty k)) ∧ Below W1.heap.size W1 w')
        (first
          | exact ⟨x1, t1, d1, (Below.refl _ _).drew⟩
          | (go_split_ands; exact ⟨rd_later (by assumption) hbz, rd_later (by assumption) hbz, rd_later (by assumption) hbz, bcall (by assumption) hbz⟩))
        (first
          | (go_at_call 92; go_split_ands; refine (refTypeOf_any A cap S (ty k) _ (HS1.out.later (by assumption))).mono ?_; rw [HTI.out]; rintro e wz ⟨rfl, hbz⟩))
      go_split_ands
      have hb5 : Below W1.heap.size W1 wz := by assumption
      have x2 := rd_later x1 hb5
      have t2 := rd_later t1 hb5
      clear x1 t1 d1
      go_wp2_with fail
      refine (refAttrOf_any A cap S tI at_ _ (HS1.out.later hb5)).mono ?_
      rw [HAI.out]
      rintro e w6 ⟨rfl, hb6⟩
      have hb7 := bcall hb5 hb6
      by_cases hc : aI = -1
      · have HE := Lib.hid (show hasB S ⟨ng, tn, ty, vr, lo, hi⟩ at_ = false from all_no (p := fun j => colB S (ty j) at_) hlt (by show colB S (ty k) at_ = false; rw [HC.out, hc]; rfl))
        subst hc
        go_wp2_with fail
        go_ret
        exact ⟨by rw [HE.out]; rfl, bcall hbk hb7⟩
      · have hcb : (aI == -1) = false := by rw [beq_eq_false_iff_ne]; exact hc
        have HY := Lib.hid (yes_step (p := fun j => colB S (ty j) at_) HN.out (by show colB S (ty k) at_ = true; rw [HC.out, bne_iff_ne]; exact hc))
        go_wp2_with fail
        go_roundw
        case rel => exact ⟨k + 1, by omega, by go_num, HY, bcall hb hb7⟩
        case measure => simp [intOf]; omega
    · obtain rfl : k = tn := by omega
      have HE := Lib.hid (show hasB S ⟨ng, k, ty, vr, lo, hi⟩ at_ = true from all_yes HN.out)
      go_wp2_with fail
      go_ret
      exact ⟨by rw [HE.out]; rfl, hbk⟩
end Go.Proofs.YtagcbljfaflhoaaDoor

/-! ### The walk of the reference's Uses. -/
namespace Go.Proofs.YtagcbljfaflhoaaDoor
open Go.RowKit Go.ChangeShapes Go.WideShapes Go.ChangeAt Go.Deep Go.Joins
theorem itemI_none {n : Nat} {it : Nat → Itm} {v : ByteArray} (h : ∀ k, k < n → ((it k).vr.toList == v.toList) = false) : itemI n it v = -1 := firstI_none h
theorem itemI_at {n j : Nat} {it : Nat → Itm} {v : ByteArray} (hj : j < n) (hp : ((it j).vr.toList == v.toList) = true) (h : ∀ k, k < j → ((it k).vr.toList == v.toList) = false) : itemI n it v = j := firstI_hit hj hp h
set_option maxRecDepth 100000 in
set_option maxHeartbeats 2000000 in
theorem refItemOf_any (V : QryV) (Q : Qry) (v : ByteArray) (w : World) (h : QryRd w w.heap.size V Q) :
    Calls Tryd.prog 93 #[.agg (qryArr V Q), .string v] w fun e w' => e = .returned (.int .i64 (itemI Q.n Q.it v)) ∧ Below w.heap.size w w' := by
  obtain ⟨aI, cI, aW, cW, aR, cR⟩ := V
  show Calls _ _ #[.agg #[.slice aI Q.n cI, .int .i64 Q.mode, .int .i64 Q.after, .slice aW Q.wn cW, .int .i64 Q.within, .string Q.by_, .slice aR Q.m cR], .string v] w _
  have hnI := h.rI.small
  have HB := bnew (Below.refl w.heap.size w) (.cells #[.slice aI Q.n cI, .int .i64 Q.mode, .int .i64 Q.after, .slice aW Q.wn cW, .int .i64 Q.within, .string Q.by_, .slice aR Q.m cR] 40)
  have B0 := Lib.hid (blk_new w #[.slice aI Q.n cI, .int .i64 Q.mode, .int .i64 Q.after, .slice aW Q.wn cW, .int .i64 Q.within, .string Q.by_, .slice aR Q.m cR] 40)
  have HQ2 := Lib.hid (h.later HB)
  clear h
  go_enter Tryd.func93, Tryd.ntmps93
  go_wp2_with fail
  generalize w.alloc _ = w2 at *
  have x0 := blk_cell B0.out (j := 0) rfl
  go_loopw [5] (fun i wr => ∃ k : Nat, k ≤ Q.n ∧ i = .int .i64 k ∧ wr = w2 ∧ Hid (∀ q, q < k → ((Q.it q).vr.toList == v.toList) = false)) (fun i _ => Q.n - (intOf i).toNat)
  case atStart => exact ⟨0, Nat.zero_le _, rfl, by first | rfl | trivial, Lib.hid fun q hq => absurd hq (Nat.not_lt_zero _)⟩
  case round =>
    obtain ⟨k, hk, rfl, rfl, HP⟩ := hrel
    by_cases hlt : k < Q.n
    · obtain ⟨b, off, eA, hbl, hcs⟩ := HQ2.out.rI.spot (by omega)
      have eA : aI = _ := eA
      subst eA
      obtain ⟨d0, ⟨aa, ac, d1, _, _, hrow⟩, d2, d3, d4⟩ := hcs k hlt
      clear hcs hrow d0 d1 d3 d4
      cases hv : ((Q.it k).vr.toList == v.toList)
      · have HS := Lib.hid (show ∀ q, q < k + 1 → ((Q.it q).vr.toList == v.toList) = false from fun q hq => by
          by_cases e : q = k
          · subst e; exact hv
          · exact HP.out q (by omega))
        go_wp2_with fail
        go_roundw
        case rel => exact ⟨k + 1, by omega, by go_num, (by first | trivial | rfl), HS⟩
        case measure => simp [intOf]; omega
      · have HE := Lib.hid (itemI_at hlt hv HP.out)
        go_wp2_with fail
        go_ret
        exact ⟨ret_int HE.out.symm, HB⟩
    · obtain rfl : k = Q.n := by omega
      have HE := Lib.hid (itemI_none HP.out)
      go_wp2_with fail
      go_ret
      exact ⟨ret_int HE.out.symm, HB⟩
theorem barely_any (op : Int) (w : World) : Calls Tryd.prog 103 #[.int .i64 op] w fun e w' => e = .returned (.bool (bareB op)) ∧ w' = w := by
  by_cases h4 : op = 4
  · subst h4
    go_enter Tryd.func103, Tryd.ntmps103
    go_wp2_with fail
    go_ret
    exact ⟨rfl, rfl⟩
  · have h1 : (op == 4) = false := by rw [beq_eq_false_iff_ne]; exact h4
    go_enter Tryd.func103, Tryd.ntmps103
    go_wp2_with fail
    go_ret
    exact ⟨by simp [bareB, h1], rfl⟩
theorem aggregate_any (op : Int) (w : World) : Calls Tryd.prog 104 #[.int .i64 op] w fun e w' => e = .returned (.bool (aggB op)) ∧ w' = w := by
  by_cases h4 : 5 ≤ op
  · go_enter Tryd.func104, Tryd.ntmps104
    go_wp2_with fail
    go_ret
    exact ⟨by simp [aggB, h4], rfl⟩
  · go_enter Tryd.func104, Tryd.ntmps104
    go_wp2_with fail
    go_ret
    exact ⟨by simp [aggB]; omega, rfl⟩
/-- Three rows of numbers and the block that tells where they lie. -/
structure Use3 (w : World) (B g : Nat) (L1 L2 L3 : List Nat) (v1 v2 v3 : Value) : Prop where
  o1 : w.ownsRow B 3 1 v1 L1.length (L1.map natV)
  o2 : w.ownsRow B 3 1 v2 L2.length (L2.map natV)
  o3 : w.ownsRow B 3 1 v3 L3.length (L3.map natV)
  n12 : ∀ x, v1.ownBlock = some x → v2.ownBlock ≠ some x
  n13 : ∀ x, v1.ownBlock = some x → v3.ownBlock ≠ some x
  n23 : ∀ x, v2.ownBlock = some x → v3.ownBlock ≠ some x
  blk : w.heap[g]? = some (.cells #[v1, v2, v3] 57 (0, 0))
section
variable {w w9 : World} {B g gg gcap k : Nat} {L1 L2 L3 : List Nat} {v1 v2 v3 v u' : Value} {o : Obj}
theorem far_row {L : List Nat} (h : w.ownsRow B 3 1 v L.length (L.map natV)) (hg : (w.alloc o).grownBy w9 u'.ownBlock) (hne : ∀ x, u'.ownBlock = some x → v.ownBlock ≠ some x) (hgB : g < B) (j : Nat) (u : Value) :
    (w9.setCell ⟨g, j, none⟩ u).ownsRow B 3 1 v L.length (L.map natV) :=
  rowown_far (rowown_kept (World.ownsRow.alloc h o) hg hne) (rowown_ne h hgB) u
theorem new_ne {L : List Nat} (h : w.ownsRow B 3 1 v L.length (L.map natV)) (hat : u'.ownBlock = some gg ∨ gg = w.heap.size + 1) (hne : ∀ x, u'.ownBlock = some x → v.ownBlock ≠ some x) : v.ownBlock ≠ some gg := by
  intro e
  rcases hat with hat | hat
  · exact hne gg hat e
  · have := (h.lt gg e).2
    omega
theorem Use3.push1 (h : Use3 w B g L1 L2 L3 v1 v2 v3) (hgB : g < B) (hown : w9.ownsRow B 3 1 (.slice (some ⟨gg, 0, none⟩) (L1.length + 1) gcap) (L1.length + 1) (L1.map natV ++ [natV k])) (hg : (w.alloc o).grownBy w9 v1.ownBlock) (hat : v1.ownBlock = some gg ∨ gg = w.heap.size + 1) :
    Use3 (w9.setCell ⟨g, 0, none⟩ (.slice (some ⟨gg, 0, none⟩) (L1.length + 1) gcap)) B g (L1 ++ [k]) L2 L3 (.slice (some ⟨gg, 0, none⟩) (L1.length + 1) gcap) v2 v3 := by
  have hb9 := blk_grown (blk_alloc h.blk o) hg (rowown_ne h.o1 hgB)
  refine ⟨?_, far_row h.o2 hg h.n12 hgB 0 _, far_row h.o3 hg h.n13 hgB 0 _, ?_, ?_, h.n23, blk_set hb9 0 _⟩
  · rw [List.map_append, List.length_append]
    exact own_blk hown hb9 (by decide) 0 _
  · intro x hx
    injection hx with hx
    subst hx
    exact new_ne h.o2 hat h.n12
  · intro x hx
    injection hx with hx
    subst hx
    exact new_ne h.o3 hat h.n13
theorem Use3.push2 (h : Use3 w B g L1 L2 L3 v1 v2 v3) (hgB : g < B) (hown : w9.ownsRow B 3 1 (.slice (some ⟨gg, 0, none⟩) (L2.length + 1) gcap) (L2.length + 1) (L2.map natV ++ [natV k])) (hg : (w.alloc o).grownBy w9 v2.ownBlock) (hat : v2.ownBlock = some gg ∨ gg = w.heap.size + 1) :
    Use3 (w9.setCell ⟨g, 1, none⟩ (.slice (some ⟨gg, 0, none⟩) (L2.length + 1) gcap)) B g L1 (L2 ++ [k]) L3 v1 (.slice (some ⟨gg, 0, none⟩) (L2.length + 1) gcap) v3 := by
  have hb9 := blk_grown (blk_alloc h.blk o) hg (rowown_ne h.o2 hgB)
  refine ⟨far_row h.o1 hg (fun x hx e => h.n12 x e hx) hgB 1 _, ?_, far_row h.o3 hg h.n23 hgB 1 _, ?_, h.n13, ?_, blk_set hb9 1 _⟩
  · rw [List.map_append, List.length_append]
    exact own_blk hown hb9 (by decide) 1 _
  · intro x hx e
    injection e with e
    subst e
    exact new_ne h.o1 hat (fun x hx e => h.n12 x e hx) hx
  · intro x hx
    injection hx with hx
    subst hx
    exact new_ne h.o3 hat h.n23
theorem Use3.push3 (h : Use3 w B g L1 L2 L3 v1 v2 v3) (hgB : g < B) (hown : w9.ownsRow B 3 1 (.slice (some ⟨gg, 0, none⟩) (L3.length + 1) gcap) (L3.length + 1) (L3.map natV ++ [natV k])) (hg : (w.alloc o).grownBy w9 v3.ownBlock) (hat : v3.ownBlock = some gg ∨ gg = w.heap.size + 1) :
    Use3 (w9.setCell ⟨g, 2, none⟩ (.slice (some ⟨gg, 0, none⟩) (L3.length + 1) gcap)) B g L1 L2 (L3 ++ [k]) v1 v2 (.slice (some ⟨gg, 0, none⟩) (L3.length + 1) gcap) := by
  have hb9 := blk_grown (blk_alloc h.blk o) hg (rowown_ne h.o3 hgB)
  refine ⟨far_row h.o1 hg (fun x hx e => h.n13 x e hx) hgB 2 _, far_row h.o2 hg (fun x hx e => h.n23 x e hx) hgB 2 _, ?_, h.n12, ?_, ?_, blk_set hb9 2 _⟩
  · rw [List.map_append, List.length_append]
    exact own_blk hown hb9 (by decide) 2 _
  · intro x hx e
    injection e with e
    subst e
    exact new_ne h.o1 hat (fun x hx e => h.n13 x e hx) hx
  · intro x hx e
    injection e with e
    subst e
    exact new_ne h.o2 hat (fun x hx e => h.n23 x e hx) hx
theorem Use3.below {w' : World} (h : Use3 w B g L1 L2 L3 v1 v2 v3) (hb : Below w.heap.size w w') : Use3 w' B g L1 L2 L3 v1 v2 v3 :=
  ⟨rowown_below h.o1 hb, rowown_below h.o2 hb, rowown_below h.o3 hb, h.n12, h.n13, h.n23, blk_below h.blk hb⟩
theorem Use3.row {b : Nat} {old : Array Value} {fr : Nat × Nat} (h : Use3 w B g L1 L2 L3 v1 v2 v3) (hb : w.heap[b]? = some (.cells old 57 fr)) (hbg : b ≠ g) (new : Array Value) : Use3 (w.setRow b new) B g L1 L2 L3 v1 v2 v3 :=
  ⟨own_row h.o1 hb (by decide) new, own_row h.o2 hb (by decide) new, own_row h.o3 hb (by decide) new, h.n12, h.n13, h.n23, row_other h.blk hbg⟩
end
set_option maxRecDepth 100000 in
set_option maxHeartbeats 4000000 in
theorem refUses_any (V : QryV) (Q : Qry) (A : Option Addr) (m c : Nat) (t : Nat → Nod) (w : World) (h : QryRd w w.heap.size V Q) (hT : NodRd w w.heap.size A m t) :
    Calls Tryd.prog 78 #[.agg (qryArr V Q), .slice A m c] w fun e w' => ∃ v1 v2 v3, e = .returned (.agg #[v1, v2, v3]) ∧ Below w.heap.size w w' ∧
      w'.ownsRow w.heap.size 3 1 v1 (usesL bareB Q.n Q.it t m Q.n).length ((usesL bareB Q.n Q.it t m Q.n).map natV) ∧ w'.ownsRow w.heap.size 3 1 v2 (usesL prevB Q.n Q.it t m Q.n).length ((usesL prevB Q.n Q.it t m Q.n).map natV) ∧ w'.ownsRow w.heap.size 3 1 v3 (usesL aggB Q.n Q.it t m Q.n).length ((usesL aggB Q.n Q.it t m Q.n).map natV) := by
  obtain ⟨aI, cI, aW, cW, aR, cR⟩ := V
  show Calls _ _ #[.agg #[.slice aI Q.n cI, .int .i64 Q.mode, .int .i64 Q.after, .slice aW Q.wn cW, .int .i64 Q.within, .string Q.by_, .slice aR Q.m cR], .slice A m c] w _
  obtain ⟨i0, hi0, hy0, hy1, hy2⟩ := info_parts infoIntU
  have hnI := h.rI.small
  have hnm := hT.small
  have HB := bnew (bnew (bnew (Below.refl w.heap.size w) (.cells #[.slice aI Q.n cI, .int .i64 Q.mode, .int .i64 Q.after, .slice aW Q.wn cW, .int .i64 Q.within, .string Q.by_, .slice aR Q.m cR] 40)) (.cells #[.slice none 0 0, .slice none 0 0, .slice none 0 0] 57)) (.cells #[.slice none 0 0, .slice none 0 0, .slice none 0 0] 57)
  have B0 := Lib.hid (blk_alloc (blk_alloc (blk_new w #[.slice aI Q.n cI, .int .i64 Q.mode, .int .i64 Q.after, .slice aW Q.wn cW, .int .i64 Q.within, .string Q.by_, .slice aR Q.m cR] 40) (.cells #[.slice none 0 0, .slice none 0 0, .slice none 0 0] 57)) (.cells #[.slice none 0 0, .slice none 0 0, .slice none 0 0] 57))
  have b1 := blk_alloc (blk_new (w.alloc (.cells #[.slice aI Q.n cI, .int .i64 Q.mode, .int .i64 Q.after, .slice aW Q.wn cW, .int .i64 Q.within, .string Q.by_, .slice aR Q.m cR] 40)) #[.slice none 0 0, .slice none 0 0, .slice none 0 0] 57) (.cells #[.slice none 0 0, .slice none 0 0, .slice none 0 0] 57)
  have b2 := blk_new ((w.alloc (.cells #[.slice aI Q.n cI, .int .i64 Q.mode, .int .i64 Q.after, .slice aW Q.wn cW, .int .i64 Q.within, .string Q.by_, .slice aR Q.m cR] 40)).alloc (.cells #[.slice none 0 0, .slice none 0 0, .slice none 0 0] 57)) #[.slice none 0 0, .slice none 0 0, .slice none 0 0] 57
  simp only [World.size_alloc] at b1 b2
  have B1 := Lib.hid b1
  have B2 := Lib.hid b2
  have HQ2 := Lib.hid (h.later HB)
  have HT2 := Lib.hid (hT.later HB)
  have hz2 : (((w.alloc (.cells #[.slice aI Q.n cI, .int .i64 Q.mode, .int .i64 Q.after, .slice aW Q.wn cW, .int .i64 Q.within, .string Q.by_, .slice aR Q.m cR] 40)).alloc (.cells #[.slice none 0 0, .slice none 0 0, .slice none 0 0] 57)).alloc (.cells #[.slice none 0 0, .slice none 0 0, .slice none 0 0] 57)).heap.size = w.heap.size + 3 := by simp
  have HLOW := Lib.hid h
  have HLOT := Lib.hid hT
  clear h hT b1 b2
  go_enter Tryd.func78, Tryd.ntmps78
  go_wp2_with fail
  generalize ((w.alloc _).alloc _).alloc _ = w4 at *
  go_loopw [6] (fun i wr => ∃ (k : Nat) (v1 v2 v3 : Value), k ≤ Q.n ∧ i = .int .i64 k ∧ Hid (Use3 wr (w.heap.size + 3) (w.heap.size + 1 + 1) (usesL bareB Q.n Q.it t m k) (usesL prevB Q.n Q.it t m k) (usesL aggB Q.n Q.it t m k) v1 v2 v3) ∧ Below (w.heap.size + 2) w4 wr) (fun i _ => Q.n - (intOf i).toNat)
  case atStart => exact ⟨0, .slice none 0 0, .slice none 0 0, .slice none 0 0, Nat.zero_le _, rfl, Lib.hid ⟨World.ownsRow_nil _ _ _ _, World.ownsRow_nil _ _ _ _, World.ownsRow_nil _ _ _ _, fun g hg => by simp [Value.ownBlock] at hg, fun g hg => by simp [Value.ownBlock] at hg, fun g hg => by simp [Value.ownBlock] at hg, B2.out⟩, Below.refl _ _⟩
  case round =>
    obtain ⟨k, v1, v2, v3, hk, rfl, U, hb⟩ := hrel
    obtain ⟨W1, e1⟩ : ∃ W1 : World, W1 = wr := ⟨_, rfl⟩
    subst e1
    have hzW := hb.size
    have A0 := Lib.hid ((hb.block w.heap.size (by omega)).trans B0.out)
    have x0 := blk_cell A0.out (j := 0) rfl
    by_cases hlt : k < Q.n
    · have hbw : Below w.heap.size w W1 := HB.trans (hb.mono (by omega))
      have HQ1 := Lib.hid (HLOW.out.later hbw)
      have HT1 := Lib.hid (HLOT.out.later hbw)
      go_wp2_with fail
      go_loopw [7, 8, 9, 10] (fun p1 p2 p3 j wr => ∃ i : Nat, i ≤ m ∧ j = .int .i64 i ∧ p1 = .bool (anyU bareB Q.n Q.it t i k) ∧ p2 = .bool (anyU prevB Q.n Q.it t i k) ∧ p3 = .bool (anyU aggB Q.n Q.it t i k) ∧ Below W1.heap.size W1 wr) (fun _ _ _ j _ => m - (intOf j).toNat)
      case atStart => exact ⟨0, Nat.zero_le _, rfl, rfl, rfl, rfl, Below.refl _ _⟩
      case round =>
        obtain ⟨i, hi, rfl, rfl, rfl, rfl, hbj⟩ := hrel
        obtain ⟨W2, e2⟩ : ∃ W2 : World, W2 = wr := ⟨_, rfl⟩
        subst e2
        by_cases hil : i < m
        · obtain ⟨b, off, eA, hbl, hcs⟩ := (HT1.out.later hbj).spot (by omega)
          subst eA
          obtain ⟨c0, c1, c2, c3, c4, c5⟩ := hcs i hil
          obtain ⟨x, hx⟩ : ∃ x, t i = x := ⟨_, rfl⟩
          rw [hx] at c0 c2
          obtain ⟨op, nn, vr, at_, a, b2⟩ := x
          have HX := Lib.hid hx
          have c0 : W2.cell? ⟨b, off + i * 6, none⟩ = some (.int .i64 op) := c0
          have c2 : W2.cell? ⟨b, off + i * 6 + 2, none⟩ = some (.string vr) := c2
          have A2 := Lib.hid (blk_below A0.out hbj)
          obtain ⟨y0, y1, y2, y3, y4, y5, y6⟩ := blk7 A2.out
          have HQ3 := Lib.hid (HQ1.out.later hbj)
          clear hcs c1 c3 c4 c5 hx x0
          go_upto_region 9 with fail
          go_region_with (go_at_call 93; refine (refItemOf_any ⟨aI, cI, aW, cW, aR, cR⟩ Q vr _ (HQ3.out.later (bdrewN (Below.refl _ _) _))).mono ?_; rintro e wz ⟨rfl, hbz⟩)
          all_goals
            have hbz' : Below W1.heap.size W1 wz := by
              have hbd : Below W1.heap.size W1 (W2.drew) := hbj.drew
              exact bcall hbd hbz
            have c0z : wz.cell? ⟨b, off + i * 6, none⟩ = some (.int .i64 op) := rd_later (w := W2.drew) c0 hbz
            clear c0 c2 y0 y1 y2 y3 y4 y5 y6 hbz hbj
            obtain ⟨iv, hiv⟩ : ∃ iv, itemI Q.n Q.it vr = iv := ⟨_, rfl⟩
            rw [hiv]
            have HIV := Lib.hid (show itemI Q.n Q.it (t i).vr = iv by rw [HX.out]; exact hiv)
            have HOP := Lib.hid (show (t i).op = op by rw [HX.out])
            clear hiv
            by_cases hik : iv = (k : Int)
            · subst hik
              have S1 := Lib.hid (show anyU bareB Q.n Q.it t (i + 1) k = (anyU bareB Q.n Q.it t i k || bareB op) by rw [any_succ, HIV.out, HOP.out]; simp)
              have S2 := Lib.hid (show anyU prevB Q.n Q.it t (i + 1) k = (anyU prevB Q.n Q.it t i k || prevB op) by rw [any_succ, HIV.out, HOP.out]; simp)
              have S3 := Lib.hid (show anyU aggB Q.n Q.it t (i + 1) k = (anyU aggB Q.n Q.it t i k || aggB op) by rw [any_succ, HIV.out, HOP.out]; simp)
              cases h1 : anyU bareB Q.n Q.it t i k
              all_goals cases h2 : anyU prevB Q.n Q.it t i k
              all_goals cases h3 : anyU aggB Q.n Q.it t i k
              all_goals
                have H1 := Lib.hid h1
                have H2 := Lib.hid h2
                have H3 := Lib.hid h3
                clear h1 h2 h3
                go_wp2_with (first | (go_at_call 103; refine (barely_any op _).mono ?_; rintro e wq ⟨rfl, rfl⟩) | (go_at_call 104; refine (aggregate_any op _).mono ?_; rintro e wq ⟨rfl, rfl⟩))
                go_roundw
                case rel => exact ⟨i + 1, by omega, by go_num, by rw [S1.out, H1.out]; rfl, by rw [S2.out, H2.out]; rfl, by rw [S3.out, H3.out]; rfl, hbz'⟩
                case measure => simp [intOf]; omega
            · have hik' : (iv == (k : Int)) = false := by rw [beq_eq_false_iff_ne]; exact hik
              have S1 := Lib.hid (show anyU bareB Q.n Q.it t (i + 1) k = anyU bareB Q.n Q.it t i k by rw [any_succ, HIV.out, hik']; simp)
              have S2 := Lib.hid (show anyU prevB Q.n Q.it t (i + 1) k = anyU prevB Q.n Q.it t i k by rw [any_succ, HIV.out, hik']; simp)
              have S3 := Lib.hid (show anyU aggB Q.n Q.it t (i + 1) k = anyU aggB Q.n Q.it t i k by rw [any_succ, HIV.out, hik']; simp)
              go_wp2_with fail
              go_roundw
              case rel => exact ⟨i + 1, by omega, by go_num, by rw [S1.out], by rw [S2.out], by rw [S3.out], hbz'⟩
              case measure => simp [intOf]; omega
        · obtain rfl : i = m := by omega
          have UA := Lib.hid (U.out.below hbj)
          have hbA : Below (w.heap.size + 2) w4 W2 := hb.trans (hbj.mono (by omega))
          have hzA := hbA.size
          clear U x0 A0 hbj HT1 HQ1
          go_upto_if 62 with fail
          go_cut [7] from 12 to 82 (fun p wx => ∃ x, Hid (Use3 wx (w.heap.size + 3) (w.heap.size + 1 + 1) (usesL bareB Q.n Q.it t i (k + 1)) (usesL prevB Q.n Q.it t i k) (usesL aggB Q.n Q.it t i k) x v2 v3) ∧ Below (w.heap.size + 2) w4 wx)
          case first =>
            cases h1 : anyU bareB Q.n Q.it t i k
            · have HU := Lib.hid (uses_miss h1)
              go_wp2_with fail
              go_meet
              exact ⟨v1, Lib.hid (by rw [HU.out]; exact UA.out), hbA⟩
            · have HU := Lib.hid (uses_hit h1)
              have z0 := blk_cell UA.out.blk (j := 0) rfl
              go_wp2_with (at_builtin; go_loud (refine wpList_append_lies _ rfl _ _ _ rfl (w.heap.size + 3) 3 i0 _ 1 8 Tryd.underlying27 hi0 hy0 hy1 hy2 rfl (by omega) _ _ _ rfl (World.ownsRow.alloc UA.out.o1 _) ⟨W2.heap.size, 0, none⟩ 1 1 [.int .i64 (k : Nat)] rfl rfl (World.news_of_block (cs := #[.int .i64 (k : Nat)]) (t := 3) (fr := (0, 0)) (heap_alloc_new W2 _)) (by simp [Value.oneCell']) (by omega) (by have : (usesL bareB Q.n Q.it t i k).length ≤ k := uses_len; unfold maxLen; omega) (by have : (usesL bareB Q.n Q.it t i k).length ≤ k := uses_len; omega) (by simp; omega) (W2.heap.size + 1) (by simp) ?_; intro gg gcap w9 hown9 hgrow hat hlt9; have f9 := blk_cell (blk_grown (blk_alloc UA.out.blk _) hgrow (rowown_ne UA.out.o1 (show w.heap.size + 1 + 1 < w.heap.size + 3 by omega))) (j := 0) rfl; have r9 := blk_free (blk_grown (blk_alloc UA.out.blk _) hgrow (rowown_ne UA.out.o1 (show w.heap.size + 1 + 1 < w.heap.size + 3 by omega))) 0))
              have hb9 := ((hbA.alloc (by omega) (.cells #[.int .i64 (k : Nat)] 3)).grown hgrow (by simp; omega) (fun x hx => by have := (UA.out.o1.lt x hx).1; omega)).setCell (p := ⟨w.heap.size + 1 + 1, 0, none⟩) (by simp) (.slice (some ⟨gg, 0, none⟩) ((usesL bareB Q.n Q.it t i k).length + 1) gcap)
              go_meet
              exact ⟨_, Lib.hid (by rw [HU.out]; exact UA.out.push1 (by omega) hown9 hgrow hat), hb9⟩
          case rest =>
          obtain ⟨x1, U1, hb1'⟩ := hcut
          obtain ⟨Y1, ey1⟩ : ∃ Y1 : World, Y1 = wc := ⟨_, rfl⟩
          subst ey1
          have hzB1 := hb1'.size
          go_upto_if 69 with fail
          go_cut [8] from 12 to 82 (fun p wx => ∃ x, Hid (Use3 wx (w.heap.size + 3) (w.heap.size + 1 + 1) (usesL bareB Q.n Q.it t i (k + 1)) (usesL prevB Q.n Q.it t i (k + 1)) (usesL aggB Q.n Q.it t i k) x1 x v3) ∧ Below (w.heap.size + 2) w4 wx)
          case first =>
            cases h1 : anyU prevB Q.n Q.it t i k
            · have HU := Lib.hid (uses_miss h1)
              go_wp2_with fail
              go_meet
              exact ⟨v2, Lib.hid (by rw [HU.out]; exact U1.out), hb1'⟩
            · have HU := Lib.hid (uses_hit h1)
              have z0 := blk_cell U1.out.blk (j := 1) rfl
              go_wp2_with (at_builtin; go_loud (refine wpList_append_lies _ rfl _ _ _ rfl (w.heap.size + 3) 3 i0 _ 1 8 Tryd.underlying27 hi0 hy0 hy1 hy2 rfl (by omega) _ _ _ rfl (World.ownsRow.alloc U1.out.o2 _) ⟨Y1.heap.size, 0, none⟩ 1 1 [.int .i64 (k : Nat)] rfl rfl (World.news_of_block (cs := #[.int .i64 (k : Nat)]) (t := 3) (fr := (0, 0)) (heap_alloc_new Y1 _)) (by simp [Value.oneCell']) (by omega) (by have : (usesL prevB Q.n Q.it t i k).length ≤ k := uses_len; unfold maxLen; omega) (by have : (usesL prevB Q.n Q.it t i k).length ≤ k := uses_len; omega) (by simp; omega) (Y1.heap.size + 1) (by simp) ?_; intro gg gcap w9 hown9 hgrow hat hlt9; have f9 := blk_cell (blk_grown (blk_alloc U1.out.blk _) hgrow (rowown_ne U1.out.o2 (show w.heap.size + 1 + 1 < w.heap.size + 3 by omega))) (j := 1) rfl; have r9 := blk_free (blk_grown (blk_alloc U1.out.blk _) hgrow (rowown_ne U1.out.o2 (show w.heap.size + 1 + 1 < w.heap.size + 3 by omega))) 1))
              have hb9 := ((hb1'.alloc (by omega) (.cells #[.int .i64 (k : Nat)] 3)).grown hgrow (by simp; omega) (fun x hx => by have := (U1.out.o2.lt x hx).1; omega)).setCell (p := ⟨w.heap.size + 1 + 1, 1, none⟩) (by simp) (.slice (some ⟨gg, 0, none⟩) ((usesL prevB Q.n Q.it t i k).length + 1) gcap)
              go_meet
              exact ⟨_, Lib.hid (by rw [HU.out]; exact U1.out.push2 (by omega) hown9 hgrow hat), hb9⟩
          case rest =>
          obtain ⟨x2, U2, hb2'⟩ := hcut
          obtain ⟨Y2, ey2⟩ : ∃ Y2 : World, Y2 = wc := ⟨_, rfl⟩
          subst ey2
          have hzB2 := hb2'.size
          cases h1 : anyU aggB Q.n Q.it t i k
          · have HU := Lib.hid (uses_miss h1)
            go_wp2_with fail
            go_roundw
            case rel => exact ⟨k + 1, x1, x2, v3, by omega, by go_num, Lib.hid (by rw [HU.out]; exact U2.out), hb2'⟩
            case measure => simp [intOf]; omega
          · have HU := Lib.hid (uses_hit h1)
            have z0 := blk_cell U2.out.blk (j := 2) rfl
            go_wp2_with (at_builtin; go_loud (refine wpList_append_lies _ rfl _ _ _ rfl (w.heap.size + 3) 3 i0 _ 1 8 Tryd.underlying27 hi0 hy0 hy1 hy2 rfl (by omega) _ _ _ rfl (World.ownsRow.alloc U2.out.o3 _) ⟨Y2.heap.size, 0, none⟩ 1 1 [.int .i64 (k : Nat)] rfl rfl (World.news_of_block (cs := #[.int .i64 (k : Nat)]) (t := 3) (fr := (0, 0)) (heap_alloc_new Y2 _)) (by simp [Value.oneCell']) (by omega) (by have : (usesL aggB Q.n Q.it t i k).length ≤ k := uses_len; unfold maxLen; omega) (by have : (usesL aggB Q.n Q.it t i k).length ≤ k := uses_len; omega) (by simp; omega) (Y2.heap.size + 1) (by simp) ?_; intro gg gcap w9 hown9 hgrow hat hlt9; have f9 := blk_cell (blk_grown (blk_alloc U2.out.blk _) hgrow (rowown_ne U2.out.o3 (show w.heap.size + 1 + 1 < w.heap.size + 3 by omega))) (j := 2) rfl; have r9 := blk_free (blk_grown (blk_alloc U2.out.blk _) hgrow (rowown_ne U2.out.o3 (show w.heap.size + 1 + 1 < w.heap.size + 3 by omega))) 2))
            have hb9 := ((hb2'.alloc (by omega) (.cells #[.int .i64 (k : Nat)] 3)).grown hgrow (by simp; omega) (fun x hx => by have := (U2.out.o3.lt x hx).1; omega)).setCell (p := ⟨w.heap.size + 1 + 1, 2, none⟩) (by simp) (.slice (some ⟨gg, 0, none⟩) ((usesL aggB Q.n Q.it t i k).length + 1) gcap)
            go_roundw
            case rel => exact ⟨k + 1, x1, x2, _, by omega, by go_num, Lib.hid (by rw [HU.out]; exact U2.out.push3 (by omega) hown9 hgrow hat), hb9⟩
            case measure => simp [intOf]; omega
    · obtain rfl : k = Q.n := by omega
      obtain ⟨A1, k1, rfl, _⟩ := rowown_shape U.out.o1
      obtain ⟨A2, k2, rfl, _⟩ := rowown_shape U.out.o2
      obtain ⟨A3, k3, rfl, _⟩ := rowown_shape U.out.o3
      have R1 := Lib.hid ((hb.block (w.heap.size + 1) (by omega)).trans B1.out)
      have UR := Lib.hid (U.out.row R1.out (by omega) #[.slice A1 (usesL bareB Q.n Q.it t m Q.n).length k1, .slice A2 (usesL prevB Q.n Q.it t m Q.n).length k2, .slice A3 (usesL aggB Q.n Q.it t m Q.n).length k3])
      have BF := Lib.hid (row_set R1.out #[.slice A1 (usesL bareB Q.n Q.it t m Q.n).length k1, .slice A2 (usesL prevB Q.n Q.it t m Q.n).length k2, .slice A3 (usesL aggB Q.n Q.it t m Q.n).length k3])
      have hbf := below_setRow (cs := #[.slice A1 (usesL bareB Q.n Q.it t m Q.n).length k1, .slice A2 (usesL prevB Q.n Q.it t m Q.n).length k2, .slice A3 (usesL aggB Q.n Q.it t m Q.n).length k3]) (HB.trans (hb.mono (by omega))) (Nat.le_succ w.heap.size)
      have UB := Lib.hid U.out.blk
      go_wp2_with (first | (refine wpList_load_row rfl 57 _ rfl (w.heap.size + 1 + 1) rfl 57 _ (0, 0) _ UB.out Tryd.underlying57 rfl (by kernel_rfl) ?_) | (refine wpList_store_row rfl 57 _ _ rfl (w.heap.size + 1) _ rfl rfl 57 _ R1.out (by kernel_rfl) rfl (by simp [Value.oneCell']) ?_))
      (try simp only [Exit.inBlock, Exit.then])
      generalize W1.setRow (w.heap.size + 1) _ = wf at *
      refine bodyPost_ret (v := .agg #[.slice A1 (usesL bareB Q.n Q.it t m Q.n).length k1, .slice A2 (usesL prevB Q.n Q.it t m Q.n).length k2, .slice A3 (usesL aggB Q.n Q.it t m Q.n).length k3]) ?_ rfl ?_
      · exact results_cell_row Tryd.results78 _ _ (w.heap.size + 1) 57 _ (0, 0) _ rfl BF.out Tryd.underlying57 rfl (by kernel_rfl)
      · exact ⟨_, _, _, rfl, hbf, own_wide UR.out.o1 (by omega), own_wide UR.out.o2 (by omega), own_wide UR.out.o3 (by omega)⟩
end Go.Proofs.YtagcbljfaflhoaaDoor

/-! ### Findings in memory (a list that grows, what it holds); the walk of sluiceref6.ofItems. -/
namespace Go.Proofs.YtagcbljfaflhoaaDoor
open Go.RowKit Go.ChangeShapes Go.WideShapes Go.ChangeAt Go.Deep Go.Joins
/-- A list of findings of the call's own. -/
def FndOwn (w : World) (B : Nat) (v : Value) (L : List Fnd) : Prop := w.ownsRow B 89 6 v L.length (flat (fndC L) 6 L.length)
section
variable {w w' w9 : World} {B : Nat} {v u : Value} {L : List Fnd} {x : Fnd} {o : Obj}
theorem FndOwn.nil (w : World) (B : Nat) : FndOwn w B (.slice none 0 0) [] := by
  unfold FndOwn
  rw [List.length_nil, flat_zero]
  exact World.ownsRow_nil _ _ _ _
theorem FndOwn.below (h : FndOwn w B v L) (hb : Below w.heap.size w w') : FndOwn w' B v L := rowown_below h hb
theorem FndOwn.le {B' : Nat} (h : FndOwn w B v L) (hB : B' ≤ B) : FndOwn w B' v L := ownsRow_le h hB
theorem FndOwn.push (h : FndOwn w B v L) (hown : w9.ownsRow B 89 6 u (L.length + 1) (flat (fndC L) 6 L.length ++ [.int .i64 x.rule, .int .i64 x.rank, .int .i64 x.code, .int .i64 x.part, .int .i64 x.index, .int .i64 x.sub])) : FndOwn w9 B u (L ++ [x]) := by
  unfold FndOwn
  rw [List.length_append, List.length_singleton, fnd_snoc]
  exact hown
theorem FndOwn.blk (h : FndOwn w B v L) (hg : (w.alloc o).grownBy w9 v.ownBlock) {b : Nat} {cs : Array Value} {T : TypeId} {fr : Nat × Nat} (hb : w.heap[b]? = some (.cells cs T fr)) (hT : T ≠ 89) : w9.heap[b]? = some (.cells cs T fr) :=
  blk_grown (blk_alloc hb o) hg (fun e => by
    obtain ⟨c, fz, h1⟩ := Lib.ownsRow_kind h b e
    rw [h1] at hb
    injection hb with hb
    injection hb with _ hb
    exact hT hb.symm)
theorem FndOwn.under {B0 : Nat} {w0 : World} (h : FndOwn w B v L) (hB : B0 ≤ B) (hb : Below B0 w0 w) (hs : B0 ≤ w.heap.size) (hg : (w.alloc o).grownBy w9 v.ownBlock) : Below B0 w0 w9 :=
  below_grown (hb.alloc hs o) hg (by simp; omega) (fun x hx => by have := (h.lt x hx).1; omega)
end
theorem found_lit (a b c d i s : Int) (w : World) : Calls Tryd.prog 91 #[.int .i64 a, .int .i64 b, .int .i64 c, .int .i64 d, .int .i64 i, .int .i64 s] w fun e w' => e = .returned (.agg #[.int .i64 a, .int .i64 b, .int .i64 c, .int .i64 d, .int .i64 i, .int .i64 s]) ∧ Below w.heap.size w w' := found_any ⟨a, b, c, d, i, s⟩ w
/-- The list holds just what is there. -/
def Holds (L : List Fnd) (M : Fnd → Prop) : Prop := ∀ x, x ∈ L ↔ M x
section
variable {L : List Fnd} {M M' : Fnd → Prop} {x : Fnd}
theorem Holds.push (h : Holds L M) (e : ∀ y, M' y ↔ M y ∨ y = x) : Holds (L ++ [x]) M' := fun y => by rw [List.mem_append, List.mem_singleton, h y, e y]
theorem Holds.same (h : Holds L M) (e : ∀ y, M' y ↔ M y) : Holds L M' := fun y => (h y).trans (e y).symm
theorem push_len {n : Nat} (h : L.length ≤ n) : (L ++ [x]).length ≤ n + 1 := by rw [List.length_append, List.length_singleton]; omega
end
/-- Sums. -/
def sumN (g : Nat → Nat) : Nat → Nat
  | 0 => 0
  | k + 1 => sumN g k + g k
theorem sumN_mono {g : Nat → Nat} {k n : Nat} (h : k ≤ n) : sumN g k ≤ sumN g n := by
  induction n with
  | zero => obtain rfl : k = 0 := by omega
            exact Nat.le_refl _
  | succ n ih =>
    by_cases e : k = n + 1
    · rw [e]; exact Nat.le_refl _
    · have := ih (by omega)
      simp only [sumN]
      omega
def gI (Q : Qry) (i : Nat) : Nat := (Q.it i).tn * ((Q.it i).tn + 1) + 2
section
variable {S : Sch} {Q : Qry} {i j k m : Nat} {y : Fnd} {L : List Fnd}
theorem cnt_m (hk : k < Q.n) (hS : sumN (gI Q) Q.n ≤ 2199023255552) (hm : m ≤ (Q.it k).tn) : 1 + sumN (gI Q) k + m * ((Q.it k).tn + 1) + 2 ≤ 2199023255553 := by
  have h1 : sumN (gI Q) (k + 1) ≤ sumN (gI Q) Q.n := sumN_mono hk
  have h2 : m * ((Q.it k).tn + 1) ≤ (Q.it k).tn * ((Q.it k).tn + 1) := Nat.mul_le_mul_right _ hm
  have e : sumN (gI Q) (k + 1) = sumN (gI Q) k + ((Q.it k).tn * ((Q.it k).tn + 1) + 2) := rfl
  omega
theorem cnt_k (hk : k ≤ Q.n) (hS : sumN (gI Q) Q.n ≤ 2199023255552) : sumN (gI Q) k ≤ 2199023255552 := Nat.le_trans (sumN_mono hk) hS
theorem cnt_in (h : L.length ≤ 1 + sumN (gI Q) k + m * ((Q.it k).tn + 1) + 1 + j) (hj : j ≤ m) (hm : m < (Q.it k).tn) (hk : k < Q.n) (hS : sumN (gI Q) Q.n ≤ 2199023255552) : L.length ≤ 2199023255560 := by
  have h1 := cnt_m (m := m + 1) hk hS hm
  have h2 : (m + 1) * ((Q.it k).tn + 1) = m * ((Q.it k).tn + 1) + ((Q.it k).tn + 1) := Nat.succ_mul _ _
  omega
theorem cnt_up (h : L.length ≤ 1 + sumN (gI Q) k + m * ((Q.it k).tn + 1) + 1 + m) (hm : m < (Q.it k).tn) : L.length ≤ 1 + sumN (gI Q) k + (m + 1) * ((Q.it k).tn + 1) := by
  have h2 : (m + 1) * ((Q.it k).tn + 1) = m * ((Q.it k).tn + 1) + ((Q.it k).tn + 1) := Nat.succ_mul _ _
  omega
theorem cnt_end (h : L.length ≤ 1 + sumN (gI Q) k + (Q.it k).tn * ((Q.it k).tn + 1) + j) (hj : j ≤ 2) : L.length ≤ 1 + sumN (gI Q) (k + 1) := by
  have e : sumN (gI Q) (k + 1) = sumN (gI Q) k + ((Q.it k).tn * ((Q.it k).tn + 1) + 2) := rfl
  omega
def repOk (x : Itm) : Bool := decide (1 ≤ x.lo ∧ x.lo ≤ x.hi ∧ x.hi ≤ 4)
theorem repOk_of {x : Itm} {lo hi : Int} {b : Bool} (h1 : x.lo = lo) (h2 : x.hi = hi) (h : decide (1 ≤ lo ∧ lo ≤ hi ∧ hi ≤ 4) = b) : repOk x = b := by subst h1 h2; exact h
def pItems (S : Sch) (Q : Qry) (k : Nat) (x : Fnd) : Prop := (10 < Q.n ∧ x = ⟨3, 0, 60, 1, 10, 0⟩) ∨ ∃ i, i < k ∧ mItem S Q i x
def pTy (S : Sch) (Q : Qry) (i j : Nat) (x : Fnd) : Prop := pItems S Q i x ∨ (∃ a, a < j ∧ typeI S ((Q.it i).ty a) < 0 ∧ x = ⟨4, 1, 61, 1, i, 0⟩) ∨ (∃ a b, b < a ∧ a < j ∧ ((Q.it i).ty a).toList = ((Q.it i).ty b).toList ∧ x = ⟨4, 2, 62, 1, i, 0⟩)
def pTw (S : Sch) (Q : Qry) (i j k : Nat) (x : Fnd) : Prop := pTy S Q i j x ∨ (typeI S ((Q.it i).ty j) < 0 ∧ x = ⟨4, 1, 61, 1, i, 0⟩) ∨ (∃ b, b < k ∧ ((Q.it i).ty j).toList = ((Q.it i).ty b).toList ∧ x = ⟨4, 2, 62, 1, i, 0⟩)
def pRep (S : Sch) (Q : Qry) (i : Nat) (x : Fnd) : Prop := pTy S Q i (Q.it i).tn x ∨ (¬ (1 ≤ (Q.it i).lo ∧ (Q.it i).lo ≤ (Q.it i).hi ∧ (Q.it i).hi ≤ 4) ∧ x = ⟨4, 3, 63, 1, i, 0⟩)
theorem pit_many (h : 10 < Q.n) : pItems S Q 0 y ↔ False ∨ y = ⟨3, 0, 60, 1, 10, 0⟩ := by
  constructor
  · rintro (⟨_, h⟩ | ⟨i, hi, _⟩)
    · exact .inr h
    · omega
  · rintro (h1 | h1)
    · exact h1.elim
    · exact .inl ⟨h, h1⟩
theorem pit_few (h : ¬ 10 < Q.n) : pItems S Q 0 y ↔ False := by
  constructor
  · rintro (⟨h1, _⟩ | ⟨i, hi, _⟩)
    · exact h h1
    · omega
  · exact False.elim
theorem pty_zero : pTy S Q i 0 y ↔ pItems S Q i y := by
  constructor
  · rintro (h | ⟨a, ha, _⟩ | ⟨a, b, _, ha, _⟩)
    · exact h
    · omega
    · omega
  · exact .inl
theorem ptw_neg (h : typeI S ((Q.it i).ty j) < 0) : pTw S Q i j 0 y ↔ pTy S Q i j y ∨ y = ⟨4, 1, 61, 1, i, 0⟩ := by
  constructor
  · rintro (h1 | ⟨_, h1⟩ | ⟨b, hb, _⟩)
    · exact .inl h1
    · exact .inr h1
    · omega
  · rintro (h1 | h1)
    · exact .inl h1
    · exact .inr (.inl ⟨h, h1⟩)
theorem ptw_pos (h : 0 ≤ typeI S ((Q.it i).ty j)) : pTw S Q i j 0 y ↔ pTy S Q i j y := by
  constructor
  · rintro (h1 | ⟨h1, _⟩ | ⟨b, hb, _⟩)
    · exact h1
    · omega
    · omega
  · exact .inl
theorem ptw_hit (h : ((Q.it i).ty j).toList = ((Q.it i).ty k).toList) : pTw S Q i j (k + 1) y ↔ pTw S Q i j k y ∨ y = ⟨4, 2, 62, 1, i, 0⟩ := by
  constructor
  · rintro (h1 | h1 | ⟨b, hb, _, e⟩)
    · exact .inl (.inl h1)
    · exact .inl (.inr (.inl h1))
    · exact .inr e
  · rintro ((h1 | h1 | ⟨b, hb, h2, e⟩) | h1)
    · exact .inl h1
    · exact .inr (.inl h1)
    · exact .inr (.inr ⟨b, by omega, h2, e⟩)
    · exact .inr (.inr ⟨k, by omega, h, h1⟩)
theorem ptw_miss (h : ¬ ((Q.it i).ty j).toList = ((Q.it i).ty k).toList) : pTw S Q i j (k + 1) y ↔ pTw S Q i j k y := by
  constructor
  · rintro (h1 | h1 | ⟨b, hb, h2, e⟩)
    · exact .inl h1
    · exact .inr (.inl h1)
    · by_cases hbk : b = k
      · subst hbk; exact absurd h2 h
      · exact .inr (.inr ⟨b, by omega, h2, e⟩)
  · rintro (h1 | h1 | ⟨b, hb, h2, e⟩)
    · exact .inl h1
    · exact .inr (.inl h1)
    · exact .inr (.inr ⟨b, by omega, h2, e⟩)
theorem pty_next : pTy S Q i (j + 1) y ↔ pTw S Q i j j y := by
  constructor
  · rintro (h1 | ⟨a, ha, h1, e⟩ | ⟨a, b, hb, ha, h1, e⟩)
    · exact .inl (.inl h1)
    · by_cases hj : a = j
      · subst hj; exact .inr (.inl ⟨h1, e⟩)
      · exact .inl (.inr (.inl ⟨a, by omega, h1, e⟩))
    · by_cases hj : a = j
      · subst hj; exact .inr (.inr ⟨b, hb, h1, e⟩)
      · exact .inl (.inr (.inr ⟨a, b, hb, by omega, h1, e⟩))
  · rintro ((h1 | ⟨a, ha, h1, e⟩ | ⟨a, b, hb, ha, h1, e⟩) | ⟨h1, e⟩ | ⟨b, hb, h1, e⟩)
    · exact .inl h1
    · exact .inr (.inl ⟨a, by omega, h1, e⟩)
    · exact .inr (.inr ⟨a, b, hb, by omega, h1, e⟩)
    · exact .inr (.inl ⟨j, by omega, h1, e⟩)
    · exact .inr (.inr ⟨j, b, hb, by omega, h1, e⟩)
theorem prep_hit (h : repOk (Q.it i) = false) : pRep S Q i y ↔ pTy S Q i (Q.it i).tn y ∨ y = ⟨4, 3, 63, 1, i, 0⟩ := by
  have h := of_decide_eq_false h
  constructor
  · rintro (h1 | ⟨_, h1⟩)
    · exact .inl h1
    · exact .inr h1
  · rintro (h1 | h1)
    · exact .inl h1
    · exact .inr ⟨h, h1⟩
theorem prep_miss (h : repOk (Q.it i) = true) : pRep S Q i y ↔ pTy S Q i (Q.it i).tn y := by
  have h := of_decide_eq_true h
  constructor
  · rintro (h1 | ⟨h1, _⟩)
    · exact h1
    · exact absurd h h1
  · exact .inl
theorem mitem_iff : pItems S Q (i + 1) y ↔ pRep S Q i y ∨ (itemI Q.n Q.it (Q.it i).vr < i ∧ y = ⟨4, 4, 64, 1, i, 0⟩) := by
  constructor
  · rintro (h1 | ⟨k, hk, h1⟩)
    · exact .inl (.inl (.inl (.inl h1)))
    · by_cases e : k = i
      · subst e
        rcases h1 with ⟨a, ha, h2, e⟩ | ⟨a, b, hb, ha, h2, e⟩ | ⟨h2, e⟩ | ⟨h2, e⟩
        · exact .inl (.inl (.inr (.inl ⟨a, ha, h2, e⟩)))
        · exact .inl (.inl (.inr (.inr ⟨a, b, hb, ha, h2, e⟩)))
        · exact .inl (.inr ⟨h2, e⟩)
        · exact .inr ⟨h2, e⟩
      · exact .inl (.inl (.inl (.inr ⟨k, by omega, h1⟩)))
  · rintro (((((h1 | ⟨k, hk, h1⟩) | ⟨a, ha, h2, e⟩ | ⟨a, b, hb, ha, h2, e⟩) | ⟨h2, e⟩)) | ⟨h2, e⟩)
    · exact .inl h1
    · exact .inr ⟨k, by omega, h1⟩
    · exact .inr ⟨i, by omega, .inl ⟨a, ha, h2, e⟩⟩
    · exact .inr ⟨i, by omega, .inr (.inl ⟨a, b, hb, ha, h2, e⟩)⟩
    · exact .inr ⟨i, by omega, .inr (.inr (.inl ⟨h2, e⟩))⟩
    · exact .inr ⟨i, by omega, .inr (.inr (.inr ⟨h2, e⟩))⟩
theorem pit_hit (h : itemI Q.n Q.it (Q.it i).vr < i) : pItems S Q (i + 1) y ↔ pRep S Q i y ∨ y = ⟨4, 4, 64, 1, i, 0⟩ := by
  rw [mitem_iff]
  constructor
  · rintro (h1 | ⟨_, h1⟩)
    · exact .inl h1
    · exact .inr h1
  · rintro (h1 | h1)
    · exact .inl h1
    · exact .inr ⟨h, h1⟩
theorem pit_miss (h : (i : Int) ≤ itemI Q.n Q.it (Q.it i).vr) : pItems S Q (i + 1) y ↔ pRep S Q i y := by
  rw [mitem_iff]
  constructor
  · rintro (h1 | ⟨h1, _⟩)
    · exact h1
    · omega
  · exact .inl
theorem mits_hit (h : allB (fun i => (Q.it i).neg) Q.n = true) : mItems S Q y ↔ pItems S Q Q.n y ∨ y = ⟨5, 0, 65, 1, 0, 0⟩ := by
  constructor
  · rintro (h1 | ⟨i, hi, h1⟩ | ⟨_, h1⟩)
    · exact .inl (.inl h1)
    · exact .inl (.inr ⟨i, hi, h1⟩)
    · exact .inr h1
  · rintro ((h1 | ⟨i, hi, h1⟩) | h1)
    · exact .inl h1
    · exact .inr (.inl ⟨i, hi, h1⟩)
    · exact .inr (.inr ⟨h, h1⟩)
theorem mits_miss (h : allB (fun i => (Q.it i).neg) Q.n = false) : mItems S Q y ↔ pItems S Q Q.n y := by
  constructor
  · rintro (h1 | ⟨i, hi, h1⟩ | ⟨h1, _⟩)
    · exact .inl h1
    · exact .inr ⟨i, hi, h1⟩
    · rw [h] at h1; cases h1
  · rintro (h1 | ⟨i, hi, h1⟩)
    · exact .inl h1
    · exact .inr (.inl ⟨i, hi, h1⟩)
end
theorem all_succ {p : Nat → Bool} {k : Nat} : allB p (k + 1) = (allB p k && p k) := by
  unfold allB
  rw [List.range_succ, List.all_append]
  simp
set_option maxRecDepth 100000 in
set_option maxHeartbeats 16000000 in
theorem ofItems_any (A : Option Addr) (cap : Nat) (S : Sch) (V : QryV) (Q : Qry) (w : World) (hS : TypRd w w.heap.size A S) (h : QryRd w w.heap.size V Q) (hsum : sumN (gI Q) Q.n ≤ 2199023255552) :
    Calls Tryd.prog 62 #[.agg #[.slice A S.n cap], .agg (qryArr V Q)] w fun e w' => ∃ v L, e = .returned v ∧ Below w.heap.size w w' ∧ FndOwn w' w.heap.size v L ∧ Holds L (mItems S Q) ∧ L.length ≤ 2199023255560 := by
  obtain ⟨aI, cI, aW, cW, aR, cR⟩ := V
  show Calls _ _ #[.agg #[.slice A S.n cap], .agg #[.slice aI Q.n cI, .int .i64 Q.mode, .int .i64 Q.after, .slice aW Q.wn cW, .int .i64 Q.within, .string Q.by_, .slice aR Q.m cR]] w _
  have hnI := h.rI.small
  obtain ⟨i1, hi1, hy0, hy1, hy2⟩ := info_parts infoFnd
  have hb0 := bnew (bnew (Below.refl w.heap.size w) (.cells #[.slice A S.n cap] 34)) (.cells #[.slice aI Q.n cI, .int .i64 Q.mode, .int .i64 Q.after, .slice aW Q.wn cW, .int .i64 Q.within, .string Q.by_, .slice aR Q.m cR] 40)
  have s0 := blk_alloc (blk_new w #[.slice A S.n cap] 34) (.cells #[.slice aI Q.n cI, .int .i64 Q.mode, .int .i64 Q.after, .slice aW Q.wn cW, .int .i64 Q.within, .string Q.by_, .slice aR Q.m cR] 40)
  have q0 := blk_new (w.alloc (.cells #[.slice A S.n cap] 34)) #[.slice aI Q.n cI, .int .i64 Q.mode, .int .i64 Q.after, .slice aW Q.wn cW, .int .i64 Q.within, .string Q.by_, .slice aR Q.m cR] 40
  rw [World.size_alloc] at q0
  have S0 := Lib.hid s0
  have Q0 := Lib.hid q0
  have HS := Lib.hid (hS.later hb0)
  have HQ := Lib.hid (h.later hb0)
  have HSUM := Lib.hid hsum
  clear hS h s0 q0 hsum
  go_enter Tryd.func62, Tryd.ntmps62
  go_upto_region 1 with fail
  generalize (w.alloc _).alloc _ = w0 at *
  have hzw0 : w.heap.size ≤ w0.heap.size := hb0.size
  have x0 := blk_cell Q0.out (j := 0) rfl
  go_upto_if 16 with fail
  go_cut [5] from 13 to 20 (fun v wx => ∃ L, Hid (FndOwn wx w0.heap.size v L) ∧ Hid (Holds L (pItems S Q 0)) ∧ Hid (L.length ≤ 1) ∧ Below w0.heap.size w0 wx)
  case first =>
    obtain ⟨LN, hLN⟩ : ∃ LN : List Fnd, LN = [] := ⟨_, rfl⟩
    have HN := Lib.hid (show FndOwn w0 w0.heap.size (.slice none 0 0) LN by rw [hLN]; exact FndOwn.nil w0 w0.heap.size)
    have hln : LN.length ≤ 5 := by rw [hLN]; exact Nat.zero_le _
    have HLN := Lib.hid hLN
    clear hLN
    by_cases h10 : 10 < Q.n
    · have h10' : (10 : Int) < (Q.n : Int) := by omega
      go_wp2_with fail
      refine (found_lit (3) (0) (60) (1) (10) (0) _).mono ?_
      rintro e wf ⟨rfl, hbf⟩
      have HLf := Lib.hid (FndOwn.below HN.out hbf)
      have hcf := bcall (Below.refl w0.heap.size w0) hbf
      have hzf := hcf.size
      go_wp2_with (at_builtin; go_loud (refine wpList_append_lies _ rfl _ _ _ rfl w0.heap.size 89 i1 _ 6 48 Tryd.underlying86 hi1 hy0 hy1 hy2 rfl (by omega) _ LN.length (flat (fndC LN) 6 LN.length) rfl (World.ownsRow.alloc HLf.out _) ⟨wf.heap.size, 0, none⟩ 1 1 [.int .i64 3, .int .i64 0, .int .i64 60, .int .i64 1, .int .i64 10, .int .i64 0] rfl rfl (World.news_of_block (cs := #[.int .i64 3, .int .i64 0, .int .i64 60, .int .i64 1, .int .i64 10, .int .i64 0]) (t := 89) (fr := (0, 0)) (heap_alloc_new wf _)) (by simp [Value.oneCell']) (by omega) (by unfold maxLen; omega) (by omega) (by simp; omega) (wf.heap.size + 1) (by simp) ?_; intro gg gcap w9 hown9 hgrow hat hlt9))
      have HL9 := Lib.hid (FndOwn.push (x := ⟨3, 0, 60, 1, 10, 0⟩) HLf.out hown9)
      have hb9 := FndOwn.under HLf.out (Nat.le_refl _) hcf hzf hgrow
      go_meet
      exact ⟨LN ++ [⟨3, 0, 60, 1, 10, 0⟩], HL9, Lib.hid (Holds.push (M := fun _ => False) (fun y => by rw [HLN.out]; simp) (fun y => pit_many h10)), Lib.hid (by rw [HLN.out]; simp), hb9⟩
    · have h10' : ¬ (10 : Int) < (Q.n : Int) := by omega
      go_wp2_with fail
      go_meet
      exact ⟨LN, HN, Lib.hid (Holds.same (M := fun _ => False) (fun y => by rw [HLN.out]; simp) (fun y => pit_few h10)), Lib.hid (by rw [HLN.out]; simp), Below.refl _ _⟩
  case rest =>
  obtain ⟨L0, HL0, HM0, HC0, hb00⟩ := hcut
  obtain ⟨wc0, ewc⟩ : ∃ w5 : World, w5 = wc := ⟨_, rfl⟩
  subst ewc
  clear x0
  go_wp2_with fail
  go_loopw [5, 6, 7] (fun v p i wr => ∃ (k : Nat) (L : List Fnd), k ≤ Q.n ∧ i = .int .i64 k ∧ p = .bool (!allB (fun i => (Q.it i).neg) k) ∧ Hid (FndOwn wr w0.heap.size v L) ∧ Hid (Holds L (pItems S Q k)) ∧ Hid (L.length ≤ 1 + sumN (gI Q) k) ∧ Below w0.heap.size w0 wr) (fun _ _ i _ => Q.n - (intOf i).toNat)
  case atStart => exact ⟨0, L0, Nat.zero_le _, rfl, rfl, HL0, HM0, HC0, hb00⟩
  case round =>
    clear HL0 HM0 HC0 hb00
    obtain ⟨k, L, hk, rfl, rfl, HL, HM, HC, hb⟩ := hrel
    obtain ⟨WA, e1⟩ : ∃ W1 : World, W1 = wr := ⟨_, rfl⟩
    subst e1
    have hzA := hb.size
    have SA1 := Lib.hid (blk_below S0.out hb)
    have QA1 := Lib.hid (blk_below Q0.out hb)
    have x0 := blk_cell QA1.out (j := 0) rfl
    by_cases hlt : k < Q.n
    · obtain ⟨ib, ioff, eI, hib, hci⟩ := HQ.out.rI.spot (by omega)
      have eI : aI = some ⟨ib, ioff, none⟩ := eI
      subst eI
      obtain ⟨d0, ⟨ta, tc, d1, _, _, hty⟩, d2, d3, d4⟩ := hci k hlt
      have g0 := (hb.cell (p := ⟨ib, ioff + k * 5, none⟩) hib).trans d0
      have g1 := (hb.cell (p := ⟨ib, ioff + k * 5 + 1, none⟩) hib).trans d1
      have g2 := (hb.cell (p := ⟨ib, ioff + k * 5 + 2, none⟩) hib).trans d2
      have g3 := (hb.cell (p := ⟨ib, ioff + k * 5 + 3, none⟩) hib).trans d3
      have g4 := (hb.cell (p := ⟨ib, ioff + k * 5 + 4, none⟩) hib).trans d4
      have htn := hty.1
      have I4 := Lib.hid (blk_new WA #[.bool (Q.it k).neg, .slice ta (Q.it k).tn tc, .string (Q.it k).vr, .int .i64 (Q.it k).lo, .int .i64 (Q.it k).hi] 80)
      have hb4' := bnew (Below.refl WA.heap.size WA) (.cells #[.bool (Q.it k).neg, .slice ta (Q.it k).tn tc, .string (Q.it k).vr, .int .i64 (Q.it k).lo, .int .i64 (Q.it k).hi] 80)
      have hb4 := bcall hb hb4'
      have HTY := Lib.hid hty
      have HL4 := Lib.hid (FndOwn.below HL.out hb4')
      clear hci hty d0 d1 d2 d3 d4
      go_upto_region 9 with fail
      generalize WA.alloc _ = w4 at *
      clear g0 g1 g2 g3 g4 x0 HL
      have z0 := blk_cell I4.out (j := 0) rfl
      go_cut [6] from 33 to 38 (fun p wx => p = .bool (!allB (fun i => (Q.it i).neg) (k + 1)) ∧ wx = w4)
      case first =>
        obtain ⟨pv, hpv⟩ : ∃ pv, allB (fun i => (Q.it i).neg) k = pv := ⟨_, rfl⟩
        obtain ⟨nv, hnv⟩ : ∃ nv, (Q.it k).neg = nv := ⟨_, rfl⟩
        have HP := Lib.hid (show allB (fun i => (Q.it i).neg) (k + 1) = (pv && nv) by rw [all_succ, hpv, hnv])
        rw [hpv]
        rw [hnv] at z0
        clear hpv hnv
        cases pv <;> cases nv
        all_goals
          go_wp2_with fail
          go_meet
          exact ⟨by rw [HP.out]; rfl, rfl⟩
      case rest =>
      obtain ⟨rfl, rfl⟩ := hcut
      clear z0
      go_wp2_with fail
      go_loopw [5, 9] (fun v j wr => ∃ (m : Nat) (L : List Fnd), m ≤ (Q.it k).tn ∧ j = .int .i64 m ∧ Hid (FndOwn wr w0.heap.size v L) ∧ Hid (Holds L (pTy S Q k m)) ∧ Hid (L.length ≤ 1 + sumN (gI Q) k + m * ((Q.it k).tn + 1)) ∧ Hid (wr.heap[WA.heap.size]? = some (.cells #[.bool (Q.it k).neg, .slice ta (Q.it k).tn tc, .string (Q.it k).vr, .int .i64 (Q.it k).lo, .int .i64 (Q.it k).hi] 80 (0, 0))) ∧ Below w0.heap.size w0 wr) (fun _ j _ => (Q.it k).tn - (intOf j).toNat)
      case atStart => exact ⟨0, L, Nat.zero_le _, rfl, HL4, Lib.hid (Holds.same HM.out fun y => pty_zero), Lib.hid (by have := HC.out; omega), I4, hb4⟩
      case round =>
        clear HL4 HM HC I4 SA1 QA1 hb hb4' hb4
        obtain ⟨m, L, hm, rfl, HL, HM, HC, IB, hbj⟩ := hrel
        obtain ⟨WB, e1⟩ : ∃ W1 : World, W1 = wr := ⟨_, rfl⟩
        subst e1
        have hzB := hbj.size
        have t1 := blk_cell IB.out (j := 1) rfl
        by_cases hlm : m < (Q.it k).tn
        · obtain ⟨tb, toff, eT, htb, htc⟩ := RowRd.spot1 (RowRd.later HTY.out hbj) (by omega)
          have HET := Lib.hid eT
          have t1 : WB.cell? ⟨WA.heap.size, 1, none⟩ = some (.slice (some ⟨tb, toff, none⟩) (Q.it k).tn tc) := by rw [← eT]; exact t1
          have d1 := htc m hlm
          have u1 := blk_cell (blk_below S0.out hbj) (j := 0) rfl
          have HSB := Lib.hid (HS.out.later hbj)
          obtain ⟨tI, htI⟩ : ∃ tI, typeI S ((Q.it k).ty m) = tI := ⟨_, rfl⟩
          have HTI := Lib.hid htI
          clear htc htI eT
          go_wp2_with fail
          go_region_held3 (fun w' => w'.cell? ⟨w.heap.size, 0, none⟩ = some (.slice A S.n cap) ∧ w'.cell? ⟨WA.heap.size, 1, none⟩ = some (.slice (some ⟨tb, toff, none⟩) (Q.it k).tn tc) ∧ w'.cell? ⟨tb, toff + m, none⟩ = some (.string ((Q.it k).ty m)) ∧ Below WB.heap.size WB w')
            (first
              | exact ⟨u1, t1, d1, (Below.refl _ _).drew⟩
              | (go_split_ands; exact ⟨rd_later (by assumption) hbz, rd_later (by assumption) hbz, rd_later (by assumption) hbz, bcall (by assumption) hbz⟩))
            (first
              | (go_at_call 92; go_split_ands; refine (refTypeOf_any A cap S ((Q.it k).ty m) _ (HSB.out.later (by assumption))).mono ?_; rw [HTI.out]; rintro e wz ⟨rfl, hbz⟩))
          go_split_ands
          have hb5 : Below WB.heap.size WB wz := by assumption
          have hb5' := bcall hbj hb5
          have HL5 := Lib.hid (FndOwn.below HL.out hb5)
          have IB5 := Lib.hid (blk_below IB.out hb5)
          obtain ⟨WC, e1⟩ : ∃ W1 : World, W1 = wz := ⟨_, rfl⟩
          subst e1
          clear t1 d1 u1 HL IB
          go_upto_if 54 with fail
          go_cut [5] from 39 to 80 (fun v wx => ∃ L, Hid (FndOwn wx w0.heap.size v L) ∧ Hid (Holds L (pTw S Q k m 0)) ∧ Hid (L.length ≤ 1 + sumN (gI Q) k + m * ((Q.it k).tn + 1) + 1) ∧ Hid (wx.heap[WA.heap.size]? = some (.cells #[.bool (Q.it k).neg, .slice ta (Q.it k).tn tc, .string (Q.it k).vr, .int .i64 (Q.it k).lo, .int .i64 (Q.it k).hi] 80 (0, 0))) ∧ Below w0.heap.size w0 wx)
          case first =>
            have hl : L.length ≤ 2199023255560 := by have := HC.out; have := cnt_m (m := m) hlt HSUM.out (by omega); omega
            by_cases hneg : tI < 0
            · have HNG := Lib.hid (show typeI S ((Q.it k).ty m) < 0 by rw [HTI.out]; exact hneg)
              go_wp2_with fail
              refine (found_lit (4) (1) (61) (1) (k) (0) _).mono ?_
              rintro e wf ⟨rfl, hbf⟩
              have HLf := Lib.hid (FndOwn.below HL5.out hbf)
              have hcf := bcall hb5' hbf
              have hzf := hcf.size
              have IBf := Lib.hid (blk_below IB5.out hbf)
              go_wp2_with (at_builtin; go_loud (refine wpList_append_lies _ rfl _ _ _ rfl w0.heap.size 89 i1 _ 6 48 Tryd.underlying86 hi1 hy0 hy1 hy2 rfl (by omega) _ L.length (flat (fndC L) 6 L.length) rfl (World.ownsRow.alloc HLf.out _) ⟨wf.heap.size, 0, none⟩ 1 1 [.int .i64 4, .int .i64 1, .int .i64 61, .int .i64 1, .int .i64 k, .int .i64 0] rfl rfl (World.news_of_block (cs := #[.int .i64 4, .int .i64 1, .int .i64 61, .int .i64 1, .int .i64 k, .int .i64 0]) (t := 89) (fr := (0, 0)) (heap_alloc_new wf _)) (by simp [Value.oneCell']) (by omega) (by unfold maxLen; omega) (by omega) (by simp; omega) (wf.heap.size + 1) (by simp) ?_; intro gg gcap w9 hown9 hgrow hat hlt9))
              have HL9 := Lib.hid (FndOwn.push (x := ⟨4, 1, 61, 1, k, 0⟩) HLf.out hown9)
              have hb9 := FndOwn.under HLf.out (Nat.le_refl _) hcf hzf hgrow
              go_meet
              exact ⟨L ++ [⟨4, 1, 61, 1, k, 0⟩], HL9, Lib.hid (Holds.push HM.out fun y => ptw_neg HNG.out), Lib.hid (push_len HC.out), Lib.hid (FndOwn.blk HLf.out hgrow IBf.out (by decide)), hb9⟩
            · have HNG := Lib.hid (show 0 ≤ typeI S ((Q.it k).ty m) by rw [HTI.out]; omega)
              go_wp2_with fail
              go_meet
              exact ⟨L, HL5, Lib.hid (Holds.same HM.out fun y => ptw_pos HNG.out), Lib.hid (by have := HC.out; omega), IB5, hb5'⟩
          case rest =>
          obtain ⟨L1, HL1, HM1, HC1, IB1, hb1⟩ := hcut
          obtain ⟨wc1, ewc⟩ : ∃ w5 : World, w5 = wc := ⟨_, rfl⟩
          subst ewc
          clear HL5 HM HC IB5 hb5 hb5' HTI HSB
          go_wp2_with fail
          go_loopw [5, 11] (fun v q wr => ∃ (z : Nat) (L : List Fnd), z ≤ m ∧ q = .int .i64 z ∧ Hid (FndOwn wr w0.heap.size v L) ∧ Hid (Holds L (pTw S Q k m z)) ∧ Hid (L.length ≤ 1 + sumN (gI Q) k + m * ((Q.it k).tn + 1) + 1 + z) ∧ Hid (wr.heap[WA.heap.size]? = some (.cells #[.bool (Q.it k).neg, .slice ta (Q.it k).tn tc, .string (Q.it k).vr, .int .i64 (Q.it k).lo, .int .i64 (Q.it k).hi] 80 (0, 0))) ∧ Below w0.heap.size w0 wr) (fun _ q _ => m - (intOf q).toNat)
          case atStart => exact ⟨0, L1, Nat.zero_le _, rfl, HL1, HM1, HC1, IB1, hb1⟩
          case round =>
            clear HL1 HM1 HC1 IB1 hb1
            obtain ⟨z, L, hz, rfl, HL, HM, HC, IB, hbq⟩ := hrel
            obtain ⟨WD, e1⟩ : ∃ W1 : World, W1 = wr := ⟨_, rfl⟩
            subst e1
            have hzD := hbq.size
            by_cases hlz : z < m
            · have t1 : WD.cell? ⟨WA.heap.size, 1, none⟩ = some (.slice (some ⟨tb, toff, none⟩) (Q.it k).tn tc) := by rw [← HET.out]; exact blk_cell IB.out (j := 1) rfl
              obtain ⟨tb', toff', eT', _, htc⟩ := RowRd.spot1 (RowRd.later HTY.out hbq) (by omega)
              have eT := HET.out.symm.trans eT'
              clear eT'
              injection eT with eT
              injection eT with e1 e2
              subst e1 e2
              have d1 := htc m hlm
              have d2 := htc z (by omega)
              clear htc
              obtain ⟨bq, heq⟩ : ∃ bq, (((Q.it k).ty m).toList == ((Q.it k).ty z).toList) = bq := ⟨_, rfl⟩
              cases bq
              · have HEQ := Lib.hid (show ¬ ((Q.it k).ty m).toList = ((Q.it k).ty z).toList by rw [beq_eq_false_iff_ne] at heq; exact heq)
                go_wp2_with fail
                go_quiet (fail)
                go_wp2_with fail
                go_roundw
                case rel => exact ⟨z + 1, L, by omega, by go_num, Lib.hid (FndOwn.below HL.out (bdrewN (Below.refl _ _) _)), Lib.hid (Holds.same HM.out fun y => ptw_miss HEQ.out), Lib.hid (by have := HC.out; omega), Lib.hid (blk_below IB.out (bdrewN (Below.refl _ _) _)), bdrewN hbq _⟩
                case measure => simp [intOf]; omega
              · have HEQ := Lib.hid (show ((Q.it k).ty m).toList = ((Q.it k).ty z).toList by rw [beq_iff_eq] at heq; exact heq)
                have hl : L.length ≤ 2199023255560 := cnt_in HC.out (by omega) hlm hlt HSUM.out
                go_wp2_with fail
                go_quiet (fail)
                obtain ⟨wq, ewq⟩ : ∃ wq : World, wq = WD.drewN nq := ⟨_, rfl⟩
                have hbqq : Below WD.heap.size WD wq := by rw [ewq]; exact bdrewN (Below.refl _ _) _
                rw [← ewq]
                clear ewq t1 d1 d2 heq
                have HLq := Lib.hid (FndOwn.below HL.out hbqq)
                have hbq2 := bcall hbq hbqq
                have IBq := Lib.hid (blk_below IB.out hbqq)
                go_wp2_with fail
                refine (found_lit (4) (2) (62) (1) (k) (0) _).mono ?_
                rintro e wf ⟨rfl, hbf⟩
                have HLf := Lib.hid (FndOwn.below HLq.out hbf)
                have hcf := bcall hbq2 hbf
                have hzf := hcf.size
                have IBf := Lib.hid (blk_below IBq.out hbf)
                go_wp2_with (at_builtin; go_loud (refine wpList_append_lies _ rfl _ _ _ rfl w0.heap.size 89 i1 _ 6 48 Tryd.underlying86 hi1 hy0 hy1 hy2 rfl (by omega) _ L.length (flat (fndC L) 6 L.length) rfl (World.ownsRow.alloc HLf.out _) ⟨wf.heap.size, 0, none⟩ 1 1 [.int .i64 4, .int .i64 2, .int .i64 62, .int .i64 1, .int .i64 k, .int .i64 0] rfl rfl (World.news_of_block (cs := #[.int .i64 4, .int .i64 2, .int .i64 62, .int .i64 1, .int .i64 k, .int .i64 0]) (t := 89) (fr := (0, 0)) (heap_alloc_new wf _)) (by simp [Value.oneCell']) (by omega) (by unfold maxLen; omega) (by omega) (by simp; omega) (wf.heap.size + 1) (by simp) ?_; intro gg gcap w9 hown9 hgrow hat hlt9))
                have HL9 := Lib.hid (FndOwn.push (x := ⟨4, 2, 62, 1, k, 0⟩) HLf.out hown9)
                have hb9 := FndOwn.under HLf.out (Nat.le_refl _) hcf hzf hgrow
                go_roundw
                case rel => exact ⟨z + 1, L ++ [⟨4, 2, 62, 1, k, 0⟩], by omega, by go_num, HL9, Lib.hid (Holds.push HM.out fun y => ptw_hit HEQ.out), Lib.hid (by have := push_len (x := ⟨4, 2, 62, 1, k, 0⟩) HC.out; omega), Lib.hid (FndOwn.blk HLf.out hgrow IBf.out (by decide)), hb9⟩
                case measure => simp [intOf]; omega
            · obtain rfl : m = z := by omega
              have HM2 := Lib.hid (Holds.same HM.out fun y => pty_next)
              have HC2 := Lib.hid (cnt_up HC.out hlm)
              clear HM HC
              go_wp2_with fail
              go_roundw
              case rel => exact ⟨m + 1, L, by omega, by go_num, HL, HM2, HC2, IB, hbq⟩
              case measure => simp [intOf]; omega
        · obtain rfl : m = (Q.it k).tn := by omega
          have z3 := blk_cell IB.out (j := 3) rfl
          have z4 := blk_cell IB.out (j := 4) rfl
          obtain ⟨lo, hlo⟩ : ∃ lo, (Q.it k).lo = lo := ⟨_, rfl⟩
          obtain ⟨hi, hhi⟩ : ∃ hi, (Q.it k).hi = hi := ⟨_, rfl⟩
          obtain ⟨rb, hrb⟩ : ∃ rb : Bool, repOk (Q.it k) = rb := ⟨_, rfl⟩
          have HRQ := Lib.hid hrb
          have HREP := Lib.hid (fun b (hd : decide (1 ≤ lo ∧ lo ≤ hi ∧ hi ≤ 4) = b) => hrb.symm.trans (repOk_of hlo hhi hd))
          rw [hlo] at z3
          rw [hhi] at z4
          clear hlo hhi hrb
          go_upto_region 21 with fail
          go_cut [95] from 81 to 95 (fun b wx => b = .bool (!rb) ∧ wx = WB)
          case first =>
            by_cases h1 : lo < 1
            · go_wp2_with fail
              go_meet
              exact ⟨by rw [HREP.out false (decide_eq_false (by omega))]; rfl, rfl⟩
            · by_cases h2 : hi < lo
              · go_wp2_with fail
                go_meet
                exact ⟨by rw [HREP.out false (decide_eq_false (by omega))]; rfl, rfl⟩
              · by_cases h3 : 4 < hi
                · go_wp2_with fail
                  go_meet
                  exact ⟨by rw [HREP.out false (decide_eq_false (by omega))]; rfl, rfl⟩
                · go_wp2_with fail
                  go_meet
                  exact ⟨by rw [HREP.out true (decide_eq_true (by omega))]; rfl, rfl⟩
          case rest =>
          obtain ⟨rfl, rfl⟩ := hcut
          clear z3 z4 t1 HREP
          go_upto_if 95 with fail
          go_cut [5] from 21 to 112 (fun v wx => ∃ L, Hid (FndOwn wx w0.heap.size v L) ∧ Hid (Holds L (pRep S Q k)) ∧ Hid (L.length ≤ 1 + sumN (gI Q) k + (Q.it k).tn * ((Q.it k).tn + 1) + 1) ∧ Hid (wx.heap[WA.heap.size]? = some (.cells #[.bool (Q.it k).neg, .slice ta (Q.it k).tn tc, .string (Q.it k).vr, .int .i64 (Q.it k).lo, .int .i64 (Q.it k).hi] 80 (0, 0))) ∧ Below w0.heap.size w0 wx)
          case first =>
            have hl : L.length ≤ 2199023255560 := by have := HC.out; have := cnt_m hlt HSUM.out (Nat.le_refl (Q.it k).tn); omega
            cases rb
            · have HNG := HRQ
              go_wp2_with fail
              refine (found_lit (4) (3) (63) (1) (k) (0) _).mono ?_
              rintro e wf ⟨rfl, hbf⟩
              have HLf := Lib.hid (FndOwn.below HL.out hbf)
              have hcf := bcall hbj hbf
              have hzf := hcf.size
              have IBf := Lib.hid (blk_below IB.out hbf)
              go_wp2_with (at_builtin; go_loud (refine wpList_append_lies _ rfl _ _ _ rfl w0.heap.size 89 i1 _ 6 48 Tryd.underlying86 hi1 hy0 hy1 hy2 rfl (by omega) _ L.length (flat (fndC L) 6 L.length) rfl (World.ownsRow.alloc HLf.out _) ⟨wf.heap.size, 0, none⟩ 1 1 [.int .i64 4, .int .i64 3, .int .i64 63, .int .i64 1, .int .i64 k, .int .i64 0] rfl rfl (World.news_of_block (cs := #[.int .i64 4, .int .i64 3, .int .i64 63, .int .i64 1, .int .i64 k, .int .i64 0]) (t := 89) (fr := (0, 0)) (heap_alloc_new wf _)) (by simp [Value.oneCell']) (by omega) (by unfold maxLen; omega) (by omega) (by simp; omega) (wf.heap.size + 1) (by simp) ?_; intro gg gcap w9 hown9 hgrow hat hlt9))
              have HL9 := Lib.hid (FndOwn.push (x := ⟨4, 3, 63, 1, k, 0⟩) HLf.out hown9)
              have hb9 := FndOwn.under HLf.out (Nat.le_refl _) hcf hzf hgrow
              go_meet
              exact ⟨L ++ [⟨4, 3, 63, 1, k, 0⟩], HL9, Lib.hid (Holds.push HM.out fun y => prep_hit HNG.out), Lib.hid (push_len HC.out), Lib.hid (FndOwn.blk HLf.out hgrow IBf.out (by decide)), hb9⟩
            · have HNG := HRQ
              go_wp2_with fail
              go_meet
              exact ⟨L, HL, Lib.hid (Holds.same HM.out fun y => prep_miss HNG.out), Lib.hid (by have := HC.out; omega), IB, hbj⟩
          case rest =>
          obtain ⟨L2, HL2, HM2, HC2, IB2, hb2⟩ := hcut
          obtain ⟨wc2, ewc⟩ : ∃ w5 : World, w5 = wc := ⟨_, rfl⟩
          subst ewc
          clear HL HM HC IB hbj HRQ
          obtain ⟨y0, y1, y2, y3, y4, y5, y6⟩ := blk7 (blk_below Q0.out hb2)
          have z2 := blk_cell IB2.out (j := 2) rfl
          obtain ⟨fI, hfI⟩ : ∃ fI, itemI Q.n Q.it (Q.it k).vr = fI := ⟨_, rfl⟩
          have HFI := Lib.hid hfI
          clear hfI
          go_wp2_with fail
          refine (refItemOf_any ⟨some ⟨ib, ioff, none⟩, cI, aW, cW, aR, cR⟩ Q (Q.it k).vr _ (HQ.out.later hb2)).mono ?_
          rw [HFI.out]
          rintro e w6 ⟨rfl, hb6⟩
          obtain ⟨WE, e1⟩ : ∃ W1 : World, W1 = w6 := ⟨_, rfl⟩
          subst e1
          have HLe := Lib.hid (FndOwn.below HL2.out hb6)
          have hbe := bcall hb2 hb6
          have hl : L2.length ≤ 2199023255560 := by have := HC2.out; have := cnt_m hlt HSUM.out (Nat.le_refl (Q.it k).tn); omega
          clear y0 y1 y2 y3 y4 y5 y6 z2
          by_cases hfk : fI < k
          · have HFK := Lib.hid (show itemI Q.n Q.it (Q.it k).vr < k by rw [HFI.out]; exact hfk)
            go_wp2_with fail
            refine (found_lit (4) (4) (64) (1) (k) (0) _).mono ?_
            rintro e wf ⟨rfl, hbf⟩
            have HLf := Lib.hid (FndOwn.below HLe.out hbf)
            have hcf := bcall hbe hbf
            have hzf := hcf.size
            go_wp2_with (at_builtin; go_loud (refine wpList_append_lies _ rfl _ _ _ rfl w0.heap.size 89 i1 _ 6 48 Tryd.underlying86 hi1 hy0 hy1 hy2 rfl (by omega) _ L2.length (flat (fndC L2) 6 L2.length) rfl (World.ownsRow.alloc HLf.out _) ⟨wf.heap.size, 0, none⟩ 1 1 [.int .i64 4, .int .i64 4, .int .i64 64, .int .i64 1, .int .i64 k, .int .i64 0] rfl rfl (World.news_of_block (cs := #[.int .i64 4, .int .i64 4, .int .i64 64, .int .i64 1, .int .i64 k, .int .i64 0]) (t := 89) (fr := (0, 0)) (heap_alloc_new wf _)) (by simp [Value.oneCell']) (by omega) (by unfold maxLen; omega) (by omega) (by simp; omega) (wf.heap.size + 1) (by simp) ?_; intro gg gcap w9 hown9 hgrow hat hlt9))
            have HL9 := Lib.hid (FndOwn.push (x := ⟨4, 4, 64, 1, k, 0⟩) HLf.out hown9)
            have hb9 := FndOwn.under HLf.out (Nat.le_refl _) hcf hzf hgrow
            go_roundw
            case rel => exact ⟨k + 1, L2 ++ [⟨4, 4, 64, 1, k, 0⟩], by omega, by go_num, rfl, HL9, Lib.hid (Holds.push HM2.out fun y => pit_hit HFK.out), Lib.hid (cnt_end (j := 2) (push_len HC2.out) (Nat.le_refl _)), hb9⟩
            case measure => simp [intOf]; omega
          · have HFK := Lib.hid (show (k : Int) ≤ itemI Q.n Q.it (Q.it k).vr by rw [HFI.out]; omega)
            go_wp2_with fail
            go_roundw
            case rel => exact ⟨k + 1, L2, by omega, by go_num, rfl, HLe, Lib.hid (Holds.same HM2.out fun y => pit_miss HFK.out), Lib.hid (cnt_end (j := 1) HC2.out (by omega)), hbe⟩
            case measure => simp [intOf]; omega
    · obtain rfl : k = Q.n := by omega
      obtain ⟨pv, hpv⟩ : ∃ pv, allB (fun i => (Q.it i).neg) Q.n = pv := ⟨_, rfl⟩
      have HPV := Lib.hid hpv
      have hl : L.length ≤ 2199023255554 := by have := HC.out; have := cnt_k (Nat.le_refl Q.n) HSUM.out; omega
      rw [hpv]
      clear hpv
      cases pv
      · go_wp2_with fail
        go_ret
        exact ⟨_, L, rfl, bcall hb0 hb, FndOwn.le HL.out hzw0, Holds.same HM.out fun y => mits_miss HPV.out, by omega⟩
      · skip
        go_wp2_with fail
        refine (found_lit (5) (0) (65) (1) (0) (0) _).mono ?_
        rintro e wf ⟨rfl, hbf⟩
        have HLf := Lib.hid (FndOwn.below HL.out hbf)
        have hcf := bcall hb hbf
        have hzf := hcf.size
        go_wp2_with (at_builtin; go_loud (refine wpList_append_lies _ rfl _ _ _ rfl w0.heap.size 89 i1 _ 6 48 Tryd.underlying86 hi1 hy0 hy1 hy2 rfl (by omega) _ L.length (flat (fndC L) 6 L.length) rfl (World.ownsRow.alloc HLf.out _) ⟨wf.heap.size, 0, none⟩ 1 1 [.int .i64 5, .int .i64 0, .int .i64 65, .int .i64 1, .int .i64 0, .int .i64 0] rfl rfl (World.news_of_block (cs := #[.int .i64 5, .int .i64 0, .int .i64 65, .int .i64 1, .int .i64 0, .int .i64 0]) (t := 89) (fr := (0, 0)) (heap_alloc_new wf _)) (by simp [Value.oneCell']) (by omega) (by unfold maxLen; omega) (by omega) (by simp; omega) (wf.heap.size + 1) (by simp) ?_; intro gg gcap w9 hown9 hgrow hat hlt9))
        have HL9 := Lib.hid (FndOwn.push (x := ⟨5, 0, 65, 1, 0, 0⟩) HLf.out hown9)
        have hb9 := FndOwn.under HLf.out (Nat.le_refl _) hcf hzf hgrow
        go_ret
        exact ⟨.slice (some ⟨gg, 0, none⟩) (L.length + 1) gcap, L ++ [⟨5, 0, 65, 1, 0, 0⟩], rfl, bcall hb0 hb9, FndOwn.le HL9.out hzw0, Holds.push HM.out fun y => mits_hit HPV.out, by rw [List.length_append, List.length_singleton]; omega⟩
end Go.Proofs.YtagcbljfaflhoaaDoor

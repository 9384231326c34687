/-
  The tree (c AND d): plain: its shape, its conjuncts, what is wrong with it as a query's WHERE.
-/
import Derived.Test.YtagcbljfaflhoaaDoorCheckOk
import Derived.Test.YtagcbljfaflhoaaDoorTreeMake
set_option linter.unusedSimpArgs false
set_option linter.unusedVariables false
namespace Go.Proofs.YtagcbljfaflhoaaDoor
/-- A node, its operands' places counted from further up. -/
def upN (x : Nod) (d : Nat) : Nod := ⟨x.op, x.n, x.vr, x.at_, if 0 ≤ x.a then x.a + d else x.a, if 0 ≤ x.b then x.b + d else x.b⟩
/-- (c AND d). -/
def bothF (cn : Nat) (cf : Nat → Nod) (dn : Nat) (df : Nat → Nod) (i : Nat) : Nod :=
  if i < cn then cf i else if i < cn + dn then upN (df (i - cn)) cn else ⟨25, 0, .empty, .empty, (cn : Int) - 1, ((cn + dn : Nat) : Int) - 1⟩
def bothL (cn : Nat) (lc : Nat → Nat) (dn : Nat) (ld : Nat → Nat) (i : Nat) : Nat := if i < cn then lc i else if i < cn + dn then cn + ld (i - cn) else 0
section
variable {cn dn : Nat} {cf df : Nat → Nod} {lc ld : Nat → Nat}
theorem both_c {i : Nat} (h : i < cn) : bothF cn cf dn df i = cf i := by rw [bothF, if_pos h]
theorem both_d {i : Nat} (h : i < dn) : bothF cn cf dn df (cn + i) = upN (df i) cn := by
  rw [bothF, if_neg (by omega), if_pos (by omega), show cn + i - cn = i by omega]
theorem both_last : bothF cn cf dn df (cn + dn) = ⟨25, 0, .empty, .empty, (cn : Int) - 1, ((cn + dn : Nat) : Int) - 1⟩ := by
  rw [bothF, if_neg (by omega), if_neg (by omega)]
theorem bothL_c {i : Nat} (h : i < cn) : bothL cn lc dn ld i = lc i := by rw [bothL, if_pos h]
theorem bothL_d {i : Nat} (h : i < dn) : bothL cn lc dn ld (cn + i) = cn + ld i := by
  rw [bothL, if_neg (by omega), if_pos (by omega), show cn + i - cn = i by omega]
theorem bothL_last : bothL cn lc dn ld (cn + dn) = 0 := by rw [bothL, if_neg (by omega), if_neg (by omega)]
theorem both_shp (hc : Shp cn cf lc) (hd : Shp dn df ld) (h0 : 0 < cn) (h1 : 0 < dn) (hc0 : lc (cn - 1) = 0) (hd0 : ld (dn - 1) = 0) : Shp (cn + dn + 1) (bothF cn cf dn df) (bothL cn lc dn ld) := by
  have key : ∀ j, j < cn + dn + 1 → j < cn ∨ (∃ i, i < dn ∧ j = cn + i) ∨ j = cn + dn := by
    intro j hj
    rcases Nat.lt_or_ge j cn with h | h
    · exact .inl h
    · rcases Nat.lt_or_ge j (cn + dn) with h2 | h2
      · exact .inr (.inl ⟨j - cn, by omega, by omega⟩)
      · exact .inr (.inr (by omega))
  refine ⟨fun j hj => ?_, fun j hj => ?_⟩
  · rcases key j hj with h | ⟨i, h, rfl⟩ | rfl
    · rw [bothL_c h]; exact hc.le j h
    · rw [bothL_d h]; have := hd.le i h; omega
    · rw [bothL_last]; omega
  · rcases key j hj with h | ⟨i, h, rfl⟩ | rfl
    · rw [both_c h]
      have hle := hc.le
      rcases hc.kind j h with ⟨k0, ha, hb, hl⟩ | ⟨k1, k2, ha, hb, hl⟩ | ⟨k1, k2, hb, k3, ha, hl⟩
      · exact .inl ⟨k0, ha, hb, by rw [bothL_c h]; exact hl⟩
      · exact .inr (.inl ⟨k1, k2, ha, hb, by rw [bothL_c h, bothL_c (by omega)]; exact hl⟩)
      · have := hle (j - 1) (by omega)
        exact .inr (.inr ⟨k1, k2, hb, by rw [bothL_c (by omega)]; exact k3, by rw [bothL_c (by omega)]; exact ha, by rw [bothL_c h, bothL_c (i := j - 1) (by omega), bothL_c (by omega)]; exact hl⟩)
    · rw [both_d h]
      have hle := hd.le
      rcases hd.kind i h with ⟨k0, ha, hb, hl⟩ | ⟨k1, k2, ha, hb, hl⟩ | ⟨k1, k2, hb, k3, ha, hl⟩
      · refine .inl ⟨k0, ?_, ?_, by rw [bothL_d h, hl]⟩
        · show (if 0 ≤ (df i).a then (df i).a + cn else (df i).a) = -1
          rw [if_neg (by omega)]; exact ha
        · show (if 0 ≤ (df i).b then (df i).b + cn else (df i).b) = -1
          rw [if_neg (by omega)]; exact hb
      · refine .inr (.inl ⟨k1, by omega, ?_, ?_, ?_⟩)
        · show (if 0 ≤ (df i).a then (df i).a + cn else (df i).a) = ((cn + i : Nat) : Int) - 1
          rw [if_pos (by omega)]; omega
        · show (if 0 ≤ (df i).b then (df i).b + cn else (df i).b) = -1
          rw [if_neg (by omega)]; exact hb
        · rw [bothL_d h, show cn + i - 1 = cn + (i - 1) by omega, bothL_d (by omega), hl]
      · have hq := hle (i - 1) (by omega)
        have e1 : cn + i - 1 = cn + (i - 1) := by omega
        refine .inr (.inr ⟨k1, by omega, ?_, ?_, ?_, ?_⟩)
        · show (if 0 ≤ (df i).b then (df i).b + cn else (df i).b) = ((cn + i : Nat) : Int) - 1
          rw [if_pos (by omega)]; omega
        · rw [e1, bothL_d (by omega)]; omega
        · show (if 0 ≤ (df i).a then (df i).a + cn else (df i).a) = _
          rw [e1, bothL_d (by omega), if_pos (by omega)]; omega
        · rw [bothL_d h, e1, bothL_d (i := i - 1) (by omega), show cn + ld (i - 1) - 1 = cn + (ld (i - 1) - 1) by omega, bothL_d (by omega), hl]
    · rw [both_last]
      have e1 : cn + dn - 1 = cn + (dn - 1) := by omega
      refine .inr (.inr ⟨rfl, by omega, by show ((cn + dn : Nat) : Int) - 1 = _; omega, ?_, ?_, ?_⟩)
      · rw [e1, bothL_d (by omega)]; omega
      · show (cn : Int) - 1 = _
        rw [e1, bothL_d (by omega), hd0]; omega
      · rw [bothL_last, e1, bothL_d (i := dn - 1) (by omega), hd0, bothL_c (by omega), show cn + 0 - 1 = cn - 1 by omega, hc0]
theorem both_tree (hc : treeB cn cf = true) (hd : treeB dn df = true) : treeB (cn + dn + 1) (bothF cn cf dn df) = true ∧ ∀ j, j < cn + dn + 1 → begF (cn + dn + 1) (bothF cn cf dn df) j = bothL cn (begF cn cf) dn (begF dn df) j := by
  obtain ⟨h0, sc, c0, fc⟩ := tree_shp hc
  obtain ⟨h1, sd, d0, fd⟩ := tree_shp hd
  refine shp_tree (both_shp sc sd h0 h1 c0 d0) (fun j hj => ?_) (by omega) (by rw [show cn + dn + 1 - 1 = cn + dn by omega, bothL_last])
  rcases Nat.lt_or_ge j cn with h | h
  · rw [both_c h]; exact fc j h
  · rcases Nat.lt_or_ge j (cn + dn) with h2 | h2
    · rw [show j = cn + (j - cn) by omega, both_d (by omega)]
      exact fd (j - cn) (by omega)
    · rw [show j = cn + dn by omega, both_last]
      simp only [fieldsB, numB, varB, attB, toList_empty]
      rfl
theorem conj_c (hc : Shp cn cf lc) : ∀ k r, r < cn → conjF (bothF cn cf dn df) k r = conjF cf k r
  | 0, _, _ => rfl
  | k + 1, r, hr => by
    rw [conjF, conjF, both_c hr]
    by_cases ho : (cf r).op = 25
    · obtain ⟨k2, hb, k3, ha, _⟩ := and_kind hc hr ho
      have := hc.le (r - 1) (by omega)
      rw [if_pos ho, if_pos ho, conj_c hc k _ (by omega), conj_c hc k _ (by omega)]
    · rw [if_neg ho, if_neg ho]
theorem conj_d (hd : Shp dn df ld) : ∀ k r, r < dn → conjF (bothF cn cf dn df) k (cn + r) = (conjF df k r).map (cn + ·)
  | 0, _, _ => rfl
  | k + 1, r, hr => by
    rw [conjF, conjF, both_d hr]
    show (if (df r).op = 25 then _ else _) = _
    by_cases ho : (df r).op = 25
    · obtain ⟨k2, hb, k3, ha, _⟩ := and_kind hd hr ho
      have := hd.le (r - 1) (by omega)
      have ea : (upN (df r) cn).a.toNat = cn + (df r).a.toNat := by
        show (if 0 ≤ (df r).a then (df r).a + cn else (df r).a).toNat = _
        rw [if_pos (by omega)]; omega
      have eb : (upN (df r) cn).b.toNat = cn + (df r).b.toNat := by
        show (if 0 ≤ (df r).b then (df r).b + cn else (df r).b).toNat = _
        rw [if_pos (by omega)]; omega
      rw [if_pos ho, if_pos ho, ea, eb, conj_d hd k _ (by omega), conj_d hd k _ (by omega), List.map_append]
    · rw [if_neg ho, if_neg ho]
      rfl
theorem both_conj (hc : treeB cn cf = true) (hd : treeB dn df = true) : conjL (cn + dn + 1) (bothF cn cf dn df) = conjL cn cf ++ (conjL dn df).map (cn + ·) := by
  obtain ⟨h0, sc, c0, fc⟩ := tree_shp hc
  obtain ⟨h1, sd, d0, fd⟩ := tree_shp hd
  rw [conjL, if_pos (both_tree hc hd).1, conjL, if_pos hc, conjL, if_pos hd, conjF, show cn + dn + 1 - 1 = cn + dn by omega, both_last, if_pos rfl]
  show conjF _ (cn + dn) ((cn : Int) - 1).toNat ++ conjF _ (cn + dn) (((cn + dn : Nat) : Int) - 1).toNat = _
  rw [show ((cn : Int) - 1).toNat = cn - 1 by omega, show (((cn + dn : Nat) : Int) - 1).toNat = cn + (dn - 1) by omega, conj_c sc _ _ (by omega), conj_d sd _ _ (by omega), conjF_more sc (cn - 1) (by omega) (cn + dn) cn (by omega) (by omega), conjF_more sd (dn - 1) (by omega) (cn + dn) dn (by omega) (by omega)]
end
/-- What a list of nodes mentions, by its operators and names. -/
theorem uses_congr {P : Int → Bool} {n : Nat} {it : Nat → Itm} {t t' : Nat → Nod} {k m : Nat} (h : ∀ j, j < k → (t j).op = (t' j).op ∧ (t j).vr = (t' j).vr) : usesL P n it t k m = usesL P n it t' k m := by
  have e : ∀ i, anyU P n it t k i = anyU P n it t' k i := by
    intro i
    unfold anyU
    rw [Bool.eq_iff_iff, List.any_eq_true, List.any_eq_true]
    constructor
    · rintro ⟨j, hj, hp⟩
      obtain ⟨e1, e2⟩ := h j (List.mem_range.1 hj)
      exact ⟨j, hj, by rw [← e1, ← e2]; exact hp⟩
    · rintro ⟨j, hj, hp⟩
      obtain ⟨e1, e2⟩ := h j (List.mem_range.1 hj)
      exact ⟨j, hj, by rw [e1, e2]; exact hp⟩
  unfold usesL
  exact List.filter_congr fun i _ => e i
/-- Does what the conjunct mentions touch more than one such item? -/
def rootMix (Q : Qry) (n : Nat) (f : Nat → Nod) (root : Nat) : Bool := mixB Q (usesL bareB Q.n Q.it (subF n f root) (sizeI n f root) Q.n)
theorem walkP_ok {S : Sch} {Q : Qry} {r : Bool} {n : Nat} {f : Nat → Nod} : (walkP S Q r n f).2 = 0 ↔ ∀ j, j < n → nodeE S Q r f j = 0 := by
  rcases firstI_or (fun i => nodeE S Q r f i != 0) n with ⟨e, hn⟩ | ⟨j, hj, e, hp, hb⟩
  · rw [walkP_none hn]
    refine ⟨fun _ k hk => ?_, fun _ => rfl⟩
    have := hn k hk
    rwa [bne_eq_false_iff_eq] at this
  · rw [bne_iff_ne] at hp
    rw [walkP_hit hj rfl hp hb]
    exact ⟨fun h => absurd h hp, fun h => absurd (h j hj) hp⟩
theorem treeP_ok {S : Sch} {Q : Qry} {r : Bool} {n : Nat} {f : Nat → Nod} : (treeP S Q r n f).2 = 0 ↔ (∀ j, j < n → nodeE S Q r f j = 0) ∧ isTruthB n f = !r := by
  unfold treeP
  by_cases h : (walkP S Q r n f).2 = 0
  · by_cases h2 : isTruthB n f = r
    · rw [if_pos ⟨h, h2⟩]
      refine ⟨fun h => (by cases h), fun h => ?_⟩
      rw [h2] at h
      cases r <;> simp at h
    · rw [if_neg (fun h => h2 h.2)]
      refine ⟨fun h => ⟨walkP_ok.1 h, ?_⟩, fun h => walkP_ok.2 h.1⟩
      cases h3 : isTruthB n f <;> cases r <;> simp_all
  · rw [if_neg (fun h' => h h'.1)]
    exact ⟨fun h' => absurd h' h, fun h' => absurd (walkP_ok.2 h'.1) h⟩
theorem whereF_ok {S : Sch} {Q : Qry} : (whereF S Q).code = 0 ↔ Q.wn = 0 ∨ ((∀ j, j < Q.wn → nodeE S Q false Q.wh j = 0) ∧ isTruthB Q.wn Q.wh = true ∧ ∀ root ∈ conjL Q.wn Q.wh, rootMix Q Q.wn Q.wh root = false) := by
  unfold whereF
  by_cases h0 : Q.wn = 0
  · rw [if_pos h0]
    exact ⟨fun _ => .inl h0, fun _ => rfl⟩
  · rw [if_neg h0]
    by_cases h1 : (treeP S Q false Q.wn Q.wh).2 = 0
    · rw [if_neg (by rw [h1]; simp)]
      have h2 := treeP_ok.1 h1
      have e : (fun root : Nat => mixB Q (usesL bareB Q.n Q.it (subF Q.wn Q.wh root) (sizeI Q.wn Q.wh root) Q.n)) = rootMix Q Q.wn Q.wh := rfl
      rw [e]
      cases hf : (conjL Q.wn Q.wh).find? (rootMix Q Q.wn Q.wh) with
      | none =>
        refine ⟨fun _ => .inr ⟨h2.1, h2.2, fun root hr => ?_⟩, fun _ => rfl⟩
        have := List.find?_eq_none.1 hf root hr
        simpa using this
      | some root =>
        refine ⟨fun h => (by cases h), fun h => ?_⟩
        rcases h with h | h
        · exact absurd h h0
        · have hp := List.find?_some hf
          rw [h.2.2 root (List.mem_of_find?_eq_some hf)] at hp
          cases hp
    · rw [if_pos h1]
      refine ⟨fun h => absurd h h1, fun h => ?_⟩
      rcases h with h | h
      · exact absurd h h0
      · exact absurd (treeP_ok.2 ⟨h.1, h.2.1⟩) h1
section
variable {S : Sch} {Q : Qry} {cn dn : Nat} {cf df : Nat → Nod}
/-- The query with another WHERE. -/
def withW (Q : Qry) (n : Nat) (f : Nat → Nod) : Qry := { Q with wn := n, wh := f }
theorem node_c (hc : treeB cn cf = true) {j : Nat} (hj : j < cn) : nodeE S Q false (bothF cn cf dn df) j = nodeE S Q false cf j := by
  have hr := (tree_shp hc).2.1.rng hj
  have kid : ∀ want (k : Int), k < cn → kidB (bothF cn cf dn df) want k = kidB cf want k := by
    intro want k hk
    unfold kidB
    by_cases h : 0 ≤ k
    · rw [both_c (by omega)]
    · simp [h]
  have kk : kindsB (bothF cn cf dn df) (cf j) = kindsB cf (cf j) := by
    unfold kindsB
    rw [kid _ _ (by omega), kid _ _ (by omega)]
  unfold nodeE
  rw [both_c hj, kk]
theorem node_d (hd : treeB dn df = true) {j : Nat} (hj : j < dn) : nodeE S Q false (bothF cn cf dn df) (cn + j) = nodeE S Q false df j := by
  have hr := (tree_shp hd).2.1.rng hj
  have kid : ∀ want (k : Int), k < dn → kidB (bothF cn cf dn df) want (if 0 ≤ k then k + cn else k) = kidB df want k := by
    intro want k hk
    by_cases h : 0 ≤ k
    · rw [if_pos h]
      unfold kidB
      rw [show (k + cn).toNat = cn + k.toNat by omega, both_d (by omega), decide_eq_true (show 0 ≤ k + cn by omega), decide_eq_true h]
      rfl
    · rw [if_neg h, kid_neg (by omega), kid_neg (by omega)]
  have kk : kindsB (bothF cn cf dn df) (upN (df j) cn) = kindsB df (df j) := by
    unfold kindsB
    show (kidB _ (wantB (df j).op) (if 0 ≤ (df j).a then (df j).a + cn else (df j).a) && kidB _ (wantB (df j).op) (if 0 ≤ (df j).b then (df j).b + cn else (df j).b)) = _
    rw [kid _ _ (by omega), kid _ _ (by omega)]
  unfold nodeE
  rw [both_d hj, kk]
  rfl
theorem node_and (h0 : 0 < cn) (h1 : 0 < dn) : nodeE S Q false (bothF cn cf dn df) (cn + dn) = 0 ↔ isTruthB cn cf = true ∧ isTruthB dn df = true := by
  have e1 : kindsB (bothF cn cf dn df) (bothF cn cf dn df (cn + dn)) = (isTruthB cn cf && isTruthB dn df) := by
    rw [both_last]
    show (kidB _ true ((cn : Int) - 1) && kidB _ true (((cn + dn : Nat) : Int) - 1)) = _
    rw [show (cn : Int) - 1 = ((cn - 1 : Nat) : Int) by omega, show ((cn + dn : Nat) : Int) - 1 = ((cn + (dn - 1) : Nat) : Int) by omega, kid_at rfl, kid_at rfl, both_c (by omega), both_d (by omega)]
    simp only [isTruthB, decide_eq_true h0, decide_eq_true h1, Bool.true_and, Bool.bne_true, Bool.not_not]
    rfl
  have e2 : mentE S Q false (bothF cn cf dn df (cn + dn)) = 0 := by rw [both_last]; rfl
  unfold nodeE
  rw [e2, if_neg (by simp), e1]
  cases isTruthB cn cf <;> cases isTruthB dn df <;> simp
theorem root_c (hc : treeB cn cf = true) (hd : treeB dn df = true) {r : Nat} (hr : r < cn) : rootMix Q (cn + dn + 1) (bothF cn cf dn df) r = rootMix Q cn cf r := by
  obtain ⟨ht, hb⟩ := both_tree hc hd
  have hle := (tree_shp hc).2.1.le r hr
  have eb : begF (cn + dn + 1) (bothF cn cf dn df) r = begF cn cf r := by rw [hb r (by omega), bothL_c hr]
  unfold rootMix
  rw [size_at ht (by omega), size_at hc hr, eb]
  congr 1
  refine uses_congr fun j hj => ?_
  have e1 : subF (cn + dn + 1) (bothF cn cf dn df) (r : Int) j = shiftN (cf (begF cn cf r + j)) (begF cn cf r) := by
    rw [subF, Int.toNat_natCast, eb, both_c (by omega)]
  rw [e1, subF, Int.toNat_natCast]
  exact ⟨rfl, rfl⟩
theorem root_d (hc : treeB cn cf = true) (hd : treeB dn df = true) {r : Nat} (hr : r < dn) : rootMix Q (cn + dn + 1) (bothF cn cf dn df) (cn + r) = rootMix Q dn df r := by
  obtain ⟨ht, hb⟩ := both_tree hc hd
  have hle := (tree_shp hd).2.1.le r hr
  have eb : begF (cn + dn + 1) (bothF cn cf dn df) (cn + r) = cn + begF dn df r := by rw [hb _ (by omega), bothL_d hr]
  unfold rootMix
  rw [size_at ht (by omega), size_at hd hr, eb, show cn + r - (cn + begF dn df r) + 1 = r - begF dn df r + 1 by omega]
  congr 1
  refine uses_congr fun j hj => ?_
  have e1 : subF (cn + dn + 1) (bothF cn cf dn df) ((cn + r : Nat) : Int) j = shiftN (upN (df (begF dn df r + j)) cn) (cn + begF dn df r) := by
    rw [subF, Int.toNat_natCast, eb, show cn + begF dn df r + j = cn + (begF dn df r + j) by omega, both_d (by omega)]
  rw [e1, subF, Int.toNat_natCast]
  exact ⟨rfl, rfl⟩
theorem both_where (hc : treeB cn cf = true) (hd : treeB dn df = true) : (whereF S (withW Q (cn + dn + 1) (bothF cn cf dn df))).code = 0 ↔ (whereF S (withW Q cn cf)).code = 0 ∧ (whereF S (withW Q dn df)).code = 0 := by
  obtain ⟨h0, sc, c0, fc⟩ := tree_shp hc
  obtain ⟨h1, sd, d0, fd⟩ := tree_shp hd
  rw [whereF_ok, whereF_ok, whereF_ok]
  show (cn + dn + 1 = 0 ∨ ((∀ j, j < cn + dn + 1 → nodeE S Q false (bothF cn cf dn df) j = 0) ∧ isTruthB (cn + dn + 1) (bothF cn cf dn df) = true ∧ ∀ root ∈ conjL (cn + dn + 1) (bothF cn cf dn df), rootMix Q (cn + dn + 1) (bothF cn cf dn df) root = false)) ↔
    (cn = 0 ∨ ((∀ j, j < cn → nodeE S Q false cf j = 0) ∧ isTruthB cn cf = true ∧ ∀ root ∈ conjL cn cf, rootMix Q cn cf root = false)) ∧
    (dn = 0 ∨ ((∀ j, j < dn → nodeE S Q false df j = 0) ∧ isTruthB dn df = true ∧ ∀ root ∈ conjL dn df, rootMix Q dn df root = false))
  rw [both_conj hc hd]
  constructor
  · rintro (h | ⟨hn, ht, hr⟩)
    · omega
    · have hand := (node_and (S := S) (Q := Q) (cf := cf) (df := df) h0 h1).1 (hn (cn + dn) (by omega))
      refine ⟨.inr ⟨fun j hj => ?_, hand.1, fun root hroot => ?_⟩, .inr ⟨fun j hj => ?_, hand.2, fun root hroot => ?_⟩⟩
      · rw [← node_c (dn := dn) (df := df) hc hj]; exact hn j (by omega)
      · rw [← root_c hc hd (conjL_lt hc root hroot)]
        exact hr root (List.mem_append_left _ hroot)
      · rw [← node_d (cn := cn) (cf := cf) hd hj]; exact hn (cn + j) (by omega)
      · rw [← root_d hc hd (conjL_lt hd root hroot)]
        exact hr (cn + root) (List.mem_append_right _ (List.mem_map.2 ⟨root, hroot, rfl⟩))
  · rintro ⟨hC, hD⟩
    obtain ⟨hc1, hc2, hc3⟩ := hC.resolve_left (by omega)
    obtain ⟨hd1, hd2, hd3⟩ := hD.resolve_left (by omega)
    refine .inr ⟨fun j hj => ?_, ?_, fun root hroot => ?_⟩
    · rcases Nat.lt_or_ge j cn with h | h
      · rw [node_c hc h]; exact hc1 j h
      · rcases Nat.lt_or_ge j (cn + dn) with h2 | h2
        · rw [show j = cn + (j - cn) by omega, node_d hd (by omega)]
          exact hd1 _ (by omega)
        · rw [show j = cn + dn by omega]
          exact (node_and h0 h1).2 ⟨hc2, hd2⟩
    · rw [isTruthB, show cn + dn + 1 - 1 = cn + dn by omega, both_last, decide_eq_true (by omega)]
      rfl
    · rcases List.mem_append.1 hroot with h | h
      · rw [root_c hc hd (conjL_lt hc root h)]; exact hc3 root h
      · obtain ⟨r, hr, rfl⟩ := List.mem_map.1 h
        rw [root_d hc hd (conjL_lt hd r hr)]; exact hd3 r hr
theorem shape_with (hc : treeB cn cf = true) (hd : treeB dn df = true) : shapedB (withW Q cn cf) = shapedB (withW Q dn df) := by
  have h0 := (tree_shp hc).1
  have h1 := (tree_shp hd).1
  simp only [shapedB, withW, hc, hd, Bool.or_true]
  rfl
/-- (c AND d) is well formed in a query just if c is and d is. -/
theorem both_ok (hc : treeB cn cf = true) (hd : treeB dn df = true) : CheckOk S (withW Q (cn + dn + 1) (bothF cn cf dn df)) ↔ CheckOk S (withW Q cn cf) ∧ CheckOk S (withW Q dn df) := by
  have ht := (both_tree hc hd).1
  constructor
  · intro h
    have hw := (both_where hc hd).1 h.wher
    exact ⟨⟨h.sch, by rw [shape_with hc ht]; exact h.shape, h.items, hw.1, h.within, h.by_, h.many, h.rets⟩, ⟨h.sch, by rw [shape_with hd ht]; exact h.shape, h.items, hw.2, h.within, h.by_, h.many, h.rets⟩⟩
  · rintro ⟨h, h'⟩
    exact ⟨h.sch, by rw [shape_with ht hc]; exact h.shape, h.items, (both_where hc hd).2 ⟨h.wher, h'.wher⟩, h.within, h.by_, h.many, h.rets⟩
end
end Go.Proofs.YtagcbljfaflhoaaDoor

/-
  Several texts in one: ShowTree, Query.
-/
import Derived.Test.YtagcbljfaflhoaaDoorFlw1
import Derived.Deep.RegionLaw
import Derived.Test.YtagcbljfaflhoaaDoorFlw0
set_option linter.unusedSimpArgs false
/-! ### The walk of show.Tree. -/
namespace Go.Proofs.YtagcbljfaflhoaaDoor
open Go.RowKit Go.ChangeShapes Go.WideShapes Go.ChangeAt Go.Deep Go.Joins
theorem infoIntT : (Tryd.prog.info? 3).map (fun i => (i.zero, i.size, i.bytes)) = some (some (.int .i64 0), 1, 8) := by kernel_rfl
/-- Numbers as cells. -/
def natCells (l : List Nat) : List Value := l.map fun (x : Nat) => Value.int .i64 (x : Int)
theorem natCells_at {l : List Nat} {j : Nat} (h : j < l.length) : (natCells l)[j]? = some (.int .i64 ((l[j] : Nat) : Int)) := by simp [natCells, h]
/-- A row's beginning. -/
theorem own_pre {w : World} {B n m g c : Nat} {e : TypeId} {xs : List Value} (h : w.ownsRow B e 1 (.slice (some ⟨g, 0, none⟩) n c) n xs) (hm : m ≤ n) : w.ownsRow B e 1 (.slice (some ⟨g, 0, none⟩) m c) m (xs.take m) := by
  refine ⟨by rw [List.length_take, h.1]; omega, ?_⟩
  rcases h.2 with ⟨e1, _⟩ | ⟨g', cap, cur, e1, h1, h2, h3, h4, h5, h6⟩
  · cases e1
  · injection e1 with e1 _ e2
    injection e1 with e1
    injection e1 with e1
    subst e1 e2
    refine Or.inr ⟨g, c, cur, rfl, h1, h2, by omega, h4, h5, ?_⟩
    rw [← h6, List.take_take, Nat.mul_one, Nat.mul_one, Nat.min_eq_left hm]
theorem natCells_snoc (l : List Nat) (k : Nat) : natCells (l ++ [k]) = natCells l ++ [.int .i64 (k : Int)] := by simp [natCells]
theorem natCells_len (l : List Nat) : (natCells l).length = l.length := by simp [natCells]
theorem natCells_take (l : List Nat) (r : List Nat) : (natCells (l ++ r)).take l.length = natCells l := by
  rw [natCells, natCells, List.map_append, List.take_append_of_le_length (by simp), List.take_of_length_le (by simp)]
theorem blk6 {w : World} {b : Nat} {v0 v1 v2 v3 v4 v5 : Value} {T : TypeId} (h : w.heap[b]? = some (.cells #[v0, v1, v2, v3, v4, v5] T (0, 0))) :
    w.cell? ⟨b, 0, none⟩ = some v0 ∧ w.cell? ⟨b, 1, none⟩ = some v1 ∧ w.cell? ⟨b, 2, none⟩ = some v2 ∧ w.cell? ⟨b, 3, none⟩ = some v3 ∧ w.cell? ⟨b, 4, none⟩ = some v4 ∧ w.cell? ⟨b, 5, none⟩ = some v5 :=
  ⟨blk_cell h rfl, blk_cell h rfl, blk_cell h rfl, blk_cell h rfl, blk_cell h rfl, blk_cell h rfl⟩
theorem arity_cases (op : Int) : arity op = -1 ∨ arity op = 0 ∨ arity op = 1 ∨ arity op = 2 := by
  unfold arity
  split
  · omega
  · split
    · omega
    · split <;> omega
section
variable {f : Nat → Nod} {l : List Nat} {k : Nat} {x : Nod}
theorem stk_one (h : ∀ j, j < k → lget l j ≤ j) : ((stk (lget l) k).length = 1) ↔ (0 < k ∧ lget l (k - 1) = 0) := by
  rcases Nat.eq_zero_or_pos k with e | e
  · subst e; rw [stk_zero]; simp
  · rw [stk_pos h e, List.length_append]
    have h1 := h (k - 1) (by omega)
    rcases Nat.eq_zero_or_pos (lget l (k - 1)) with e2 | e2
    · rw [e2, stk_zero]; simp [e]
    · rw [stk_pos (fun j hj => h j (by omega)) e2]
      simp
      omega
theorem res_bad_arity {lf : Nat → Nat} (h : arity x.op = -1) : nodeRes x lf k = none := by
  unfold nodeRes
  rw [h]
  split <;> simp
theorem res_bad_fields {lf : Nat → Nat} (h : fieldsB x = false) : nodeRes x lf k = none := by unfold nodeRes; rw [h]; rfl
theorem res_zero {lf : Nat → Nat} (h : arity x.op = 0) (hf : fieldsB x = true) (ha : x.a = -1) (hb : x.b = -1) : nodeRes x lf k = some k := by
  unfold nodeRes
  rw [if_pos hf, if_pos h, if_pos ⟨ha, hb⟩]
theorem res_zero_bad {lf : Nat → Nat} (h : arity x.op = 0) (hn : ¬ (x.a = -1 ∧ x.b = -1)) : nodeRes x lf k = none := by
  cases hf : fieldsB x
  · exact res_bad_fields hf
  · unfold nodeRes
    rw [if_pos hf, if_pos h, if_neg hn]
theorem res_one {lf : Nat → Nat} (h : arity x.op = 1) (hf : fieldsB x = true) (hk : 1 ≤ k) (ha : x.a = (k : Int) - 1) (hb : x.b = -1) : nodeRes x lf k = some (lf (k - 1)) := by
  unfold nodeRes
  rw [if_pos hf, if_neg (by omega), if_pos h, if_pos ⟨hk, ha, hb⟩]
theorem res_one_bad {lf : Nat → Nat} (h : arity x.op = 1) (hn : ¬ (1 ≤ k ∧ x.a = (k : Int) - 1 ∧ x.b = -1)) : nodeRes x lf k = none := by
  cases hf : fieldsB x
  · exact res_bad_fields hf
  · unfold nodeRes
    rw [if_pos hf, if_neg (show ¬ arity x.op = 0 by omega), if_pos h, if_neg hn]
theorem res_two {lf : Nat → Nat} (h : arity x.op = 2) (hf : fieldsB x = true) (hk : 1 ≤ k) (hb : x.b = (k : Int) - 1) (hl : 1 ≤ lf (k - 1)) (ha : x.a = (lf (k - 1) : Int) - 1) : nodeRes x lf k = some (lf (lf (k - 1) - 1)) := by
  unfold nodeRes
  rw [if_pos hf, if_neg (by omega), if_neg (by omega), if_pos h, if_pos ⟨hk, hb, hl, ha⟩, ha]
  congr 2
  omega
theorem res_two_bad {lf : Nat → Nat} (h : arity x.op = 2) (hn : ¬ (1 ≤ k ∧ x.b = (k : Int) - 1 ∧ 1 ≤ lf (k - 1) ∧ x.a = (lf (k - 1) : Int) - 1)) : nodeRes x lf k = none := by
  cases hf : fieldsB x
  · exact res_bad_fields hf
  · unfold nodeRes
    rw [if_pos hf, if_neg (show ¬ arity x.op = 0 by omega), if_neg (show ¬ arity x.op = 1 by omega), if_pos h, if_neg hn]
/-- The stack behind a node. -/
theorem stk_next {v : Nat} (hb : bg f k = some l) (hr : nodeRes (f k) (lget l) k = some v) : stk (lget (l ++ [v])) (k + 1) = stk (lget l) v ++ [k] := by
  have hl := bg_len hb
  have hle := bg_le (bg_next hb hr)
  have h1 : lget (l ++ [v]) k = v := by rw [← hl, lget_last]
  have hv := nodeRes_le (bg_le hb) hr
  rw [stk_succ (hle k (by omega)), h1]
  congr 1
  exact stk_congr v (fun j hj => lget_left (by omega) v) (fun j hj => hle j (by omega))
end
set_option maxRecDepth 100000 in
set_option maxHeartbeats 4000000 in
theorem showTree_any (A : Option Addr) (n c : Nat) (f : Nat → Nod) (w : World) (h : NodRd w w.heap.size A n f) {tt : TypeId} {fr : Nat × Nat} (hkw : w.heap[0]? = some (.cells kwArr tt fr)) :
    Calls Tryd.prog 45 #[.slice A n c] w fun e w' => e = .returned (.bool (treeB n f)) ∧ Below w.heap.size w w' := by
  obtain ⟨i0, hi0, hz0, hz1, hz2⟩ := info_parts infoIntT
  have hn := h.small
  have HT := Lib.hid h
  have HK := Lib.hid hkw
  clear h hkw
  go_enter Tryd.func45, Tryd.ntmps45
  go_wp2_with fail
  go_loopw [11, 3] (fun i o wr => ∃ (k L : Nat) (ov : Value) (l : List Nat), k ≤ n ∧ i = .int .i64 k ∧ ov = o ∧ L ≤ k ∧ Hid (bg f k = some l ∧ (stk (lget l) k).length = L) ∧ Hid (wr.ownsRow w.heap.size 3 1 ov L (natCells (stk (lget l) k))) ∧ Below w.heap.size w wr) (fun i _ _ => n - (intOf i).toNat)
  case atStart => exact ⟨0, 0, .slice none 0 0, [], Nat.zero_le _, rfl, rfl, Nat.le_refl _, Lib.hid ⟨rfl, by rw [stk_zero]; rfl⟩, Lib.hid (by rw [stk_zero]; exact World.ownsRow_nil _ _ _ _), Below.refl _ _⟩
  case round =>
    obtain ⟨k, L, ov, l, hk, rfl, rfl, hLk, HG, HO, hb⟩ := hrel
    obtain ⟨W1, e1⟩ : ∃ W1 : World, W1 = wr := ⟨_, rfl⟩
    subst e1
    by_cases hlt : k < n
    · obtain ⟨b, off, rfl, hbl, hcs⟩ := HT.out.spot (by omega)
      obtain ⟨c0, c1, c2, c3, c4, c5⟩ := hcs k hlt
      have d0 := (hb.cell (p := ⟨b, off + k * 6, none⟩) hbl).trans c0
      have d1 := (hb.cell (p := ⟨b, off + k * 6 + 1, none⟩) hbl).trans c1
      have d2 := (hb.cell (p := ⟨b, off + k * 6 + 2, none⟩) hbl).trans c2
      have d3 := (hb.cell (p := ⟨b, off + k * 6 + 3, none⟩) hbl).trans c3
      have d4 := (hb.cell (p := ⟨b, off + k * 6 + 4, none⟩) hbl).trans c4
      have d5 := (hb.cell (p := ⟨b, off + k * 6 + 5, none⟩) hbl).trans c5
      clear hcs c0 c1 c2 c3 c4 c5
      obtain ⟨x, hx⟩ : ∃ x, f k = x := ⟨_, rfl⟩
      rw [hx] at d0 d1 d2 d3 d4 d5
      have HX := Lib.hid hx
      clear hx
      obtain ⟨op, nn, vr, at_, a, b2⟩ := x
      dsimp only at d0 d1 d2 d3 d4 d5
      have hb2 := bnew hb (.cells #[.int .i64 op, .int .i64 nn, .string vr, .string at_, .int .i64 a, .int .i64 b2] 60)
      have P2 := Lib.hid (blk_new W1 #[.int .i64 op, .int .i64 nn, .string vr, .string at_, .int .i64 a, .int .i64 b2] 60)
      have HO2 := Lib.hid (HO.out.alloc (.cells #[.int .i64 op, .int .i64 nn, .string vr, .string at_, .int .i64 a, .int .i64 b2] 60))
      clear HO
      go_wp2_with fail
      generalize W1.alloc (.cells #[.int .i64 op, .int .i64 nn, .string vr, .string at_, .int .i64 a, .int .i64 b2] 60) = w2 at *
      refine (operands_any op _).mono ?_
      rintro e w2' ⟨rfl, rfl⟩
      have hsz := W1.heap.size
      rcases arity_cases op with ha | ha | ha | ha
      all_goals
        rw [ha]
        have HA := Lib.hid ha
        clear ha
      · have HE := Lib.hid (tree_stop HG.out.1 (by rw [HX.out]; exact res_bad_arity HA.out) hlt)
        obtain ⟨oA, oc, rfl, _⟩ := rowown_shape HO2.out
        go_wp2_with fail
        go_ret
        exact ⟨by rw [HE.out]; rfl, hb2⟩
      · -- no operand
        obtain ⟨z0, z1, z2, z3, z4, z5⟩ := blk6 P2.out
        obtain ⟨oA, oc, rfl, _⟩ := rowown_shape HO2.out
        have hL0 : ¬ ((L : Int) < 0) := by omega
        go_wp2_with fail
        refine (fields_any ⟨op, nn, vr, at_, a, b2⟩ _ (block_below HK.out hb2)).mono ?_
        rintro e w3 ⟨rfl, hb3⟩
        have hb3' := bcall hb2 hb3
        have x4 := blk_cell (blk_below P2.out hb3) (j := 4) rfl
        have x5 := blk_cell (blk_below P2.out hb3) (j := 5) rfl
        have HO3 := Lib.hid (rowown_below HO2.out hb3)
        cases hf : fieldsB ⟨op, nn, vr, at_, a, b2⟩
        · have HE := Lib.hid (tree_stop HG.out.1 (by rw [HX.out]; exact res_bad_fields hf) hlt)
          clear hf
          go_wp2_with fail
          go_ret
          exact ⟨by rw [HE.out]; rfl, hb3'⟩
        · have HF := Lib.hid hf
          clear hf
          by_cases hab : a = -1 ∧ b2 = -1
          · obtain ⟨rfl, rfl⟩ := hab
            have hr : nodeRes (f k) (lget l) k = some k := by rw [HX.out]; exact res_zero HA.out HF.out rfl rfl
            have HR := Lib.hid (And.intro (bg_next HG.out.1 hr) (stk_next HG.out.1 hr))
            clear hr
            rcases ownsRow_forms HO3.out with ⟨e, rfl⟩ | ⟨g, cap, e⟩
            · injection e with e1 _ e2
              subst e1 e2
              have HLEN := Lib.hid HG.out.2
              go_wp2_with (at_builtin; go_loud (refine wpList_append_lies _ rfl _ _ _ rfl w.heap.size 3 i0 _ 1 8 Tryd.underlying27 hi0 hz0 hz1 hz2 rfl (by omega) _ _ (natCells (stk (lget l) k)) rfl (HO3.out.alloc _) ⟨w3.heap.size, 0, none⟩ 1 1 [.int .i64 (k : Int)] rfl rfl (World.news_of_block (cs := #[.int .i64 (k : Int)]) (t := 3) (fr := (0, 0)) (heap_alloc_new w3 _)) (by simp [Value.oneCell']) (by omega) (by unfold maxLen; omega) (by omega) (by have := hb3'.size; simp; omega) (w3.heap.size + 1) (by simp) ?_; intro gg gcap w9 hown9 hgrow hat hlt9))
              have hb9 := below_grown (bnew hb3' (.cells #[.int .i64 (k : Int)] 3)) hgrow (by have := hb3'.size; simp; omega) (fun x hx => by have := (HO3.out.lt x hx).1; omega)
              have HN := Lib.hid (show w9.ownsRow w.heap.size 3 1 (.slice (some ⟨gg, 0, none⟩) (0 + 1) gcap) (0 + 1) (natCells (stk (lget (l ++ [k])) (k + 1))) by rw [HR.out.2, natCells_snoc]; exact hown9)
              go_roundw
              case rel => exact ⟨k + 1, 0 + 1, _, l ++ [k], by omega, by go_num, rfl, by omega, Lib.hid ⟨HR.out.1, by rw [HR.out.2, List.length_append, HLEN.out]; rfl⟩, HN, hb9⟩
              case measure => simp [intOf]; omega
            · injection e with e1 _ e2
              subst e1 e2
              have HLEN := Lib.hid HG.out.2
              go_wp2_with (at_builtin; go_loud (refine wpList_append_lies _ rfl _ _ _ rfl w.heap.size 3 i0 _ 1 8 Tryd.underlying27 hi0 hz0 hz1 hz2 rfl (by omega) _ _ (natCells (stk (lget l) k)) rfl (HO3.out.alloc _) ⟨w3.heap.size, 0, none⟩ 1 1 [.int .i64 (k : Int)] rfl rfl (World.news_of_block (cs := #[.int .i64 (k : Int)]) (t := 3) (fr := (0, 0)) (heap_alloc_new w3 _)) (by simp [Value.oneCell']) (by omega) (by unfold maxLen; omega) (by omega) (by have := hb3'.size; simp; omega) (w3.heap.size + 1) (by simp) ?_; intro gg gcap w9 hown9 hgrow hat hlt9))
              have hb9 := below_grown (bnew hb3' (.cells #[.int .i64 (k : Int)] 3)) hgrow (by have := hb3'.size; simp; omega) (fun x hx => by have := (HO3.out.lt x hx).1; omega)
              have HN := Lib.hid (show w9.ownsRow w.heap.size 3 1 (.slice (some ⟨gg, 0, none⟩) (L + 1) gcap) (L + 1) (natCells (stk (lget (l ++ [k])) (k + 1))) by rw [HR.out.2, natCells_snoc]; exact hown9)
              go_roundw
              case rel => exact ⟨k + 1, L + 1, _, l ++ [k], by omega, by go_num, rfl, by omega, Lib.hid ⟨HR.out.1, by rw [HR.out.2, List.length_append, HLEN.out]; rfl⟩, HN, hb9⟩
              case measure => simp [intOf]; omega
          · have HE := Lib.hid (tree_stop HG.out.1 (by rw [HX.out]; exact res_zero_bad HA.out hab) hlt)
            have hab' : (a != -1 || b2 != -1) = true := by
              rw [Bool.or_eq_true, bne_iff_ne, bne_iff_ne]
              by_cases h1 : a = -1
              · exact Or.inr fun h2 => hab ⟨h1, h2⟩
              · exact Or.inl h1
            by_cases h1 : a = -1
            · have h2 : (b2 != -1) = true := by rw [bne_iff_ne]; exact fun h2 => hab ⟨h1, h2⟩
              subst h1
              clear hab hab'
              go_wp2_with fail
              go_ret
              exact ⟨by rw [HE.out]; rfl, hb3'⟩
            · have h1 : (a != -1) = true := by rw [bne_iff_ne]; exact h1
              clear hab hab'
              go_wp2_with fail
              go_ret
              exact ⟨by rw [HE.out]; rfl, hb3'⟩
      · -- one operand
        obtain ⟨z0, z1, z2, z3, z4, z5⟩ := blk6 P2.out
        rcases Nat.eq_zero_or_pos k with hk0 | hk0
        · have hL : L = 0 := by omega
          subst hL
          have HE := Lib.hid (tree_stop HG.out.1 (by rw [HX.out]; exact res_one_bad HA.out (by omega)) hlt)
          obtain ⟨oA, oc, rfl, _⟩ := rowown_shape HO2.out
          go_wp2_with fail
          go_ret
          exact ⟨by rw [HE.out]; rfl, hb2⟩
        · have hle := bg_le HG.out.1
          have hst := stk_pos hle hk0
          obtain ⟨L1, hL1⟩ : ∃ L1, L1 = (stk (lget l) (lget l (k - 1))).length := ⟨_, rfl⟩
          have hL : L = L1 + 1 := by rw [← HG.out.2, hst, List.length_append, ← hL1]; rfl
          subst hL
          obtain ⟨g, cap, rfl⟩ : ∃ g cap, ov = .slice (some ⟨g, 0, none⟩) (L1 + 1) cap := by
            obtain ⟨g, cap, e, _⟩ := HO2.out.form (by omega)
            exact ⟨g, cap, e⟩
          have HST := Lib.hid hst
          have HLEN := Lib.hid hL1.symm
          have HLE := Lib.hid hle
          clear hle hst hL1
          have hgt : ¬ ((L1 + 1 : Nat) : Int) < 1 := by omega
          have hcap : L1 + 1 ≤ cap := by
            obtain ⟨A', c', e, hc, _⟩ := rowown_shape HO2.out
            injection e with _ _ e
            rw [e]; exact hc
          go_wp2_with fail
          refine (fields_any ⟨op, nn, vr, at_, a, b2⟩ _ (block_below HK.out hb2)).mono ?_
          rintro e w3 ⟨rfl, hb3⟩
          have hb3' := bcall hb2 hb3
          have x4 := blk_cell (blk_below P2.out hb3) (j := 4) rfl
          have x5 := blk_cell (blk_below P2.out hb3) (j := 5) rfl
          have HO3 := Lib.hid (rowown_below HO2.out hb3)
          have y1 : w3.cell? ⟨g, L1, none⟩ = some (.int .i64 ((k - 1 : Nat) : Int)) := by
            rw [HO3.out.cellAt _ (by omega), HST.out, natCells_snoc, ← HLEN.out, ← natCells_len, List.getElem?_append_right (Nat.le_refl _), Nat.sub_self]
            rfl
          cases hf : fieldsB ⟨op, nn, vr, at_, a, b2⟩
          · have HE := Lib.hid (tree_stop HG.out.1 (by rw [HX.out]; exact res_bad_fields hf) hlt)
            clear hf
            go_wp2_with fail
            go_ret
            exact ⟨by rw [HE.out]; rfl, hb3'⟩
          · have HF := Lib.hid hf
            clear hf
            by_cases h1 : a = ((k - 1 : Nat) : Int)
            · by_cases h2 : b2 = -1
              · subst h1 h2
                have hr : nodeRes (f k) (lget l) k = some (lget l (k - 1)) := by rw [HX.out]; exact res_one HA.out HF.out hk0 (by show ((k - 1 : Nat) : Int) = _; omega) rfl
                have HR := Lib.hid (And.intro (bg_next HG.out.1 hr) (stk_next HG.out.1 hr))
                have HP := Lib.hid (show w3.ownsRow w.heap.size 3 1 (.slice (some ⟨g, 0, none⟩) L1 cap) L1 (natCells (stk (lget l) (lget l (k - 1)))) by
                  have h := own_pre HO3.out (m := L1) (by omega)
                  rw [HST.out, ← HLEN.out, natCells_take, HLEN.out] at h
                  exact h)
                clear hr
                go_wp2_with (at_builtin; go_loud (refine wpList_append_lies _ rfl _ _ _ rfl w.heap.size 3 i0 _ 1 8 Tryd.underlying27 hi0 hz0 hz1 hz2 rfl (by omega) _ _ (natCells (stk (lget l) (lget l (k - 1)))) rfl (HP.out.alloc _) ⟨w3.heap.size, 0, none⟩ 1 1 [.int .i64 (k : Int)] rfl rfl (World.news_of_block (cs := #[.int .i64 (k : Int)]) (t := 3) (fr := (0, 0)) (heap_alloc_new w3 _)) (by simp [Value.oneCell']) (by omega) (by unfold maxLen; omega) (by omega) (by have := hb3'.size; simp; omega) (w3.heap.size + 1) (by simp) ?_; intro gg gcap w9 hown9 hgrow hat hlt9))
                have hb9 := below_grown (bnew hb3' (.cells #[.int .i64 (k : Int)] 3)) hgrow (by have := hb3'.size; simp; omega) (fun x hx => by have := (HP.out.lt x hx).1; omega)
                have HN := Lib.hid (show w9.ownsRow w.heap.size 3 1 (.slice (some ⟨gg, 0, none⟩) (L1 + 1) gcap) (L1 + 1) (natCells (stk (lget (l ++ [lget l (k - 1)])) (k + 1))) by rw [HR.out.2, natCells_snoc]; exact hown9)
                go_roundw
                case rel => exact ⟨k + 1, L1 + 1, _, l ++ [lget l (k - 1)], by omega, by go_num, rfl, by omega, Lib.hid ⟨HR.out.1, by rw [HR.out.2, List.length_append, HLEN.out]; rfl⟩, HN, hb9⟩
                case measure => simp [intOf]; omega
              · have HE := Lib.hid (tree_stop HG.out.1 (by rw [HX.out]; exact res_one_bad HA.out (fun h => h2 h.2.2)) hlt)
                have h2' : (b2 != -1) = true := by rw [bne_iff_ne]; exact h2
                subst h1
                clear h2
                go_wp2_with fail
                go_ret
                exact ⟨by rw [HE.out]; rfl, hb3'⟩
            · have HE := Lib.hid (tree_stop HG.out.1 (by rw [HX.out]; exact res_one_bad HA.out (fun h => h1 (by have h3 : a = (k : Int) - 1 := h.2.1; omega))) hlt)
              have h1' : (a != ((k - 1 : Nat) : Int)) = true := by rw [bne_iff_ne]; exact h1
              clear h1
              go_wp2_with fail
              go_ret
              exact ⟨by rw [HE.out]; rfl, hb3'⟩
      · -- two operands
        obtain ⟨z0, z1, z2, z3, z4, z5⟩ := blk6 P2.out
        by_cases hp : 0 < k ∧ 0 < lget l (k - 1)
        · obtain ⟨hk0, hp0⟩ := hp
          have hle := bg_le HG.out.1
          obtain ⟨p, hpe⟩ : ∃ p, lget l (k - 1) = p := ⟨_, rfl⟩
          have hpk := hle (k - 1) (by omega)
          rw [hpe] at hp0 hpk
          have hst : stk (lget l) k = stk (lget l) (lget l (p - 1)) ++ [p - 1] ++ [k - 1] := by rw [stk_pos hle hk0, hpe, stk_pos (fun j hj => hle j (by omega)) hp0]
          obtain ⟨L2, hL2⟩ : ∃ L2, L2 = (stk (lget l) (lget l (p - 1))).length := ⟨_, rfl⟩
          have hL : L = L2 + 2 := by rw [← HG.out.2, hst, List.length_append, List.length_append, ← hL2]; rfl
          subst hL
          obtain ⟨g, cap, rfl⟩ : ∃ g cap, ov = .slice (some ⟨g, 0, none⟩) (L2 + 2) cap := by
            obtain ⟨g, cap, e, _⟩ := HO2.out.form (by omega)
            exact ⟨g, cap, e⟩
          have HST := Lib.hid hst
          have HLEN := Lib.hid hL2.symm
          have HLE := Lib.hid hle
          have HPE := Lib.hid hpe
          clear hle hst hL2 hpe
          have hgt : ¬ ((L2 + 2 : Nat) : Int) < 2 := by omega
          have hcap : L2 + 2 ≤ cap := by
            obtain ⟨A', c', e, hc, _⟩ := rowown_shape HO2.out
            injection e with _ _ e
            rw [e]; exact hc
          go_wp2_with fail
          refine (fields_any ⟨op, nn, vr, at_, a, b2⟩ _ (block_below HK.out hb2)).mono ?_
          rintro e w3 ⟨rfl, hb3⟩
          have hb3' := bcall hb2 hb3
          have P3 := Lib.hid (blk_below P2.out hb3)
          have HO3 := Lib.hid (rowown_below HO2.out hb3)
          have y1 : w3.cell? ⟨g, L2, none⟩ = some (.int .i64 ((p - 1 : Nat) : Int)) := by
            rw [HO3.out.cellAt _ (by omega), HST.out, natCells_snoc, natCells_snoc, List.append_assoc, ← HLEN.out, ← natCells_len, List.getElem?_append_right (Nat.le_refl _), Nat.sub_self]
            rfl
          have y2 : w3.cell? ⟨g, L2 + 1, none⟩ = some (.int .i64 ((k - 1 : Nat) : Int)) := by
            rw [HO3.out.cellAt _ (by omega), HST.out, natCells_snoc, natCells_snoc, List.append_assoc, ← HLEN.out, ← natCells_len, List.getElem?_append_right (by omega), Nat.add_sub_cancel_left]
            rfl
          cases hf : fieldsB ⟨op, nn, vr, at_, a, b2⟩
          · have HE := Lib.hid (tree_stop HG.out.1 (by rw [HX.out]; exact res_bad_fields hf) hlt)
            clear hf
            go_wp2_with fail
            go_ret
            exact ⟨by rw [HE.out]; rfl, hb3'⟩
          · have HF := Lib.hid hf
            clear hf
            go_wp2_with fail
            go_quiet (fail)
            have hb4 := bdrewN hb3' nq
            have P4 := Lib.hid (show (w3.drewN nq).heap[W1.heap.size]? = _ from P3.out)
            have HO4 := Lib.hid (show (w3.drewN nq).ownsRow _ _ _ _ _ _ from HO3.out)
            clear y1 y2
            generalize w3.drewN nq = w4 at *
            have x4 := blk_cell P4.out (j := 4) rfl
            have x5 := blk_cell P4.out (j := 5) rfl
            by_cases h1 : a = ((p - 1 : Nat) : Int)
            · by_cases h2 : b2 = ((k - 1 : Nat) : Int)
              · subst h1 h2
                have hr : nodeRes (f k) (lget l) k = some (lget l (p - 1)) := by
                  rw [HX.out]
                  have h3 := res_two (x := ⟨op, nn, vr, at_, ((p - 1 : Nat) : Int), ((k - 1 : Nat) : Int)⟩) (lf := lget l) HA.out HF.out hk0 (by show ((k - 1 : Nat) : Int) = _; omega) (by rw [HPE.out]; exact hp0) (by rw [HPE.out]; show ((p - 1 : Nat) : Int) = _; omega)
                  rw [HPE.out] at h3
                  exact h3
                have HR := Lib.hid (And.intro (bg_next HG.out.1 hr) (stk_next HG.out.1 hr))
                have HP := Lib.hid (show w4.ownsRow w.heap.size 3 1 (.slice (some ⟨g, 0, none⟩) L2 cap) L2 (natCells (stk (lget l) (lget l (p - 1)))) by
                  have h := own_pre HO4.out (m := L2) (by omega)
                  rw [HST.out, List.append_assoc, ← HLEN.out, natCells_take, HLEN.out] at h
                  exact h)
                clear hr
                go_wp2_with (at_builtin; go_loud (refine wpList_append_lies _ rfl _ _ _ rfl w.heap.size 3 i0 _ 1 8 Tryd.underlying27 hi0 hz0 hz1 hz2 rfl (by omega) _ _ (natCells (stk (lget l) (lget l (p - 1)))) rfl (HP.out.alloc _) ⟨w4.heap.size, 0, none⟩ 1 1 [.int .i64 (k : Int)] rfl rfl (World.news_of_block (cs := #[.int .i64 (k : Int)]) (t := 3) (fr := (0, 0)) (heap_alloc_new w4 _)) (by simp [Value.oneCell']) (by omega) (by unfold maxLen; omega) (by omega) (by have := hb4.size; simp; omega) (w4.heap.size + 1) (by simp) ?_; intro gg gcap w9 hown9 hgrow hat hlt9))
                have hb9 := below_grown (bnew hb4 (.cells #[.int .i64 (k : Int)] 3)) hgrow (by have := hb4.size; simp; omega) (fun x hx => by have := (HP.out.lt x hx).1; omega)
                have HN := Lib.hid (show w9.ownsRow w.heap.size 3 1 (.slice (some ⟨gg, 0, none⟩) (L2 + 1) gcap) (L2 + 1) (natCells (stk (lget (l ++ [lget l (p - 1)])) (k + 1))) by rw [HR.out.2, natCells_snoc]; exact hown9)
                go_roundw
                case rel => exact ⟨k + 1, L2 + 1, _, l ++ [lget l (p - 1)], by omega, by go_num, rfl, by omega, Lib.hid ⟨HR.out.1, by rw [HR.out.2, List.length_append, HLEN.out]; rfl⟩, HN, hb9⟩
                case measure => simp [intOf]; omega
              · have HE := Lib.hid (tree_stop HG.out.1 (by rw [HX.out]; exact res_two_bad HA.out (fun h => h2 (by have h3 : b2 = (k : Int) - 1 := h.2.1; omega))) hlt)
                have h2' : (b2 != ((k - 1 : Nat) : Int)) = true := by rw [bne_iff_ne]; exact h2
                subst h1
                clear h2
                go_wp2_with fail
                go_ret
                exact ⟨by rw [HE.out]; rfl, hb4⟩
            · have HE := Lib.hid (tree_stop HG.out.1 (by rw [HX.out]; exact res_two_bad HA.out (fun h => h1 (by have h3 : a = (lget l (k - 1) : Int) - 1 := h.2.2.2; rw [HPE.out] at h3; omega))) hlt)
              have h1' : (a != ((p - 1 : Nat) : Int)) = true := by rw [bne_iff_ne]; exact h1
              clear h1
              go_wp2_with fail
              go_ret
              exact ⟨by rw [HE.out]; rfl, hb4⟩
        · have hL : L ≤ 1 := by
            rcases Nat.eq_zero_or_pos k with e | e
            · omega
            · have hle := bg_le HG.out.1
              have h0 : lget l (k - 1) = 0 := by omega
              have hst := stk_pos hle e
              rw [h0, stk_zero] at hst
              have := HG.out.2
              rw [hst] at this
              simp at this
              omega
          have HE := Lib.hid (tree_stop HG.out.1 (by rw [HX.out]; exact res_two_bad HA.out (fun h => hp ⟨h.1, h.2.2.1⟩)) hlt)
          obtain ⟨oA, oc, rfl, _⟩ := rowown_shape HO2.out
          have hgt : (L : Int) < 2 := by omega
          clear hp
          go_wp2_with fail
          go_ret
          exact ⟨by rw [HE.out]; rfl, hb2⟩
    · obtain rfl : k = n := by omega
      obtain ⟨hG1, hG2⟩ := HG.out
      have hT := tree_end hG1
      have h1 := stk_one (bg_le hG1)
      rw [hG2] at h1
      have HE := Lib.hid (show treeB k f = ((L : Int) == 1) by
        rw [hT, Bool.eq_iff_iff, decide_eq_true_eq, ← h1, beq_iff_eq]
        omega)
      obtain ⟨oA, oc, rfl, _⟩ := rowown_shape HO.out
      clear hG1 hG2 hT h1
      go_wp2_with fail
      go_ret
      exact ⟨by rw [HE.out]; rfl, hb⟩
end Go.Proofs.YtagcbljfaflhoaaDoor

/-! ### A query in memory: what it reads as, and how a query that is handed in reads. -/
namespace Go.Proofs.YtagcbljfaflhoaaDoor
open Go.RowKit Go.ChangeShapes Go.WideShapes Go.Deep
/-- An item of a pattern. -/
structure Itm where
  neg : Bool
  tn : Nat
  ty : Nat → ByteArray
  vr : ByteArray
  lo : Int
  hi : Int
/-- An item's cells, v its types. -/
def itmCell (x : Itm) (v : Value) : Nat → Value
  | 0 => .bool x.neg
  | 1 => v
  | 2 => .string x.vr
  | 3 => .int .i64 x.lo
  | _ => .int .i64 x.hi
/-- A list of texts. -/
def TxtRd (w : World) (B : Nat) (A : Option Addr) (n : Nat) (f : Nat → ByteArray) : Prop := RowRd w B A n 1 16 (fun i _ => .string (f i))
/-- A list of items reads so. -/
def ItmsRd (w : World) (B : Nat) (A : Option Addr) (n : Nat) (f : Nat → Itm) : Prop :=
  ∃ V : Nat → Value, RowRd w B A n 5 64 (fun j => itmCell (f j) (V j)) ∧ ∀ j, j < n → ∃ a c, V j = .slice a (f j).tn c ∧ (f j).tn ≤ c ∧ (a = none → c = 0) ∧ TxtRd w B a (f j).tn (f j).ty
/-- A list of trees reads so. -/
def TreesRd (w : World) (B : Nat) (A : Option Addr) (m : Nat) (ln : Nat → Nat) (g : Nat → Nat → Nod) : Prop :=
  ∃ V : Nat → Value, RowRd w B A m 1 24 (fun j _ => V j) ∧ ∀ j, j < m → ∃ a c, V j = .slice a (ln j) c ∧ ln j ≤ c ∧ (a = none → c = 0) ∧ NodRd w B a (ln j) (g j)
/-- What an item's numbers and texts are. -/
structure ItmWf (x : Itm) : Prop where
  lo : I64 x.lo
  hi : I64 x.hi
  vr : x.vr.size ≤ maxLen
section
variable {w w' : World} {B B' n m : Nat} {A : Option Addr} {f : Nat → Itm} {ln : Nat → Nat} {g : Nat → Nat → Nod}
theorem ItmsRd.below (h : ItmsRd w B A n f) (hb : Below B w w') : ItmsRd w' B A n f := by
  obtain ⟨V, h1, h2⟩ := h
  refine ⟨V, RowRd.below h1 hb, fun j hj => ?_⟩
  obtain ⟨a, c, e, l, z, r⟩ := h2 j hj
  exact ⟨a, c, e, l, z, RowRd.below r hb⟩
theorem ItmsRd.more (h : ItmsRd w B A n f) (hB : B ≤ B') : ItmsRd w B' A n f := by
  obtain ⟨V, h1, h2⟩ := h
  refine ⟨V, RowRd.more h1 hB, fun j hj => ?_⟩
  obtain ⟨a, c, e, l, z, r⟩ := h2 j hj
  exact ⟨a, c, e, l, z, RowRd.more r hB⟩
theorem ItmsRd.later (h : ItmsRd w w.heap.size A n f) (hb : Below w.heap.size w w') : ItmsRd w' w'.heap.size A n f := (h.below hb).more hb.size
theorem ItmsRd.small (h : ItmsRd w B A n f) : n ≤ 2199023255488 := by obtain ⟨_, h1, _⟩ := h; have := h1.1; omega
theorem TreesRd.below (h : TreesRd w B A m ln g) (hb : Below B w w') : TreesRd w' B A m ln g := by
  obtain ⟨V, h1, h2⟩ := h
  refine ⟨V, RowRd.below h1 hb, fun j hj => ?_⟩
  obtain ⟨a, c, e, l, z, r⟩ := h2 j hj
  exact ⟨a, c, e, l, z, RowRd.below r hb⟩
theorem TreesRd.more (h : TreesRd w B A m ln g) (hB : B ≤ B') : TreesRd w B' A m ln g := by
  obtain ⟨V, h1, h2⟩ := h
  refine ⟨V, RowRd.more h1 hB, fun j hj => ?_⟩
  obtain ⟨a, c, e, l, z, r⟩ := h2 j hj
  exact ⟨a, c, e, l, z, RowRd.more r hB⟩
theorem TreesRd.later (h : TreesRd w w.heap.size A m ln g) (hb : Below w.heap.size w w') : TreesRd w' w'.heap.size A m ln g := (h.below hb).more hb.size
theorem TreesRd.small (h : TreesRd w B A m ln g) : m ≤ 5864062014805 := by obtain ⟨_, h1, _⟩ := h; have := h1.1; omega
/-- The cells of the items, as a walk comes to them. -/
theorem ItmsRd.spot (h : ItmsRd w B A n f) (hn : 0 < n) : ∃ b off, A = some ⟨b, off, none⟩ ∧ b < B ∧ ∀ j, j < n →
    w.cell? ⟨b, off + j * 5, none⟩ = some (.bool (f j).neg) ∧ (∃ a c, w.cell? ⟨b, off + j * 5 + 1, none⟩ = some (.slice a (f j).tn c) ∧ (f j).tn ≤ c ∧ (a = none → c = 0) ∧ TxtRd w B a (f j).tn (f j).ty) ∧
    w.cell? ⟨b, off + j * 5 + 2, none⟩ = some (.string (f j).vr) ∧ w.cell? ⟨b, off + j * 5 + 3, none⟩ = some (.int .i64 (f j).lo) ∧ w.cell? ⟨b, off + j * 5 + 4, none⟩ = some (.int .i64 (f j).hi) := by
  obtain ⟨V, h1, h2⟩ := h
  obtain ⟨b, off, e, hb, k1, k2⟩ := RowRd.spot h1 hn
  refine ⟨b, off, e, hb, fun j hj => ⟨k2 j hj (by omega), ?_, k1 j hj 2 (by omega), k1 j hj 3 (by omega), k1 j hj 4 (by omega)⟩⟩
  obtain ⟨a, c, e, l, z, r⟩ := h2 j hj
  exact ⟨a, c, by rw [← e]; exact k1 j hj 1 (by omega), l, z, r⟩
theorem TreesRd.spot (h : TreesRd w B A m ln g) (hn : 0 < m) : ∃ b off, A = some ⟨b, off, none⟩ ∧ b < B ∧ ∀ j, j < m → ∃ a c, w.cell? ⟨b, off + j, none⟩ = some (.slice a (ln j) c) ∧ ln j ≤ c ∧ (a = none → c = 0) ∧ NodRd w B a (ln j) (g j) := by
  obtain ⟨V, h1, h2⟩ := h
  obtain ⟨b, off, e, hb, k1⟩ := RowRd.spot1 h1 hn
  refine ⟨b, off, e, hb, fun j hj => ?_⟩
  obtain ⟨a, c, e, l, z, r⟩ := h2 j hj
  exact ⟨a, c, by rw [← e]; exact k1 j hj, l, z, r⟩
end
/-- A query. -/
structure Qry where
  n : Nat
  it : Nat → Itm
  mode : Int
  after : Int
  wn : Nat
  wh : Nat → Nod
  within : Int
  by_ : ByteArray
  m : Nat
  ln : Nat → Nat
  rt : Nat → Nat → Nod
/-- Where its lists lie. -/
structure QryV where
  aI : Option Addr
  cI : Nat
  aW : Option Addr
  cW : Nat
  aR : Option Addr
  cR : Nat
def qryArr (V : QryV) (Q : Qry) : Array Value := #[.slice V.aI Q.n V.cI, .int .i64 Q.mode, .int .i64 Q.after, .slice V.aW Q.wn V.cW, .int .i64 Q.within, .string Q.by_, .slice V.aR Q.m V.cR]
/-- A query reads so. -/
structure QryRd (w : World) (B : Nat) (V : QryV) (Q : Qry) : Prop where
  lI : Q.n ≤ V.cI
  zI : V.aI = none → V.cI = 0
  rI : ItmsRd w B V.aI Q.n Q.it
  lW : Q.wn ≤ V.cW
  zW : V.aW = none → V.cW = 0
  rW : NodRd w B V.aW Q.wn Q.wh
  lR : Q.m ≤ V.cR
  zR : V.aR = none → V.cR = 0
  rR : TreesRd w B V.aR Q.m Q.ln Q.rt
structure QryWf (Q : Qry) : Prop where
  it : ∀ j, j < Q.n → ItmWf (Q.it j)
  wh : ∀ j, j < Q.wn → NodWf (Q.wh j)
  rt : ∀ j, j < Q.m → ∀ i, i < Q.ln j → NodWf (Q.rt j i)
  within : I64 Q.within
  by_ : Q.by_.size ≤ maxLen
theorem QryRd.later {w w' : World} {V : QryV} {Q : Qry} (h : QryRd w w.heap.size V Q) (hb : Below w.heap.size w w') : QryRd w' w'.heap.size V Q :=
  ⟨h.lI, h.zI, h.rI.later hb, h.lW, h.zW, h.rW.later hb, h.lR, h.zR, h.rR.later hb⟩
section
variable {H : Type} {enc : TypeId × Value → H} {w : World} {base : Nat} {sp : Nat → Bool} {held : Bool}
/-- A list of items that is handed in. -/
theorem rd_items {fuel : Nat} {v : Value} {y : DataW H × List MemPlace} (h : DataW.trod enc Tryd.prog w base sp held fuel 35 [v] = some y) (hr : Reached Tryd.prog 35 y.1) :
    ∃ (A : Option Addr) (n cap : Nat) (f : Nat → Itm), v = .slice A n cap ∧ n ≤ cap ∧ (A = none → cap = 0) ∧ ItmsRd w w.heap.size A n f ∧ ∀ j, j < n → ItmWf (f j) := by
  have hc5 : Tryd.prog.cellsOf 80 = 5 := by kernel_rfl
  have hb64 : Tryd.prog.bytesOf 80 = 64 := by kernel_rfl
  obtain ⟨A, n, cap, E, rfl, hl, h0, hE, hR⟩ := rd_slice Tryd.underlying35 hc5 (by omega) hb64 h hr
  have k1 : Tryd.prog.cellsOf 4 = 1 := by kernel_rfl
  have k2 : Tryd.prog.cellsOf 75 = 1 := by kernel_rfl
  have k3 : Tryd.prog.cellsOf 9 = 1 := by kernel_rfl
  have k4 : Tryd.prog.cellsOf 3 = 1 := by kernel_rfl
  have k5 : Tryd.prog.bytesOf 9 = 16 := by kernel_rfl
  have key : ∀ j, ∃ z : Itm × Value, j < n → (∀ i, i < 5 → (E j)[i]? = some (itmCell z.1 z.2 i)) ∧ (∃ a c, z.2 = .slice a z.1.tn c ∧ z.1.tn ≤ c ∧ (a = none → c = 0) ∧ TxtRd w w.heap.size a z.1.tn z.1.ty) ∧ ItmWf z.1 := by
    intro j
    by_cases hj : j < n
    · obtain ⟨hlen, f, y', ht', hr'⟩ := hE j hj
      match hE' : E j, hlen with
      | [c0, c1, c2, c3, c4], _ =>
        rw [hE'] at ht'
        obtain ⟨xs, m, _, hx, _, hl2, hg⟩ := DataW.trod_struct Tryd.underlying80 ht'
        match xs, hl2 with
        | [y0, y1, y2, y3, y4], _ =>
          have g0 := hg 0 _ rfl
          have g1 := hg 1 _ rfl
          have g2 := hg 2 _ rfl
          have g3 := hg 3 _ rfl
          have g4 := hg 4 _ rfl
          simp [k1, k2, k3, k4] at g0 g1 g2 g3 g4
          have hd : y'.1 = .agg [y0.1, y1.1, y2.1, y3.1, y4.1] := by simpa using (Prod.mk.inj hx).1
          rw [hd] at hr'
          have s1 := reach_cons (reach_cons (reached_struct Tryd.underlying80 hr')).2
          obtain ⟨ng, e0, _⟩ := DataW.trod_bool Tryd.underlying4 g0
          obtain ⟨A1, tn, q1, ty, e1, l1, z1, r1⟩ := rd_strs Tryd.underlying75 Tryd.underlying9 k3 k5 g1 s1.1
          obtain ⟨vr, e2, _, w2⟩ := DataW.trod_string Tryd.underlying9 g2
          obtain ⟨lo, e3, _, w3⟩ := DataW.trod_int Tryd.underlying3 g3
          obtain ⟨hi, e4, _, w4⟩ := DataW.trod_int Tryd.underlying3 g4
          injection e0 with e0
          injection e2 with e2
          injection e3 with e3
          injection e4 with e4
          subst e0 e1 e2 e3 e4
          refine ⟨(⟨ng, tn, ty, vr, lo, hi⟩, .slice A1 tn q1), fun _ => ⟨fun i hi => ?_, ⟨A1, q1, rfl, l1, z1, r1⟩, bounds_i64 w3, bounds_i64 w4, w2⟩⟩
          obtain rfl | rfl | rfl | rfl | rfl : i = 0 ∨ i = 1 ∨ i = 2 ∨ i = 3 ∨ i = 4 := by omega
          all_goals rfl
    · exact ⟨(⟨false, 0, fun _ => .empty, .empty, 0, 0⟩, .bool false), fun h => absurd h hj⟩
  obtain ⟨z, hz⟩ := Classical.axiomOfChoice key
  refine ⟨A, n, cap, fun j => (z j).1, rfl, hl, h0, ⟨fun j => (z j).2, hR.congr fun j hj i hi => ?_, fun j hj => (hz j hj).2.1⟩, fun j hj => (hz j hj).2.2⟩
  rw [(hz j hj).1 i hi]
  rfl
/-- A list of trees that is handed in. -/
theorem rd_trees {fuel : Nat} {v : Value} {y : DataW H × List MemPlace} (h : DataW.trod enc Tryd.prog w base sp held fuel 38 [v] = some y) (hr : Reached Tryd.prog 38 y.1) :
    ∃ (A : Option Addr) (m cap : Nat) (ln : Nat → Nat) (g : Nat → Nat → Nod), v = .slice A m cap ∧ m ≤ cap ∧ (A = none → cap = 0) ∧ TreesRd w w.heap.size A m ln g ∧ ∀ j, j < m → ∀ i, i < ln j → NodWf (g j i) := by
  have hs : Tryd.prog.cellsOf 22 = 1 := by kernel_rfl
  have hbt : Tryd.prog.bytesOf 22 = 24 := by kernel_rfl
  obtain ⟨A, n, cap, E, rfl, hl, h0, hE, hR⟩ := rd_slice Tryd.underlying38 hs (by omega) hbt h hr
  have key : ∀ j, ∃ z : Value × Nat × (Nat → Nod), j < n → E j = [z.1] ∧ (∃ a c, z.1 = .slice a z.2.1 c ∧ z.2.1 ≤ c ∧ (a = none → c = 0) ∧ NodRd w w.heap.size a z.2.1 z.2.2) ∧ ∀ i, i < z.2.1 → NodWf (z.2.2 i) := by
    intro j
    by_cases hj : j < n
    · obtain ⟨h1, f, y', ht', hr'⟩ := hE j hj
      match hE' : E j, h1 with
      | [c0], _ =>
        rw [hE'] at ht'
        obtain ⟨a, m, c, g, e1, e2, e3, e4, e5⟩ := rd_nodes ht' hr'
        exact ⟨(c0, m, g), fun _ => ⟨rfl, ⟨a, c, e1, e2, e3, e4⟩, e5⟩⟩
    · exact ⟨(.bool false, 0, fun _ => ⟨0, 0, .empty, .empty, 0, 0⟩), fun h => absurd h hj⟩
  obtain ⟨z, hz⟩ := Classical.axiomOfChoice key
  refine ⟨A, n, cap, fun j => (z j).2.1, fun j => (z j).2.2, rfl, hl, h0, ⟨fun j => (z j).1, hR.congr fun j hj i hi => ?_, fun j hj => (hz j hj).2.1⟩, fun j hj => (hz j hj).2.2⟩
  rw [(hz j hj).1]
  obtain rfl : i = 0 := by omega
  rfl
set_option maxRecDepth 20000 in
/-- A query that is handed in. -/
theorem open_query {r : Reach} {b0 : Nat} {v : Value} {d : DataW H} {p : List MemPlace} (hv : Value.okWide Tryd.prog w r b0 40 v) (h : DataW.Trod enc Tryd.prog w base sp held 40 v d p) (hr : Reached Tryd.prog 40 d) :
    ∃ V Q, v = .agg (qryArr V Q) ∧ QryRd w w.heap.size V Q ∧ QryWf Q := by
  obtain ⟨cs, rfl, hsz⟩ := okWide_struct Tryd.underlying40 hv
  have hc7 : Tryd.prog.cellsOf 40 = 7 := by kernel_rfl
  have h1 : cs.size = 7 := hsz.trans hc7
  have k1 : Tryd.prog.cellsOf 35 = 1 := by kernel_rfl
  have k2 : Tryd.prog.cellsOf 36 = 1 := by kernel_rfl
  have k3 : Tryd.prog.cellsOf 37 = 1 := by kernel_rfl
  have k4 : Tryd.prog.cellsOf 22 = 1 := by kernel_rfl
  have k5 : Tryd.prog.cellsOf 2 = 1 := by kernel_rfl
  have k6 : Tryd.prog.cellsOf 9 = 1 := by kernel_rfl
  have k7 : Tryd.prog.cellsOf 38 = 1 := by kernel_rfl
  obtain ⟨l⟩ := cs
  match l, h1 with
  | [c0, c1, c2, c3, c4, c5, c6], _ =>
    obtain ⟨fuel, hf⟩ := h
    obtain ⟨xs, n, _, hx, _, hlen, hg⟩ := DataW.trod_struct Tryd.underlying40 hf
    match xs, hlen with
    | [y0, y1, y2, y3, y4, y5, y6], _ =>
      have g0 := hg 0 _ rfl
      have g1 := hg 1 _ rfl
      have g2 := hg 2 _ rfl
      have g3 := hg 3 _ rfl
      have g4 := hg 4 _ rfl
      have g5 := hg 5 _ rfl
      have g6 := hg 6 _ rfl
      simp [k1, k2, k3, k4, k5, k6, k7, Value.cells] at g0 g1 g2 g3 g4 g5 g6
      simp only [Prod.mk.injEq] at hx
      have hd : d = .agg [y0.1, y1.1, y2.1, y3.1, y4.1, y5.1, y6.1] := by simpa using hx.1
      rw [hd] at hr
      have s0 := reach_cons (reached_struct Tryd.underlying40 hr)
      have s3 := reach_cons (reach_cons (reach_cons s0.2).2).2
      have s6 := reach_cons (reach_cons (reach_cons s3.2).2).2
      obtain ⟨A0, n0, q0, f0, e0, l0, z0, r0, u0⟩ := rd_items g0 s0.1
      obtain ⟨mo, e1, _⟩ := DataW.trod_int Tryd.underlying36 g1
      obtain ⟨af, e2, _⟩ := DataW.trod_int Tryd.underlying37 g2
      obtain ⟨A3, n3, q3, f3, e3, l3, z3, r3, u3⟩ := rd_nodes g3 s3.1
      obtain ⟨wi, e4, _, w4⟩ := DataW.trod_int Tryd.underlying2 g4
      obtain ⟨by_, e5, _, w5⟩ := DataW.trod_string Tryd.underlying9 g5
      obtain ⟨A6, m, q6, L, F, e6, l6, z6, r6, u6⟩ := rd_trees g6 s6.1
      injection e1 with e1
      injection e2 with e2
      injection e4 with e4
      injection e5 with e5
      subst e0 e1 e2 e3 e4 e5 e6
      exact ⟨⟨A0, q0, A3, q3, A6, q6⟩, ⟨n0, f0, mo, af, n3, f3, wi, by_, m, L, F⟩, rfl, ⟨l0, z0, r0, l3, z3, r3, l6, z6, r6⟩, ⟨u0, u3, u6, bounds_i64 w4, w5⟩⟩
end
end Go.Proofs.YtagcbljfaflhoaaDoor

/-
  The walk of show.Tree.
-/
import Derived.Test.YtfcdkadblagijaaDoorFields
import Derived.Deep.RegionLaw
set_option linter.unusedSimpArgs false
namespace Go.Proofs.YtfcdkadblagijaaDoor
open Go.RowKit Go.ChangeShapes Go.WideShapes Go.ChangeAt Go.Deep Go.Joins
theorem infoIntT : (Tryd.prog.info? 3).map (fun i => (i.zero, i.size, i.bytes)) = some (some (.int .i64 0), 1, 8) := by kernel_rfl
/-- Numbers as cells. -/
def natCells (l : List Nat) : List Value := l.map fun (x : Nat) => Value.int .i64 (x : Int)
theorem natCells_at {l : List Nat} {j : Nat} (h : j < l.length) : (natCells l)[j]? = some (.int .i64 ((l[j] : Nat) : Int)) := by simp [natCells, h]
/-- A row's beginning. -/
theorem own_pre {w : World} {B n m g c : Nat} {e : TypeId} {xs : List Value} (h : w.ownsRow B e 1 (.slice (some ⟨g, 0, none⟩) n c) n xs) (hm : m ≤ n) : w.ownsRow B e 1 (.slice (some ⟨g, 0, none⟩) m c) m (xs.take m) := by
  refine ⟨by rw [List.length_take, h.1]; omega, ?_⟩
  rcases h.2 with ⟨e1, _⟩ | ⟨g', cap, cur, e1, h1, h2, h3, h4, h5, h6⟩
  · cases e1
  · injection e1 with e1 _ e2
    injection e1 with e1
    injection e1 with e1
    subst e1 e2
    refine Or.inr ⟨g, c, cur, rfl, h1, h2, by omega, h4, h5, ?_⟩
    rw [← h6, List.take_take, Nat.mul_one, Nat.mul_one, Nat.min_eq_left hm]
theorem natCells_snoc (l : List Nat) (k : Nat) : natCells (l ++ [k]) = natCells l ++ [.int .i64 (k : Int)] := by simp [natCells]
theorem natCells_len (l : List Nat) : (natCells l).length = l.length := by simp [natCells]
theorem natCells_take (l : List Nat) (r : List Nat) : (natCells (l ++ r)).take l.length = natCells l := by
  rw [natCells, natCells, List.map_append, List.take_append_of_le_length (by simp), List.take_of_length_le (by simp)]
theorem blk6 {w : World} {b : Nat} {v0 v1 v2 v3 v4 v5 : Value} {T : TypeId} (h : w.heap[b]? = some (.cells #[v0, v1, v2, v3, v4, v5] T (0, 0))) :
    w.cell? ⟨b, 0, none⟩ = some v0 ∧ w.cell? ⟨b, 1, none⟩ = some v1 ∧ w.cell? ⟨b, 2, none⟩ = some v2 ∧ w.cell? ⟨b, 3, none⟩ = some v3 ∧ w.cell? ⟨b, 4, none⟩ = some v4 ∧ w.cell? ⟨b, 5, none⟩ = some v5 :=
  ⟨blk_cell h rfl, blk_cell h rfl, blk_cell h rfl, blk_cell h rfl, blk_cell h rfl, blk_cell h rfl⟩
theorem arity_cases (op : Int) : arity op = -1 ∨ arity op = 0 ∨ arity op = 1 ∨ arity op = 2 := by
  unfold arity
  split
  · omega
  · split
    · omega
    · split <;> omega
section
variable {f : Nat → Nod} {l : List Nat} {k : Nat} {x : Nod}
theorem stk_one (h : ∀ j, j < k → lget l j ≤ j) : ((stk (lget l) k).length = 1) ↔ (0 < k ∧ lget l (k - 1) = 0) := by
  rcases Nat.eq_zero_or_pos k with e | e
  · subst e; rw [stk_zero]; simp
  · rw [stk_pos h e, List.length_append]
    have h1 := h (k - 1) (by omega)
    rcases Nat.eq_zero_or_pos (lget l (k - 1)) with e2 | e2
    · rw [e2, stk_zero]; simp [e]
    · rw [stk_pos (fun j hj => h j (by omega)) e2]
      simp
      omega
theorem res_bad_arity {lf : Nat → Nat} (h : arity x.op = -1) : nodeRes x lf k = none := by
  unfold nodeRes
  rw [h]
  split <;> simp
theorem res_bad_fields {lf : Nat → Nat} (h : fieldsB x = false) : nodeRes x lf k = none := by unfold nodeRes; rw [h]; rfl
theorem res_zero {lf : Nat → Nat} (h : arity x.op = 0) (hf : fieldsB x = true) (ha : x.a = -1) (hb : x.b = -1) : nodeRes x lf k = some k := by
  unfold nodeRes
  rw [if_pos hf, if_pos h, if_pos ⟨ha, hb⟩]
theorem res_zero_bad {lf : Nat → Nat} (h : arity x.op = 0) (hn : ¬ (x.a = -1 ∧ x.b = -1)) : nodeRes x lf k = none := by
  cases hf : fieldsB x
  · exact res_bad_fields hf
  · unfold nodeRes
    rw [if_pos hf, if_pos h, if_neg hn]
theorem res_one {lf : Nat → Nat} (h : arity x.op = 1) (hf : fieldsB x = true) (hk : 1 ≤ k) (ha : x.a = (k : Int) - 1) (hb : x.b = -1) : nodeRes x lf k = some (lf (k - 1)) := by
  unfold nodeRes
  rw [if_pos hf, if_neg (by omega), if_pos h, if_pos ⟨hk, ha, hb⟩]
theorem res_one_bad {lf : Nat → Nat} (h : arity x.op = 1) (hn : ¬ (1 ≤ k ∧ x.a = (k : Int) - 1 ∧ x.b = -1)) : nodeRes x lf k = none := by
  cases hf : fieldsB x
  · exact res_bad_fields hf
  · unfold nodeRes
    rw [if_pos hf, if_neg (show ¬ arity x.op = 0 by omega), if_pos h, if_neg hn]
theorem res_two {lf : Nat → Nat} (h : arity x.op = 2) (hf : fieldsB x = true) (hk : 1 ≤ k) (hb : x.b = (k : Int) - 1) (hl : 1 ≤ lf (k - 1)) (ha : x.a = (lf (k - 1) : Int) - 1) : nodeRes x lf k = some (lf (lf (k - 1) - 1)) := by
  unfold nodeRes
  rw [if_pos hf, if_neg (by omega), if_neg (by omega), if_pos h, if_pos ⟨hk, hb, hl, ha⟩, ha]
  congr 2
  omega
theorem res_two_bad {lf : Nat → Nat} (h : arity x.op = 2) (hn : ¬ (1 ≤ k ∧ x.b = (k : Int) - 1 ∧ 1 ≤ lf (k - 1) ∧ x.a = (lf (k - 1) : Int) - 1)) : nodeRes x lf k = none := by
  cases hf : fieldsB x
  · exact res_bad_fields hf
  · unfold nodeRes
    rw [if_pos hf, if_neg (show ¬ arity x.op = 0 by omega), if_neg (show ¬ arity x.op = 1 by omega), if_pos h, if_neg hn]
/-- The stack behind a node. -/
theorem stk_next {v : Nat} (hb : bg f k = some l) (hr : nodeRes (f k) (lget l) k = some v) : stk (lget (l ++ [v])) (k + 1) = stk (lget l) v ++ [k] := by
  have hl := bg_len hb
  have hle := bg_le (bg_next hb hr)
  have h1 : lget (l ++ [v]) k = v := by rw [← hl, lget_last]
  have hv := nodeRes_le (bg_le hb) hr
  rw [stk_succ (hle k (by omega)), h1]
  congr 1
  exact stk_congr v (fun j hj => lget_left (by omega) v) (fun j hj => hle j (by omega))
end
set_option maxRecDepth 100000 in
set_option maxHeartbeats 4000000 in
theorem showTree_any (A : Option Addr) (n c : Nat) (f : Nat → Nod) (w : World) (h : NodRd w w.heap.size A n f) {tt : TypeId} {fr : Nat × Nat} (hkw : w.heap[2]? = some (.cells kwArr tt fr)) :
    Calls Tryd.prog 8 #[.slice A n c] w fun e w' => e = .returned (.bool (treeB n f)) ∧ Below w.heap.size w w' := by
  obtain ⟨i0, hi0, hz0, hz1, hz2⟩ := info_parts infoIntT
  have hn := h.small
  have HT := Lib.hid h
  have HK := Lib.hid hkw
  clear h hkw
  go_enter Tryd.func8, Tryd.ntmps8
  go_wp2_with fail
  go_loopw [11, 3] (fun i o wr => ∃ (k L : Nat) (ov : Value) (l : List Nat), k ≤ n ∧ i = .int .i64 k ∧ ov = o ∧ L ≤ k ∧ Hid (bg f k = some l ∧ (stk (lget l) k).length = L) ∧ Hid (wr.ownsRow w.heap.size 3 1 ov L (natCells (stk (lget l) k))) ∧ Below w.heap.size w wr) (fun i _ _ => n - (intOf i).toNat)
  case atStart => exact ⟨0, 0, .slice none 0 0, [], Nat.zero_le _, rfl, rfl, Nat.le_refl _, Lib.hid ⟨rfl, by rw [stk_zero]; rfl⟩, Lib.hid (by rw [stk_zero]; exact World.ownsRow_nil _ _ _ _), Below.refl _ _⟩
  case round =>
    obtain ⟨k, L, ov, l, hk, rfl, rfl, hLk, HG, HO, hb⟩ := hrel
    obtain ⟨W1, e1⟩ : ∃ W1 : World, W1 = wr := ⟨_, rfl⟩
    subst e1
    by_cases hlt : k < n
    · obtain ⟨b, off, rfl, hbl, hcs⟩ := HT.out.spot (by omega)
      obtain ⟨c0, c1, c2, c3, c4, c5⟩ := hcs k hlt
      have d0 := (hb.cell (p := ⟨b, off + k * 6, none⟩) hbl).trans c0
      have d1 := (hb.cell (p := ⟨b, off + k * 6 + 1, none⟩) hbl).trans c1
      have d2 := (hb.cell (p := ⟨b, off + k * 6 + 2, none⟩) hbl).trans c2
      have d3 := (hb.cell (p := ⟨b, off + k * 6 + 3, none⟩) hbl).trans c3
      have d4 := (hb.cell (p := ⟨b, off + k * 6 + 4, none⟩) hbl).trans c4
      have d5 := (hb.cell (p := ⟨b, off + k * 6 + 5, none⟩) hbl).trans c5
      clear hcs c0 c1 c2 c3 c4 c5
      obtain ⟨x, hx⟩ : ∃ x, f k = x := ⟨_, rfl⟩
      rw [hx] at d0 d1 d2 d3 d4 d5
      have HX := Lib.hid hx
      clear hx
      obtain ⟨op, nn, vr, at_, a, b2⟩ := x
      dsimp only at d0 d1 d2 d3 d4 d5
      have hb2 := bnew hb (.cells #[.int .i64 op, .int .i64 nn, .string vr, .string at_, .int .i64 a, .int .i64 b2] 44)
      have P2 := Lib.hid (blk_new W1 #[.int .i64 op, .int .i64 nn, .string vr, .string at_, .int .i64 a, .int .i64 b2] 44)
      have HO2 := Lib.hid (HO.out.alloc (.cells #[.int .i64 op, .int .i64 nn, .string vr, .string at_, .int .i64 a, .int .i64 b2] 44))
      clear HO
      go_wp2_with fail
      generalize W1.alloc (.cells #[.int .i64 op, .int .i64 nn, .string vr, .string at_, .int .i64 a, .int .i64 b2] 44) = w2 at *
      refine (operands_any op _).mono ?_
      rintro e w2' ⟨rfl, rfl⟩
      have hsz := W1.heap.size
      rcases arity_cases op with ha | ha | ha | ha
      all_goals
        rw [ha]
        have HA := Lib.hid ha
        clear ha
      · have HE := Lib.hid (tree_stop HG.out.1 (by rw [HX.out]; exact res_bad_arity HA.out) hlt)
        obtain ⟨oA, oc, rfl, _⟩ := rowown_shape HO2.out
        go_wp2_with fail
        go_ret
        exact ⟨by rw [HE.out]; rfl, hb2⟩
      · -- no operand
        obtain ⟨z0, z1, z2, z3, z4, z5⟩ := blk6 P2.out
        obtain ⟨oA, oc, rfl, _⟩ := rowown_shape HO2.out
        have hL0 : ¬ ((L : Int) < 0) := by omega
        go_wp2_with fail
        refine (fields_any ⟨op, nn, vr, at_, a, b2⟩ _ (block_below HK.out hb2)).mono ?_
        rintro e w3 ⟨rfl, hb3⟩
        have hb3' := bcall hb2 hb3
        have x4 := blk_cell (blk_below P2.out hb3) (j := 4) rfl
        have x5 := blk_cell (blk_below P2.out hb3) (j := 5) rfl
        have HO3 := Lib.hid (rowown_below HO2.out hb3)
        cases hf : fieldsB ⟨op, nn, vr, at_, a, b2⟩
        · have HE := Lib.hid (tree_stop HG.out.1 (by rw [HX.out]; exact res_bad_fields hf) hlt)
          clear hf
          go_wp2_with fail
          go_ret
          exact ⟨by rw [HE.out]; rfl, hb3'⟩
        · have HF := Lib.hid hf
          clear hf
          by_cases hab : a = -1 ∧ b2 = -1
          · obtain ⟨rfl, rfl⟩ := hab
            have hr : nodeRes (f k) (lget l) k = some k := by rw [HX.out]; exact res_zero HA.out HF.out rfl rfl
            have HR := Lib.hid (And.intro (bg_next HG.out.1 hr) (stk_next HG.out.1 hr))
            clear hr
            rcases ownsRow_forms HO3.out with ⟨e, rfl⟩ | ⟨g, cap, e⟩
            · injection e with e1 _ e2
              subst e1 e2
              have HLEN := Lib.hid HG.out.2
              go_wp2_with (at_builtin; go_loud (refine wpList_append_lies _ rfl _ _ _ rfl w.heap.size 3 i0 _ 1 8 Tryd.underlying45 hi0 hz0 hz1 hz2 rfl (by omega) _ _ (natCells (stk (lget l) k)) rfl (HO3.out.alloc _) ⟨w3.heap.size, 0, none⟩ 1 1 [.int .i64 (k : Int)] rfl rfl (World.news_of_block (cs := #[.int .i64 (k : Int)]) (t := 3) (fr := (0, 0)) (heap_alloc_new w3 _)) (by simp [Value.oneCell']) (by omega) (by unfold maxLen; omega) (by omega) (by have := hb3'.size; simp; omega) (w3.heap.size + 1) (by simp) ?_; intro gg gcap w9 hown9 hgrow hat hlt9))
              have hb9 := below_grown (bnew hb3' (.cells #[.int .i64 (k : Int)] 3)) hgrow (by have := hb3'.size; simp; omega) (fun x hx => by have := (HO3.out.lt x hx).1; omega)
              have HN := Lib.hid (show w9.ownsRow w.heap.size 3 1 (.slice (some ⟨gg, 0, none⟩) (0 + 1) gcap) (0 + 1) (natCells (stk (lget (l ++ [k])) (k + 1))) by rw [HR.out.2, natCells_snoc]; exact hown9)
              go_roundw
              case rel => exact ⟨k + 1, 0 + 1, _, l ++ [k], by omega, by go_num, rfl, by omega, Lib.hid ⟨HR.out.1, by rw [HR.out.2, List.length_append, HLEN.out]; rfl⟩, HN, hb9⟩
              case measure => simp [intOf]; omega
            · injection e with e1 _ e2
              subst e1 e2
              have HLEN := Lib.hid HG.out.2
              go_wp2_with (at_builtin; go_loud (refine wpList_append_lies _ rfl _ _ _ rfl w.heap.size 3 i0 _ 1 8 Tryd.underlying45 hi0 hz0 hz1 hz2 rfl (by omega) _ _ (natCells (stk (lget l) k)) rfl (HO3.out.alloc _) ⟨w3.heap.size, 0, none⟩ 1 1 [.int .i64 (k : Int)] rfl rfl (World.news_of_block (cs := #[.int .i64 (k : Int)]) (t := 3) (fr := (0, 0)) (heap_alloc_new w3 _)) (by simp [Value.oneCell']) (by omega) (by unfold maxLen; omega) (by omega) (by have := hb3'.size; simp; omega) (w3.heap.size + 1) (by simp) ?_; intro gg gcap w9 hown9 hgrow hat hlt9))
              have hb9 := below_grown (bnew hb3' (.cells #[.int .i64 (k : Int)] 3)) hgrow (by have := hb3'.size; simp; omega) (fun x hx => by have := (HO3.out.lt x hx).1; omega)
              have HN := Lib.hid (show w9.ownsRow w.heap.size 3 1 (.slice (some ⟨gg, 0, none⟩) (L + 1) gcap) (L + 1) (natCells (stk (lget (l ++ [k])) (k + 1))) by rw [HR.out.2, natCells_snoc]; exact hown9)
              go_roundw
              case rel => exact ⟨k + 1, L + 1, _, l ++ [k], by omega, by go_num, rfl, by omega, Lib.hid ⟨HR.out.1, by rw [HR.out.2, List.length_append, HLEN.out]; rfl⟩, HN, hb9⟩
              case measure => simp [intOf]; omega
          · have HE := Lib.hid (tree_stop HG.out.1 (by rw [HX.out]; exact res_zero_bad HA.out hab) hlt)
            have hab' : (a != -1 || b2 != -1) = true := by
              rw [Bool.or_eq_true, bne_iff_ne, bne_iff_ne]
              by_cases h1 : a = -1
              · exact Or.inr fun h2 => hab ⟨h1, h2⟩
              · exact Or.inl h1
            by_cases h1 : a = -1
            · have h2 : (b2 != -1) = true := by rw [bne_iff_ne]; exact fun h2 => hab ⟨h1, h2⟩
              subst h1
              clear hab hab'
              go_wp2_with fail
              go_ret
              exact ⟨by rw [HE.out]; rfl, hb3'⟩
            · have h1 : (a != -1) = true := by rw [bne_iff_ne]; exact h1
              clear hab hab'
              go_wp2_with fail
              go_ret
              exact ⟨by rw [HE.out]; rfl, hb3'⟩
      · -- one operand
        obtain ⟨z0, z1, z2, z3, z4, z5⟩ := blk6 P2.out
        rcases Nat.eq_zero_or_pos k with hk0 | hk0
        · have hL : L = 0 := by omega
          subst hL
          have HE := Lib.hid (tree_stop HG.out.1 (by rw [HX.out]; exact res_one_bad HA.out (by omega)) hlt)
          obtain ⟨oA, oc, rfl, _⟩ := rowown_shape HO2.out
          go_wp2_with fail
          go_ret
          exact ⟨by rw [HE.out]; rfl, hb2⟩
        · have hle := bg_le HG.out.1
          have hst := stk_pos hle hk0
          obtain ⟨L1, hL1⟩ : ∃ L1, L1 = (stk (lget l) (lget l (k - 1))).length := ⟨_, rfl⟩
          have hL : L = L1 + 1 := by rw [← HG.out.2, hst, List.length_append, ← hL1]; rfl
          subst hL
          obtain ⟨g, cap, rfl⟩ : ∃ g cap, ov = .slice (some ⟨g, 0, none⟩) (L1 + 1) cap := by
            obtain ⟨g, cap, e, _⟩ := HO2.out.form (by omega)
            exact ⟨g, cap, e⟩
          have HST := Lib.hid hst
          have HLEN := Lib.hid hL1.symm
          have HLE := Lib.hid hle
          clear hle hst hL1
          have hgt : ¬ ((L1 + 1 : Nat) : Int) < 1 := by omega
          have hcap : L1 + 1 ≤ cap := by
            obtain ⟨A', c', e, hc, _⟩ := rowown_shape HO2.out
            injection e with _ _ e
            rw [e]; exact hc
          go_wp2_with fail
          refine (fields_any ⟨op, nn, vr, at_, a, b2⟩ _ (block_below HK.out hb2)).mono ?_
          rintro e w3 ⟨rfl, hb3⟩
          have hb3' := bcall hb2 hb3
          have x4 := blk_cell (blk_below P2.out hb3) (j := 4) rfl
          have x5 := blk_cell (blk_below P2.out hb3) (j := 5) rfl
          have HO3 := Lib.hid (rowown_below HO2.out hb3)
          have y1 : w3.cell? ⟨g, L1, none⟩ = some (.int .i64 ((k - 1 : Nat) : Int)) := by
            rw [HO3.out.cellAt _ (by omega), HST.out, natCells_snoc, ← HLEN.out, ← natCells_len, List.getElem?_append_right (Nat.le_refl _), Nat.sub_self]
            rfl
          cases hf : fieldsB ⟨op, nn, vr, at_, a, b2⟩
          · have HE := Lib.hid (tree_stop HG.out.1 (by rw [HX.out]; exact res_bad_fields hf) hlt)
            clear hf
            go_wp2_with fail
            go_ret
            exact ⟨by rw [HE.out]; rfl, hb3'⟩
          · have HF := Lib.hid hf
            clear hf
            by_cases h1 : a = ((k - 1 : Nat) : Int)
            · by_cases h2 : b2 = -1
              · subst h1 h2
                have hr : nodeRes (f k) (lget l) k = some (lget l (k - 1)) := by rw [HX.out]; exact res_one HA.out HF.out hk0 (by show ((k - 1 : Nat) : Int) = _; omega) rfl
                have HR := Lib.hid (And.intro (bg_next HG.out.1 hr) (stk_next HG.out.1 hr))
                have HP := Lib.hid (show w3.ownsRow w.heap.size 3 1 (.slice (some ⟨g, 0, none⟩) L1 cap) L1 (natCells (stk (lget l) (lget l (k - 1)))) by
                  have h := own_pre HO3.out (m := L1) (by omega)
                  rw [HST.out, ← HLEN.out, natCells_take, HLEN.out] at h
                  exact h)
                clear hr
                go_wp2_with (at_builtin; go_loud (refine wpList_append_lies _ rfl _ _ _ rfl w.heap.size 3 i0 _ 1 8 Tryd.underlying45 hi0 hz0 hz1 hz2 rfl (by omega) _ _ (natCells (stk (lget l) (lget l (k - 1)))) rfl (HP.out.alloc _) ⟨w3.heap.size, 0, none⟩ 1 1 [.int .i64 (k : Int)] rfl rfl (World.news_of_block (cs := #[.int .i64 (k : Int)]) (t := 3) (fr := (0, 0)) (heap_alloc_new w3 _)) (by simp [Value.oneCell']) (by omega) (by unfold maxLen; omega) (by omega) (by have := hb3'.size; simp; omega) (w3.heap.size + 1) (by simp) ?_; intro gg gcap w9 hown9 hgrow hat hlt9))
                have hb9 := below_grown (bnew hb3' (.cells #[.int .i64 (k : Int)] 3)) hgrow (by have := hb3'.size; simp; omega) (fun x hx => by have := (HP.out.lt x hx).1; omega)
                have HN := Lib.hid (show w9.ownsRow w.heap.size 3 1 (.slice (some ⟨gg, 0, none⟩) (L1 + 1) gcap) (L1 + 1) (natCells (stk (lget (l ++ [lget l (k - 1)])) (k + 1))) by rw [HR.out.2, natCells_snoc]; exact hown9)
                go_roundw
                case rel => exact ⟨k + 1, L1 + 1, _, l ++ [lget l (k - 1)], by omega, by go_num, rfl, by omega, Lib.hid ⟨HR.out.1, by rw [HR.out.2, List.length_append, HLEN.out]; rfl⟩, HN, hb9⟩
                case measure => simp [intOf]; omega
              · have HE := Lib.hid (tree_stop HG.out.1 (by rw [HX.out]; exact res_one_bad HA.out (fun h => h2 h.2.2)) hlt)
                have h2' : (b2 != -1) = true := by rw [bne_iff_ne]; exact h2
                subst h1
                clear h2
                go_wp2_with fail
                go_ret
                exact ⟨by rw [HE.out]; rfl, hb3'⟩
            · have HE := Lib.hid (tree_stop HG.out.1 (by rw [HX.out]; exact res_one_bad HA.out (fun h => h1 (by have h3 : a = (k : Int) - 1 := h.2.1; omega))) hlt)
              have h1' : (a != ((k - 1 : Nat) : Int)) = true := by rw [bne_iff_ne]; exact h1
              clear h1
              go_wp2_with fail
              go_ret
              exact ⟨by rw [HE.out]; rfl, hb3'⟩
      · -- two operands
        obtain ⟨z0, z1, z2, z3, z4, z5⟩ := blk6 P2.out
        by_cases hp : 0 < k ∧ 0 < lget l (k - 1)
        · obtain ⟨hk0, hp0⟩ := hp
          have hle := bg_le HG.out.1
          obtain ⟨p, hpe⟩ : ∃ p, lget l (k - 1) = p := ⟨_, rfl⟩
          have hpk := hle (k - 1) (by omega)
          rw [hpe] at hp0 hpk
          have hst : stk (lget l) k = stk (lget l) (lget l (p - 1)) ++ [p - 1] ++ [k - 1] := by rw [stk_pos hle hk0, hpe, stk_pos (fun j hj => hle j (by omega)) hp0]
          obtain ⟨L2, hL2⟩ : ∃ L2, L2 = (stk (lget l) (lget l (p - 1))).length := ⟨_, rfl⟩
          have hL : L = L2 + 2 := by rw [← HG.out.2, hst, List.length_append, List.length_append, ← hL2]; rfl
          subst hL
          obtain ⟨g, cap, rfl⟩ : ∃ g cap, ov = .slice (some ⟨g, 0, none⟩) (L2 + 2) cap := by
            obtain ⟨g, cap, e, _⟩ := HO2.out.form (by omega)
            exact ⟨g, cap, e⟩
          have HST := Lib.hid hst
          have HLEN := Lib.hid hL2.symm
          have HLE := Lib.hid hle
          have HPE := Lib.hid hpe
          clear hle hst hL2 hpe
          have hgt : ¬ ((L2 + 2 : Nat) : Int) < 2 := by omega
          have hcap : L2 + 2 ≤ cap := by
            obtain ⟨A', c', e, hc, _⟩ := rowown_shape HO2.out
            injection e with _ _ e
            rw [e]; exact hc
          go_wp2_with fail
          refine (fields_any ⟨op, nn, vr, at_, a, b2⟩ _ (block_below HK.out hb2)).mono ?_
          rintro e w3 ⟨rfl, hb3⟩
          have hb3' := bcall hb2 hb3
          have P3 := Lib.hid (blk_below P2.out hb3)
          have HO3 := Lib.hid (rowown_below HO2.out hb3)
          have y1 : w3.cell? ⟨g, L2, none⟩ = some (.int .i64 ((p - 1 : Nat) : Int)) := by
            rw [HO3.out.cellAt _ (by omega), HST.out, natCells_snoc, natCells_snoc, List.append_assoc, ← HLEN.out, ← natCells_len, List.getElem?_append_right (Nat.le_refl _), Nat.sub_self]
            rfl
          have y2 : w3.cell? ⟨g, L2 + 1, none⟩ = some (.int .i64 ((k - 1 : Nat) : Int)) := by
            rw [HO3.out.cellAt _ (by omega), HST.out, natCells_snoc, natCells_snoc, List.append_assoc, ← HLEN.out, ← natCells_len, List.getElem?_append_right (by omega), Nat.add_sub_cancel_left]
            rfl
          cases hf : fieldsB ⟨op, nn, vr, at_, a, b2⟩
          · have HE := Lib.hid (tree_stop HG.out.1 (by rw [HX.out]; exact res_bad_fields hf) hlt)
            clear hf
            go_wp2_with fail
            go_ret
            exact ⟨by rw [HE.out]; rfl, hb3'⟩
          · have HF := Lib.hid hf
            clear hf
            go_wp2_with fail
            go_quiet (fail)
            have hb4 := bdrewN hb3' nq
            have P4 := Lib.hid (show (w3.drewN nq).heap[W1.heap.size]? = _ from P3.out)
            have HO4 := Lib.hid (show (w3.drewN nq).ownsRow _ _ _ _ _ _ from HO3.out)
            clear y1 y2
            generalize w3.drewN nq = w4 at *
            have x4 := blk_cell P4.out (j := 4) rfl
            have x5 := blk_cell P4.out (j := 5) rfl
            by_cases h1 : a = ((p - 1 : Nat) : Int)
            · by_cases h2 : b2 = ((k - 1 : Nat) : Int)
              · subst h1 h2
                have hr : nodeRes (f k) (lget l) k = some (lget l (p - 1)) := by
                  rw [HX.out]
                  have h3 := res_two (x := ⟨op, nn, vr, at_, ((p - 1 : Nat) : Int), ((k - 1 : Nat) : Int)⟩) (lf := lget l) HA.out HF.out hk0 (by show ((k - 1 : Nat) : Int) = _; omega) (by rw [HPE.out]; exact hp0) (by rw [HPE.out]; show ((p - 1 : Nat) : Int) = _; omega)
                  rw [HPE.out] at h3
                  exact h3
                have HR := Lib.hid (And.intro (bg_next HG.out.1 hr) (stk_next HG.out.1 hr))
                have HP := Lib.hid (show w4.ownsRow w.heap.size 3 1 (.slice (some ⟨g, 0, none⟩) L2 cap) L2 (natCells (stk (lget l) (lget l (p - 1)))) by
                  have h := own_pre HO4.out (m := L2) (by omega)
                  rw [HST.out, List.append_assoc, ← HLEN.out, natCells_take, HLEN.out] at h
                  exact h)
                clear hr
                go_wp2_with (at_builtin; go_loud (refine wpList_append_lies _ rfl _ _ _ rfl w.heap.size 3 i0 _ 1 8 Tryd.underlying45 hi0 hz0 hz1 hz2 rfl (by omega) _ _ (natCells (stk (lget l) (lget l (p - 1)))) rfl (HP.out.alloc _) ⟨w4.heap.size, 0, none⟩ 1 1 [.int .i64 (k : Int)] rfl rfl (World.news_of_block (cs := #[.int .i64 (k : Int)]) (t := 3) (fr := (0, 0)) (heap_alloc_new w4 _)) (by simp [Value.oneCell']) (by omega) (by unfold maxLen; omega) (by omega) (by have := hb4.size; simp; omega) (w4.heap.size + 1) (by simp) ?_; intro gg gcap w9 hown9 hgrow hat hlt9))
                have hb9 := below_grown (bnew hb4 (.cells #[.int .i64 (k : Int)] 3)) hgrow (by have := hb4.size; simp; omega) (fun x hx => by have := (HP.out.lt x hx).1; omega)
                have HN := Lib.hid (show w9.ownsRow w.heap.size 3 1 (.slice (some ⟨gg, 0, none⟩) (L2 + 1) gcap) (L2 + 1) (natCells (stk (lget (l ++ [lget l (p - 1)])) (k + 1))) by rw [HR.out.2, natCells_snoc]; exact hown9)
                go_roundw
                case rel => exact ⟨k + 1, L2 + 1, _, l ++ [lget l (p - 1)], by omega, by go_num, rfl, by omega, Lib.hid ⟨HR.out.1, by rw [HR.out.2, List.length_append, HLEN.out]; rfl⟩, HN, hb9⟩
                case measure => simp [intOf]; omega
              · have HE := Lib.hid (tree_stop HG.out.1 (by rw [HX.out]; exact res_two_bad HA.out (fun h => h2 (by have h3 : b2 = (k : Int) - 1 := h.2.1; omega))) hlt)
                have h2' : (b2 != ((k - 1 : Nat) : Int)) = true := by rw [bne_iff_ne]; exact h2
                subst h1
                clear h2
                go_wp2_with fail
                go_ret
                exact ⟨by rw [HE.out]; rfl, hb4⟩
            · have HE := Lib.hid (tree_stop HG.out.1 (by rw [HX.out]; exact res_two_bad HA.out (fun h => h1 (by have h3 : a = (lget l (k - 1) : Int) - 1 := h.2.2.2; rw [HPE.out] at h3; omega))) hlt)
              have h1' : (a != ((p - 1 : Nat) : Int)) = true := by rw [bne_iff_ne]; exact h1
              clear h1
              go_wp2_with fail
              go_ret
              exact ⟨by rw [HE.out]; rfl, hb4⟩
        · have hL : L ≤ 1 := by
            rcases Nat.eq_zero_or_pos k with e | e
            · omega
            · have hle := bg_le HG.out.1
              have h0 : lget l (k - 1) = 0 := by omega
              have hst := stk_pos hle e
              rw [h0, stk_zero] at hst
              have := HG.out.2
              rw [hst] at this
              simp at this
              omega
          have HE := Lib.hid (tree_stop HG.out.1 (by rw [HX.out]; exact res_two_bad HA.out (fun h => hp ⟨h.1, h.2.2.1⟩)) hlt)
          obtain ⟨oA, oc, rfl, _⟩ := rowown_shape HO2.out
          have hgt : (L : Int) < 2 := by omega
          clear hp
          go_wp2_with fail
          go_ret
          exact ⟨by rw [HE.out]; rfl, hb2⟩
    · obtain rfl : k = n := by omega
      obtain ⟨hG1, hG2⟩ := HG.out
      have hT := tree_end hG1
      have h1 := stk_one (bg_le hG1)
      rw [hG2] at h1
      have HE := Lib.hid (show treeB k f = ((L : Int) == 1) by
        rw [hT, Bool.eq_iff_iff, decide_eq_true_eq, ← h1, beq_iff_eq]
        omega)
      obtain ⟨oA, oc, rfl, _⟩ := rowown_shape HO.out
      clear hG1 hG2 hT h1
      go_wp2_with fail
      go_ret
      exact ⟨by rw [HE.out]; rfl, hb⟩
end Go.Proofs.YtfcdkadblagijaaDoor

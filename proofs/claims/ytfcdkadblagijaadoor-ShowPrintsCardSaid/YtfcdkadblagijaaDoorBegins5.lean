/-
  The walks of the reference's begins and Tree.
-/
import Derived.Test.YtfcdkadblagijaaDoorLeaf5
import Derived.Test.YtfcdkadblagijaaDoorShowTree
set_option linter.unusedSimpArgs false
namespace Go.Proofs.YtfcdkadblagijaaDoor
open Go.RowKit Go.ChangeShapes Go.WideShapes Go.ChangeAt Go.Deep Go.Joins
/-- What begins hands back. -/
def BegEnd (w w' : World) (r : Option (List Nat)) (e : Ending) : Prop := match r with
  | none => e = .returned (.tuple #[.slice none 0 0, .bool false])
  | some l => ∃ v, e = .returned (.tuple #[v, .bool true]) ∧ w'.ownsRow w.heap.size 3 1 v l.length (natCells l)
theorem beg_none {w w' : World} {r : Option (List Nat)} (h : r = none) : BegEnd w w' r (.returned (.tuple #[.slice none 0 0, .bool false])) := by subst h; rfl
theorem beg_some {w w' : World} {r : Option (List Nat)} {l : List Nat} {v : Value} (h : r = some l) (ho : w'.ownsRow w.heap.size 3 1 v l.length (natCells l)) : BegEnd w w' r (.returned (.tuple #[v, .bool true])) := by subst h; exact ⟨v, rfl, ho⟩
theorem l_cell {w : World} {B k g cap j : Nat} {e : TypeId} {l : List Nat} (h : w.ownsRow B e 1 (.slice (some ⟨g, 0, none⟩) k cap) k (natCells l)) (hl : l.length = k) (hj : j < k) : w.cell? ⟨g, j, none⟩ = some (.int .i64 ((lget l j : Nat) : Int)) := by
  rw [h.cellAt _ (by omega), natCells_at (by omega)]
  simp [lget, List.getD_eq_getElem?_getD, List.getElem?_eq_getElem (show j < l.length by omega)]
section
variable {f : Nat → Nod} {l : List Nat} {k : Nat} {x : Nod}
theorem res_leaf {lf : Nat → Nat} (h : leafB x = true) : nodeRes x lf k = some k := by
  simp only [leafB, Bool.and_eq_true, decide_eq_true_eq] at h
  exact res_zero h.1.1.1 h.1.1.2 h.1.2 h.2
theorem res_other {lf : Nat → Nat} (h : leafB x = false) (h1 : ¬ arity x.op = 1) (h2 : ¬ arity x.op = 2) : nodeRes x lf k = none := by
  cases hf : fieldsB x
  · exact res_bad_fields hf
  · rcases arity_cases x.op with ha | ha | ha | ha
    · exact res_bad_arity ha
    · refine res_zero_bad ha fun hab => ?_
      simp [leafB, ha, hf, hab.1, hab.2] at h
    · exact absurd ha h1
    · exact absurd ha h2
theorem arity_out {o : Int} (h : arity o = 1 ∨ arity o = 2) : o < 1 ∨ 11 < o := by
  rcases Int.lt_or_le o 1 with h1 | h1
  · exact Or.inl h1
  · right
    rcases Int.lt_or_le 11 o with h2 | h2
    · exact h2
    · rw [arity_zero h1 h2] at h; omega
theorem bare_fields {op a b : Int} {vr at_ : ByteArray} (h : arity op = 1 ∨ arity op = 2) (h1 : vr.toList.isEmpty = true) (h2 : at_.toList.isEmpty = true) : fieldsB ⟨op, 0, vr, at_, a, b⟩ = true := by
  rw [fields_bare (arity_out h), h1, h2]
  rfl
theorem res_notbare {op nn a b : Int} {vr at_ : ByteArray} (hx : f k = ⟨op, nn, vr, at_, a, b⟩) (hb : (nn == 0) = false ∨ vr.toList.isEmpty = false ∨ at_.toList.isEmpty = false) (h : leafB ⟨op, nn, vr, at_, a, b⟩ = false) : nodeRes (f k) (lget l) k = none := by
  rw [hx]
  by_cases ho : arity op = 1 ∨ arity op = 2
  · refine res_bad_fields ?_
    rw [fields_bare (arity_out ho)]
    rcases hb with hb | hb | hb
    · rw [beq_eq_false_iff_ne] at hb; simp [hb]
    · rw [hb]; simp
    · rw [hb]; simp
  · exact res_other h (fun h => ho (Or.inl h)) (fun h => ho (Or.inr h))
end
set_option maxRecDepth 100000 in
set_option maxHeartbeats 4000000 in
theorem begins5_any (A : Option Addr) (n c : Nat) (f : Nat → Nod) (w : World) (h : NodRd w w.heap.size A n f) {tt : TypeId} {fr : Nat × Nat} (hkw : w.heap[2]? = some (.cells kwArr tt fr)) :
    Calls Tryd.prog 20 #[.slice A n c] w fun e w' => BegEnd w w' (bg f n) e ∧ Below w.heap.size w w' := by
  obtain ⟨i0, hi0, hz0, hz1, hz2⟩ := info_parts infoIntT
  have hn := h.small
  have HT := Lib.hid h
  have HK := Lib.hid hkw
  clear h hkw
  go_enter Tryd.func20, Tryd.ntmps20
  go_wp2_with fail
  go_loopw [5, 4] (fun i o wr => ∃ (k : Nat) (ov : Value) (l : List Nat), k ≤ n ∧ i = .int .i64 k ∧ ov = o ∧ Hid (bg f k = some l) ∧ Hid (wr.ownsRow w.heap.size 3 1 ov k (natCells l)) ∧ Below w.heap.size w wr) (fun i _ _ => n - (intOf i).toNat)
  case atStart => exact ⟨0, .slice none 0 0, [], Nat.zero_le _, rfl, rfl, Lib.hid rfl, Lib.hid (World.ownsRow_nil _ _ _ _), Below.refl _ _⟩
  case round =>
    obtain ⟨k, ov, l, hk, rfl, rfl, HG, HO, hb⟩ := hrel
    obtain ⟨W1, e1⟩ : ∃ W1 : World, W1 = wr := ⟨_, rfl⟩
    subst e1
    by_cases hlt : k < n
    · obtain ⟨b, off, rfl, hbl, hcs⟩ := HT.out.spot (by omega)
      obtain ⟨c0, c1, c2, c3, c4, c5⟩ := hcs k hlt
      have d0 := (hb.cell (p := ⟨b, off + k * 6, none⟩) hbl).trans c0
      have d1 := (hb.cell (p := ⟨b, off + k * 6 + 1, none⟩) hbl).trans c1
      have d2 := (hb.cell (p := ⟨b, off + k * 6 + 2, none⟩) hbl).trans c2
      have d3 := (hb.cell (p := ⟨b, off + k * 6 + 3, none⟩) hbl).trans c3
      have d4 := (hb.cell (p := ⟨b, off + k * 6 + 4, none⟩) hbl).trans c4
      have d5 := (hb.cell (p := ⟨b, off + k * 6 + 5, none⟩) hbl).trans c5
      clear hcs c0 c1 c2 c3 c4 c5
      obtain ⟨x, hx⟩ : ∃ x, f k = x := ⟨_, rfl⟩
      rw [hx] at d0 d1 d2 d3 d4 d5
      have HX := Lib.hid hx
      clear hx
      obtain ⟨op, nn, vr, at_, a, b2⟩ := x
      dsimp only at d0 d1 d2 d3 d4 d5
      obtain ⟨oA, oc, rfl, hoc, _⟩ := rowown_shape HO.out
      have hbare : ((nn == 0) = false) ∨ (nn = 0 ∧ vr.toList.isEmpty = false) ∨ (nn = 0 ∧ vr.toList.isEmpty = true ∧ at_.toList.isEmpty = false) ∨ (nn = 0 ∧ vr.toList.isEmpty = true ∧ at_.toList.isEmpty = true) := by
        by_cases h1 : nn = 0
        · cases h2 : vr.toList.isEmpty
          · exact Or.inr (Or.inl ⟨h1, rfl⟩)
          · cases h3 : at_.toList.isEmpty
            · exact Or.inr (Or.inr (Or.inl ⟨h1, rfl, rfl⟩))
            · exact Or.inr (Or.inr (Or.inr ⟨h1, rfl, rfl⟩))
        · exact Or.inl (by rw [beq_eq_false_iff_ne]; exact h1)
      have HRES := Lib.hid (res_notbare (f := f) (k := k) (l := l) HX.out)
      rcases hbare with h1 | ⟨rfl, h1⟩ | ⟨rfl, h1, h2⟩ | ⟨rfl, h1, h2⟩
      · have HB0 := Lib.hid h1
        have hb2 := bnew hb (.cells #[.int .i64 op, .int .i64 nn, .string vr, .string at_, .int .i64 a, .int .i64 b2] 44)
        have P2 := Lib.hid (blk_new W1 #[.int .i64 op, .int .i64 nn, .string vr, .string at_, .int .i64 a, .int .i64 b2] 44)
        have HO2 := Lib.hid (HO.out.alloc (.cells #[.int .i64 op, .int .i64 nn, .string vr, .string at_, .int .i64 a, .int .i64 b2] 44))
        clear HO
        go_wp2_with fail
        clear h1
        generalize W1.alloc (.cells #[.int .i64 op, .int .i64 nn, .string vr, .string at_, .int .i64 a, .int .i64 b2] 44) = w2 at *
        refine (leaf5_any ⟨op, nn, vr, at_, a, b2⟩ _ (block_below HK.out hb2)).mono ?_
        rintro e w3 ⟨rfl, hb3⟩
        have hb3' := bcall hb2 hb3
        have P3 := Lib.hid (blk_below P2.out hb3)
        have HO3 := Lib.hid (rowown_below HO2.out hb3)
        obtain ⟨z0, z1, z2, z3, z4, z5⟩ := blk6 P3.out
        clear d0 d1 d2 d3 d4 d5
        cases hlf : leafB ⟨op, nn, vr, at_, a, b2⟩
        · have HLF := Lib.hid hlf
          clear hlf
          go_wp2_with fail
          refine (one5_any op _).mono ?_
          rintro e w3' ⟨rfl, rfl⟩
          by_cases ha : arity op = 1
          · have HE := Lib.hid (bg_none (bg_stop HG.out (HRES.out (Or.inl HB0.out) HLF.out)) n (by omega))
            rw [decide_eq_true ha]
            clear ha
            go_wp2_with fail
            go_ret2
            exact ⟨beg_none HE.out, hb3'⟩
          · rw [decide_eq_false ha]
            go_wp2_with fail
            refine (two5_any op _).mono ?_
            rintro e w3' ⟨rfl, rfl⟩
            have HE := Lib.hid (bg_none (bg_stop HG.out (HRES.out (Or.inl HB0.out) HLF.out)) n (by omega))
            by_cases ha2 : arity op = 2
            · rw [decide_eq_true ha2]
              clear ha ha2
              go_wp2_with fail
              go_quiet (fail)
              go_wp2_with fail
              go_ret2
              exact ⟨beg_none HE.out, bdrewN hb3' nq⟩
            · rw [decide_eq_false ha2]
              clear ha ha2
              go_wp2_with fail
              go_ret2
              exact ⟨beg_none HE.out, hb3'⟩
        · have HR := Lib.hid (bg_next HG.out (by rw [HX.out]; exact res_leaf hlf))
          clear hlf
          go_wp2_with (at_builtin; go_loud (refine wpList_append_lies _ rfl _ _ _ rfl w.heap.size 3 i0 _ 1 8 Tryd.underlying45 hi0 hz0 hz1 hz2 rfl (by omega) _ _ (natCells l) rfl (HO3.out.alloc _) ⟨w3.heap.size, 0, none⟩ 1 1 [.int .i64 ((k : Int))] rfl rfl (World.news_of_block (cs := #[.int .i64 ((k : Int))]) (t := 3) (fr := (0, 0)) (heap_alloc_new w3 _)) (by simp [Value.oneCell']) (by omega) (by unfold maxLen; omega) (by omega) (by have := hb3'.size; simp; omega) (w3.heap.size + 1) (by simp) ?_; intro gg gcap w9 hown9 hgrow hat hlt9))
          have hb9 := below_grown (bnew hb3' (.cells #[.int .i64 ((k : Int))] 3)) hgrow (by have := hb3'.size; simp; omega) (fun x hx => by have := (HO3.out.lt x hx).1; omega)
          have HN := Lib.hid (show w9.ownsRow w.heap.size 3 1 (.slice (some ⟨gg, 0, none⟩) (k + 1) gcap) (k + 1) (natCells (l ++ [k])) by rw [natCells_snoc]; exact hown9)
          go_roundw
          case rel => exact ⟨k + 1, _, l ++ [k], by omega, by go_num, rfl, HR, HN, hb9⟩
          case measure => simp [intOf]; omega
      · have HB0 := Lib.hid h1
        have hb2 := bnew hb (.cells #[.int .i64 op, .int .i64 0, .string vr, .string at_, .int .i64 a, .int .i64 b2] 44)
        have P2 := Lib.hid (blk_new W1 #[.int .i64 op, .int .i64 0, .string vr, .string at_, .int .i64 a, .int .i64 b2] 44)
        have HO2 := Lib.hid (HO.out.alloc (.cells #[.int .i64 op, .int .i64 0, .string vr, .string at_, .int .i64 a, .int .i64 b2] 44))
        clear HO
        go_wp2_with fail
        clear h1
        generalize W1.alloc (.cells #[.int .i64 op, .int .i64 0, .string vr, .string at_, .int .i64 a, .int .i64 b2] 44) = w2 at *
        refine (leaf5_any ⟨op, 0, vr, at_, a, b2⟩ _ (block_below HK.out hb2)).mono ?_
        rintro e w3 ⟨rfl, hb3⟩
        have hb3' := bcall hb2 hb3
        have P3 := Lib.hid (blk_below P2.out hb3)
        have HO3 := Lib.hid (rowown_below HO2.out hb3)
        obtain ⟨z0, z1, z2, z3, z4, z5⟩ := blk6 P3.out
        clear d0 d1 d2 d3 d4 d5
        cases hlf : leafB ⟨op, 0, vr, at_, a, b2⟩
        · have HLF := Lib.hid hlf
          clear hlf
          go_wp2_with fail
          refine (one5_any op _).mono ?_
          rintro e w3' ⟨rfl, rfl⟩
          by_cases ha : arity op = 1
          · have HE := Lib.hid (bg_none (bg_stop HG.out (HRES.out (Or.inr (Or.inl HB0.out)) HLF.out)) n (by omega))
            rw [decide_eq_true ha]
            clear ha
            go_wp2_with fail
            go_ret2
            exact ⟨beg_none HE.out, hb3'⟩
          · rw [decide_eq_false ha]
            go_wp2_with fail
            refine (two5_any op _).mono ?_
            rintro e w3' ⟨rfl, rfl⟩
            have HE := Lib.hid (bg_none (bg_stop HG.out (HRES.out (Or.inr (Or.inl HB0.out)) HLF.out)) n (by omega))
            by_cases ha2 : arity op = 2
            · rw [decide_eq_true ha2]
              clear ha ha2
              go_wp2_with fail
              go_quiet (fail)
              go_wp2_with fail
              go_ret2
              exact ⟨beg_none HE.out, bdrewN hb3' nq⟩
            · rw [decide_eq_false ha2]
              clear ha ha2
              go_wp2_with fail
              go_ret2
              exact ⟨beg_none HE.out, hb3'⟩
        · have HR := Lib.hid (bg_next HG.out (by rw [HX.out]; exact res_leaf hlf))
          clear hlf
          go_wp2_with (at_builtin; go_loud (refine wpList_append_lies _ rfl _ _ _ rfl w.heap.size 3 i0 _ 1 8 Tryd.underlying45 hi0 hz0 hz1 hz2 rfl (by omega) _ _ (natCells l) rfl (HO3.out.alloc _) ⟨w3.heap.size, 0, none⟩ 1 1 [.int .i64 ((k : Int))] rfl rfl (World.news_of_block (cs := #[.int .i64 ((k : Int))]) (t := 3) (fr := (0, 0)) (heap_alloc_new w3 _)) (by simp [Value.oneCell']) (by omega) (by unfold maxLen; omega) (by omega) (by have := hb3'.size; simp; omega) (w3.heap.size + 1) (by simp) ?_; intro gg gcap w9 hown9 hgrow hat hlt9))
          have hb9 := below_grown (bnew hb3' (.cells #[.int .i64 ((k : Int))] 3)) hgrow (by have := hb3'.size; simp; omega) (fun x hx => by have := (HO3.out.lt x hx).1; omega)
          have HN := Lib.hid (show w9.ownsRow w.heap.size 3 1 (.slice (some ⟨gg, 0, none⟩) (k + 1) gcap) (k + 1) (natCells (l ++ [k])) by rw [natCells_snoc]; exact hown9)
          go_roundw
          case rel => exact ⟨k + 1, _, l ++ [k], by omega, by go_num, rfl, HR, HN, hb9⟩
          case measure => simp [intOf]; omega
      · have HB0 := Lib.hid h2
        have hb2 := bnew hb (.cells #[.int .i64 op, .int .i64 0, .string vr, .string at_, .int .i64 a, .int .i64 b2] 44)
        have P2 := Lib.hid (blk_new W1 #[.int .i64 op, .int .i64 0, .string vr, .string at_, .int .i64 a, .int .i64 b2] 44)
        have HO2 := Lib.hid (HO.out.alloc (.cells #[.int .i64 op, .int .i64 0, .string vr, .string at_, .int .i64 a, .int .i64 b2] 44))
        clear HO
        go_wp2_with fail
        clear h1 h2
        generalize W1.alloc (.cells #[.int .i64 op, .int .i64 0, .string vr, .string at_, .int .i64 a, .int .i64 b2] 44) = w2 at *
        refine (leaf5_any ⟨op, 0, vr, at_, a, b2⟩ _ (block_below HK.out hb2)).mono ?_
        rintro e w3 ⟨rfl, hb3⟩
        have hb3' := bcall hb2 hb3
        have P3 := Lib.hid (blk_below P2.out hb3)
        have HO3 := Lib.hid (rowown_below HO2.out hb3)
        obtain ⟨z0, z1, z2, z3, z4, z5⟩ := blk6 P3.out
        clear d0 d1 d2 d3 d4 d5
        cases hlf : leafB ⟨op, 0, vr, at_, a, b2⟩
        · have HLF := Lib.hid hlf
          clear hlf
          go_wp2_with fail
          refine (one5_any op _).mono ?_
          rintro e w3' ⟨rfl, rfl⟩
          by_cases ha : arity op = 1
          · have HE := Lib.hid (bg_none (bg_stop HG.out (HRES.out (Or.inr (Or.inr HB0.out)) HLF.out)) n (by omega))
            rw [decide_eq_true ha]
            clear ha
            go_wp2_with fail
            go_ret2
            exact ⟨beg_none HE.out, hb3'⟩
          · rw [decide_eq_false ha]
            go_wp2_with fail
            refine (two5_any op _).mono ?_
            rintro e w3' ⟨rfl, rfl⟩
            have HE := Lib.hid (bg_none (bg_stop HG.out (HRES.out (Or.inr (Or.inr HB0.out)) HLF.out)) n (by omega))
            by_cases ha2 : arity op = 2
            · rw [decide_eq_true ha2]
              clear ha ha2
              go_wp2_with fail
              go_quiet (fail)
              go_wp2_with fail
              go_ret2
              exact ⟨beg_none HE.out, bdrewN hb3' nq⟩
            · rw [decide_eq_false ha2]
              clear ha ha2
              go_wp2_with fail
              go_ret2
              exact ⟨beg_none HE.out, hb3'⟩
        · have HR := Lib.hid (bg_next HG.out (by rw [HX.out]; exact res_leaf hlf))
          clear hlf
          go_wp2_with (at_builtin; go_loud (refine wpList_append_lies _ rfl _ _ _ rfl w.heap.size 3 i0 _ 1 8 Tryd.underlying45 hi0 hz0 hz1 hz2 rfl (by omega) _ _ (natCells l) rfl (HO3.out.alloc _) ⟨w3.heap.size, 0, none⟩ 1 1 [.int .i64 ((k : Int))] rfl rfl (World.news_of_block (cs := #[.int .i64 ((k : Int))]) (t := 3) (fr := (0, 0)) (heap_alloc_new w3 _)) (by simp [Value.oneCell']) (by omega) (by unfold maxLen; omega) (by omega) (by have := hb3'.size; simp; omega) (w3.heap.size + 1) (by simp) ?_; intro gg gcap w9 hown9 hgrow hat hlt9))
          have hb9 := below_grown (bnew hb3' (.cells #[.int .i64 ((k : Int))] 3)) hgrow (by have := hb3'.size; simp; omega) (fun x hx => by have := (HO3.out.lt x hx).1; omega)
          have HN := Lib.hid (show w9.ownsRow w.heap.size 3 1 (.slice (some ⟨gg, 0, none⟩) (k + 1) gcap) (k + 1) (natCells (l ++ [k])) by rw [natCells_snoc]; exact hown9)
          go_roundw
          case rel => exact ⟨k + 1, _, l ++ [k], by omega, by go_num, rfl, HR, HN, hb9⟩
          case measure => simp [intOf]; omega
      · have HB0 := Lib.hid (And.intro h1 h2)
        have hb2 := bnew hb (.cells #[.int .i64 op, .int .i64 0, .string vr, .string at_, .int .i64 a, .int .i64 b2] 44)
        have P2 := Lib.hid (blk_new W1 #[.int .i64 op, .int .i64 0, .string vr, .string at_, .int .i64 a, .int .i64 b2] 44)
        have HO2 := Lib.hid (HO.out.alloc (.cells #[.int .i64 op, .int .i64 0, .string vr, .string at_, .int .i64 a, .int .i64 b2] 44))
        clear HO
        go_wp2_with fail
        clear h1 h2
        generalize W1.alloc (.cells #[.int .i64 op, .int .i64 0, .string vr, .string at_, .int .i64 a, .int .i64 b2] 44) = w2 at *
        refine (leaf5_any ⟨op, 0, vr, at_, a, b2⟩ _ (block_below HK.out hb2)).mono ?_
        rintro e w3 ⟨rfl, hb3⟩
        have hb3' := bcall hb2 hb3
        have P3 := Lib.hid (blk_below P2.out hb3)
        have HO3 := Lib.hid (rowown_below HO2.out hb3)
        obtain ⟨z0, z1, z2, z3, z4, z5⟩ := blk6 P3.out
        clear d0 d1 d2 d3 d4 d5
        cases hlf : leafB ⟨op, 0, vr, at_, a, b2⟩
        · have HLF := Lib.hid hlf
          clear hlf
          go_wp2_with fail
          refine (one5_any op _).mono ?_
          rintro e w3' ⟨rfl, rfl⟩
          by_cases ha : arity op = 1
          · rw [decide_eq_true ha]
            have HA := Lib.hid ha
            have HF := Lib.hid (bare_fields (op := op) (a := a) (b := b2) (Or.inl ha) HB0.out.1 HB0.out.2)
            clear ha
            by_cases hk0 : k < 1
            · have HE := Lib.hid (bg_none (bg_stop HG.out (by rw [HX.out]; exact res_one_bad HA.out (fun h => by omega))) n (by omega))
              go_wp2_with fail
              go_ret2
              exact ⟨beg_none HE.out, hb3'⟩
            · obtain ⟨k1, rfl⟩ : ∃ k1, k = k1 + 1 := ⟨k - 1, by omega⟩
              have hk0' : ¬ ((k1 + 1 : Nat) : Int) < 1 := by omega
              by_cases h1 : a = (k1 : Int)
              · by_cases h2 : b2 = -1
                · subst h1 h2
                  obtain ⟨g, cap, e⟩ : ∃ g cap, Value.slice oA (k1 + 1) oc = .slice (some ⟨g, 0, none⟩) (k1 + 1) cap := by
                    obtain ⟨g, cap, e, _⟩ := HO3.out.form (by omega)
                    exact ⟨g, cap, e⟩
                  injection e with e1 _ e2
                  subst e1 e2
                  have HR := Lib.hid (bg_next HG.out (by rw [HX.out]; exact res_one HA.out HF.out (by omega) (by show (k1 : Int) = _; omega) rfl))
                  have y1 := l_cell HO3.out (bg_len HG.out) (show k1 < k1 + 1 by omega)
                  go_wp2_with (at_builtin; go_loud (refine wpList_append_lies _ rfl _ _ _ rfl w.heap.size 3 i0 _ 1 8 Tryd.underlying45 hi0 hz0 hz1 hz2 rfl (by omega) _ _ (natCells l) rfl (HO3.out.alloc _) ⟨w3'.heap.size, 0, none⟩ 1 1 [.int .i64 ((lget l k1 : Nat) : Int)] rfl rfl (World.news_of_block (cs := #[.int .i64 ((lget l k1 : Nat) : Int)]) (t := 3) (fr := (0, 0)) (heap_alloc_new w3' _)) (by simp [Value.oneCell']) (by omega) (by unfold maxLen; omega) (by omega) (by have := hb3'.size; simp; omega) (w3'.heap.size + 1) (by simp) ?_; intro gg gcap w9 hown9 hgrow hat hlt9))
                  have hb9 := below_grown (bnew hb3' (.cells #[.int .i64 ((lget l k1 : Nat) : Int)] 3)) hgrow (by have := hb3'.size; simp; omega) (fun x hx => by have := (HO3.out.lt x hx).1; omega)
                  have HN := Lib.hid (show w9.ownsRow w.heap.size 3 1 (.slice (some ⟨gg, 0, none⟩) (k1 + 1 + 1) gcap) (k1 + 1 + 1) (natCells (l ++ [lget l k1])) by rw [natCells_snoc]; exact hown9)
                  go_roundw
                  case rel => exact ⟨k1 + 1 + 1, _, l ++ [lget l k1], by omega, by go_num, rfl, HR, HN, hb9⟩
                  case measure => simp [intOf]; omega
                · have HE := Lib.hid (bg_none (bg_stop HG.out (by rw [HX.out]; exact res_one_bad HA.out (fun h => h2 h.2.2))) n (by omega))
                  have h2' : (b2 != -1) = true := by rw [bne_iff_ne]; exact h2
                  subst h1
                  clear h2
                  go_wp2_with fail
                  go_ret2
                  exact ⟨beg_none HE.out, hb3'⟩
              · have HE := Lib.hid (bg_none (bg_stop HG.out (by rw [HX.out]; exact res_one_bad HA.out (fun h => h1 (by have h3 : a = ((k1 + 1 : Nat) : Int) - 1 := h.2.1; omega)))) n (by omega))
                have h1' : (a != (k1 : Int)) = true := by rw [bne_iff_ne]; exact h1
                clear h1
                go_wp2_with fail
                go_ret2
                exact ⟨beg_none HE.out, hb3'⟩
          · rw [decide_eq_false ha]
            have HA1 := Lib.hid ha
            clear ha
            go_wp2_with fail
            refine (two5_any op _).mono ?_
            rintro e w3' ⟨rfl, rfl⟩
            by_cases ha2 : arity op = 2
            · rw [decide_eq_true ha2]
              have HA := Lib.hid ha2
              clear ha2
              have HF := Lib.hid (bare_fields (op := op) (a := a) (b := b2) (Or.inr HA.out) HB0.out.1 HB0.out.2)
              by_cases hk0 : k < 1
              · have HE := Lib.hid (bg_none (bg_stop HG.out (by rw [HX.out]; exact res_two_bad HA.out (fun h => by omega))) n (by omega))
                have hk0' : (k : Int) < 1 := by omega
                go_wp2_with fail
                go_quiet (fail)
                go_wp2_with fail
                go_ret2
                exact ⟨beg_none HE.out, bdrewN hb3' nq⟩
              · obtain ⟨k1, rfl⟩ : ∃ k1, k = k1 + 1 := ⟨k - 1, by omega⟩
                have hk0' : decide (((k1 : Int) + 1) < 1) = false := by rw [decide_eq_false_iff_not]; omega
                have hk0'' : ¬ ((k1 + 1 : Nat) : Int) < 1 := by omega
                obtain ⟨g, cap, e⟩ : ∃ g cap, Value.slice oA (k1 + 1) oc = .slice (some ⟨g, 0, none⟩) (k1 + 1) cap := by
                  obtain ⟨g, cap, e, _⟩ := HO3.out.form (by omega)
                  exact ⟨g, cap, e⟩
                injection e with e1 _ e2
                subst e1 e2
                obtain ⟨pp, hpe⟩ : ∃ pp, lget l k1 = pp := ⟨_, rfl⟩
                have hpk := bg_le HG.out k1 (by omega)
                have y1 := l_cell HO3.out (bg_len HG.out) (show k1 < k1 + 1 by omega)
                rw [hpe] at y1 hpk
                have HPE := Lib.hid hpe
                clear hpe
                by_cases h2 : b2 = (k1 : Int)
                · subst h2
                  by_cases hp : pp < 1
                  · have HE := Lib.hid (bg_none (bg_stop HG.out (by rw [HX.out]; exact res_two_bad HA.out (fun h => by have h3 : 1 ≤ lget l k1 := h.2.2.1; rw [HPE.out] at h3; omega))) n (by omega))
                    have hp' : (pp : Int) < 1 := by omega
                    go_wp2_with fail
                    go_quiet (fail)
                    go_wp2_with fail
                    go_ret2
                    exact ⟨beg_none HE.out, bdrewN hb3' nq⟩
                  · obtain ⟨p1, rfl⟩ : ∃ p1, pp = p1 + 1 := ⟨pp - 1, by omega⟩
                    have hp' : decide (((p1 : Int) + 1) < 1) = false := by rw [decide_eq_false_iff_not]; omega
                    have hp'' : ¬ ((p1 + 1 : Nat) : Int) < 1 := by omega
                    by_cases h1 : a = (p1 : Int)
                    · subst h1
                      have HR := Lib.hid (bg_next HG.out (by
                        rw [HX.out]
                        have h3 := res_two (x := ⟨op, 0, vr, at_, (p1 : Int), (k1 : Int)⟩) (lf := lget l) (k := k1 + 1) HA.out HF.out (by omega) (by show (k1 : Int) = _; omega) (by show 1 ≤ lget l k1; rw [HPE.out]; omega) (by show (p1 : Int) = (lget l k1 : Int) - 1; rw [HPE.out]; omega)
                        have e : k1 + 1 - 1 = k1 := rfl
                        rw [e, HPE.out] at h3
                        exact h3))
                      go_wp2_with fail
                      go_quiet (fail)
                      have hb4 := bdrewN hb3' nq
                      have HO4 := Lib.hid (show (w3'.drewN nq).ownsRow _ _ _ _ _ _ from HO3.out)
                      have P4 := Lib.hid (show (w3'.drewN nq).heap[W1.heap.size]? = _ from P3.out)
                      clear z0 z1 z2 z3 z4 z5 y1
                      generalize w3'.drewN nq = w4 at *
                      obtain ⟨z0, z1, z2, z3, z4, z5⟩ := blk6 P4.out
                      have y2 := l_cell HO4.out (bg_len HG.out) (show p1 < k1 + 1 by omega)
                      go_wp2_with (at_builtin; go_loud (refine wpList_append_lies _ rfl _ _ _ rfl w.heap.size 3 i0 _ 1 8 Tryd.underlying45 hi0 hz0 hz1 hz2 rfl (by omega) _ _ (natCells l) rfl (HO4.out.alloc _) ⟨w4.heap.size, 0, none⟩ 1 1 [.int .i64 ((lget l p1 : Nat) : Int)] rfl rfl (World.news_of_block (cs := #[.int .i64 ((lget l p1 : Nat) : Int)]) (t := 3) (fr := (0, 0)) (heap_alloc_new w4 _)) (by simp [Value.oneCell']) (by omega) (by unfold maxLen; omega) (by omega) (by have := hb4.size; simp; omega) (w4.heap.size + 1) (by simp) ?_; intro gg gcap w9 hown9 hgrow hat hlt9))
                      have hb9 := below_grown (bnew hb4 (.cells #[.int .i64 ((lget l p1 : Nat) : Int)] 3)) hgrow (by have := hb4.size; simp; omega) (fun x hx => by have := (HO4.out.lt x hx).1; omega)
                      have HN := Lib.hid (show w9.ownsRow w.heap.size 3 1 (.slice (some ⟨gg, 0, none⟩) (k1 + 1 + 1) gcap) (k1 + 1 + 1) (natCells (l ++ [lget l p1])) by rw [natCells_snoc]; exact hown9)
                      go_roundw
                      case rel => exact ⟨k1 + 1 + 1, _, l ++ [lget l p1], by omega, by go_num, rfl, HR, HN, hb9⟩
                      case measure => simp [intOf]; omega
                    · have HE := Lib.hid (bg_none (bg_stop HG.out (by rw [HX.out]; exact res_two_bad HA.out (fun h => h1 (by have h3 : a = (lget l k1 : Int) - 1 := h.2.2.2; rw [HPE.out] at h3; omega)))) n (by omega))
                      have h1' : (a != (p1 : Int)) = true := by rw [bne_iff_ne]; exact h1
                      clear h1
                      go_wp2_with fail
                      go_quiet (fail)
                      go_wp2_with fail
                      go_ret2
                      exact ⟨beg_none HE.out, bdrewN hb3' nq⟩
                · have HE := Lib.hid (bg_none (bg_stop HG.out (by rw [HX.out]; exact res_two_bad HA.out (fun h => h2 (by have h3 : b2 = ((k1 + 1 : Nat) : Int) - 1 := h.2.1; omega)))) n (by omega))
                  have h2' : (b2 != (k1 : Int)) = true := by rw [bne_iff_ne]; exact h2
                  clear h2
                  go_wp2_with fail
                  go_quiet (fail)
                  go_wp2_with fail
                  go_ret2
                  exact ⟨beg_none HE.out, bdrewN hb3' nq⟩
            · rw [decide_eq_false ha2]
              have HE := Lib.hid (bg_none (bg_stop HG.out (by rw [HX.out]; exact res_other HLF.out HA1.out ha2)) n (by omega))
              clear ha2
              go_wp2_with fail
              go_ret2
              exact ⟨beg_none HE.out, hb3'⟩
        · have HR := Lib.hid (bg_next HG.out (by rw [HX.out]; exact res_leaf hlf))
          clear hlf
          go_wp2_with (at_builtin; go_loud (refine wpList_append_lies _ rfl _ _ _ rfl w.heap.size 3 i0 _ 1 8 Tryd.underlying45 hi0 hz0 hz1 hz2 rfl (by omega) _ _ (natCells l) rfl (HO3.out.alloc _) ⟨w3.heap.size, 0, none⟩ 1 1 [.int .i64 ((k : Int))] rfl rfl (World.news_of_block (cs := #[.int .i64 ((k : Int))]) (t := 3) (fr := (0, 0)) (heap_alloc_new w3 _)) (by simp [Value.oneCell']) (by omega) (by unfold maxLen; omega) (by omega) (by have := hb3'.size; simp; omega) (w3.heap.size + 1) (by simp) ?_; intro gg gcap w9 hown9 hgrow hat hlt9))
          have hb9 := below_grown (bnew hb3' (.cells #[.int .i64 ((k : Int))] 3)) hgrow (by have := hb3'.size; simp; omega) (fun x hx => by have := (HO3.out.lt x hx).1; omega)
          have HN := Lib.hid (show w9.ownsRow w.heap.size 3 1 (.slice (some ⟨gg, 0, none⟩) (k + 1) gcap) (k + 1) (natCells (l ++ [k])) by rw [natCells_snoc]; exact hown9)
          go_roundw
          case rel => exact ⟨k + 1, _, l ++ [k], by omega, by go_num, rfl, HR, HN, hb9⟩
          case measure => simp [intOf]; omega
    · obtain rfl : k = n := by omega
      obtain ⟨oA, oc, rfl, _⟩ := rowown_shape HO.out
      have HL := Lib.hid (bg_len HG.out)
      go_wp2_with fail
      go_ret2
      exact ⟨beg_some HG.out (by rw [HL.out]; exact HO.out), hb⟩
end Go.Proofs.YtfcdkadblagijaaDoor

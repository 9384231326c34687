/-
  The walk of check.Conjuncts.
-/
import Derived.Test.YtagcbljfaflhoaaDoorTreeFns
import Derived.Test.YtagcbljfaflhoaaDoorUsesWalk
import Derived.Deep.RegionWith
set_option linter.unusedSimpArgs false
set_option linter.unusedVariables false
namespace Go.Proofs.YtagcbljfaflhoaaDoor
open Go.RowKit Go.ChangeShapes Go.WideShapes Go.ChangeAt Go.Deep Go.Joins
/-- Nothing below block B has turned but block o. -/
structure But (B o : Nat) (w w' : World) : Prop where
  os : w'.os = w.os
  tape : w'.tape = w.tape
  output : w'.output = w.output
  size : w.heap.size ≤ w'.heap.size
  block : ∀ i, i < B → i ≠ o → w'.heap[i]? = w.heap[i]?
theorem But.refl (B o : Nat) (w : World) : But B o w w := ⟨rfl, rfl, rfl, Nat.le_refl _, fun _ _ _ => rfl⟩
theorem But.trans {B o : Nat} {w w1 w2 : World} (h : But B o w w1) (h1 : But B o w1 w2) : But B o w w2 :=
  ⟨h1.os.trans h.os, h1.tape.trans h.tape, h1.output.trans h.output, Nat.le_trans h.size h1.size, fun i hi hne => (h1.block i hi hne).trans (h.block i hi hne)⟩
theorem But.drew {B o : Nat} {w w' : World} (h : But B o w w') : But B o w w'.drew := ⟨h.os, h.tape, h.output, h.size, h.block⟩
theorem But.blk {B o b : Nat} {w w' : World} (h : But B o w w') (hb : b < B) (hne : b ≠ o) {x : Obj} (hx : w.heap[b]? = some x) : w'.heap[b]? = some x := (h.block b hb hne).trans hx
theorem But.rd {B o B0 n sz bt : Nat} {A : Option Addr} {C : Nat → Nat → Value} {w w' : World} (h : But B o w w') (hB : B0 ≤ B) (ho : B0 ≤ o) (hr : RowRd w B0 A n sz bt C) : RowRd w' B0 A n sz bt C :=
  hr.keep fun p hp => by
    unfold World.cell?
    rw [h.block p.block (by omega) (by omega)]
/-- An append into the row that block o tells of. -/
theorem But.push {B o : Nat} {w w9 : World} {row : Option Nat} {x : Obj} {u : Value} {i : Nat} (hB : B ≤ w.heap.size) (hg : (w.alloc x).grownBy w9 row) (hr : ∀ k, row = some k → B ≤ k) : But B o w (w9.setCell ⟨o, i, none⟩ u) := by
  have hs := hg.size
  simp at hs
  refine ⟨hg.os, hg.tape, hg.output, by rw [World.size_setCell]; omega, fun k hk hne => ?_⟩
  rw [Below.heap_setCell w9 ⟨o, i, none⟩ u k (fun e => hne e), hg.block k (by simp; omega) (fun e => by have := hr k e.symm; omega), Lib.alloc_old w x k (by omega)]
theorem conjF_len {n : Nat} {f : Nat → Nod} {l : Nat → Nat} (h : Shp n f l) : ∀ r, r < n → ∀ k, (conjF f k r).length ≤ r - l r + 1 := by
  intro r
  induction r using Nat.strongRecOn with
  | _ r ih =>
    intro hr k
    cases k with
    | zero => simp [conjF]
    | succ k =>
      by_cases ho : (f r).op = 25
      · obtain ⟨a, b, c, d, e⟩ := and_kind h hr ho
        have hl := h.le (r - 1) (by omega)
        have hl2 := h.le (l (r - 1) - 1) (by omega)
        have ea : (f r).a.toNat = l (r - 1) - 1 := by omega
        have eb : (f r).b.toNat = r - 1 := by omega
        have i1 := ih (l (r - 1) - 1) (by omega) (by omega) k
        have i2 := ih (r - 1) (by omega) (by omega) k
        rw [conjF, if_pos ho, List.length_append, ea, eb]
        omega
      · rw [conjF, if_neg ho]
        simp
theorem conjF_leaf {f : Nat → Nod} {r : Nat} (h : (f r).op ≠ 25) : conjF f (r + 1) r = [r] := by rw [conjF, if_neg h]
theorem conjF_and {n : Nat} {f : Nat → Nod} {l : Nat → Nat} (h : Shp n f l) {r : Nat} (hr : r < n) (ho : (f r).op = 25) : conjF f (r + 1) r = conjF f (l (r - 1) - 1 + 1) (l (r - 1) - 1) ++ conjF f (r - 1 + 1) (r - 1) := by
  obtain ⟨a, b, c, d, e⟩ := and_kind h hr ho
  have hl := h.le (r - 1) (by omega)
  have e4 : (f r).a.toNat = l (r - 1) - 1 := by omega
  have e5 : (f r).b.toNat = r - 1 := by omega
  rw [show conjF f (r + 1) r = conjF f r (f r).a.toNat ++ conjF f r (f r).b.toNat by simp only [conjF, if_pos ho], e4, e5, conjF_more h (l (r - 1) - 1) (by omega) r (l (r - 1) - 1 + 1) (by omega) (by omega), conjF_more h (r - 1) (by omega) r (r - 1 + 1) (by omega) (by omega)]
/-- What the closure finds: the list, the row that grows, itself. -/
structure Spl (w : World) (B0 tb ob sb B : Nat) (A : Option Addr) (n c : Nat) (f : Nat → Nod) (L : List Nat) (v : Value) : Prop where
  rd : NodRd w B0 A n f
  t : w.heap[tb]? = some (.cells #[.slice A n c] 22 (0, 0))
  o : w.heap[ob]? = some (.cells #[v] 27 (0, 0))
  s : w.heap[sb]? = some (.cells #[.func (.func 47) #[] #[.pointer (some ⟨tb, 0, none⟩), .pointer (some ⟨ob, 0, none⟩), .pointer (some ⟨sb, 0, none⟩)]] 71 (0, 0))
  row : w.ownsRow B 3 1 v L.length (L.map natV)
  le : B ≤ w.heap.size
theorem Spl.drewN {w : World} {B0 tb ob sb B : Nat} {A : Option Addr} {n c : Nat} {f : Nat → Nod} {L : List Nat} {v : Value} (h : Spl w B0 tb ob sb B A n c f L v) (q : Nat) : Spl (w.drewN q) B0 tb ob sb B A n c f L v :=
  ⟨h.rd.below (bdrewN (Below.refl _ _) q), h.t, h.o, h.s, h.row, h.le⟩
theorem Spl.step {w w' : World} {B0 tb ob sb B : Nat} {A : Option Addr} {n c : Nat} {f : Nat → Nod} {L L' : List Nat} {v v' : Value} (h : Spl w B0 tb ob sb B A n c f L v) (hb : But B ob w w') (h1 : B0 ≤ tb) (h2 : tb < ob) (h3 : ob < sb) (h4 : sb < B)
    (ho : w'.heap[ob]? = some (.cells #[v'] 27 (0, 0))) (hr : w'.ownsRow B 3 1 v' L'.length (L'.map natV)) : Spl w' B0 tb ob sb B A n c f L' v' :=
  ⟨hb.rd (by omega) (by omega) h.rd, hb.blk (by omega) (by omega) h.t, ho, hb.blk (by omega) (by omega) h.s, hr, Nat.le_trans h.le hb.size⟩
set_option maxRecDepth 100000 in
set_option maxHeartbeats 1000000 in
theorem split_any (A : Option Addr) (n c : Nat) (f : Nat → Nod) (l : Nat → Nat) (hs : Shp n f l) (hn : n ≤ 2199023255488) (B0 tb ob sb B : Nat) (h1 : B0 ≤ tb) (h2 : tb < ob) (h3 : ob < sb) (h4 : sb < B) : ∀ r, r < n → ∀ (w : World) (L : List Nat) (v : Value),
    Spl w B0 tb ob sb B A n c f L v → L.length + (r - l r + 1) ≤ n →
    Calls Tryd.prog 47 #[.int .i64 (r : Nat), .pointer (some ⟨tb, 0, none⟩), .pointer (some ⟨ob, 0, none⟩), .pointer (some ⟨sb, 0, none⟩)] w fun e w' =>
      e = .returned (.tuple #[]) ∧ ∃ v', But B ob w w' ∧ Spl w' B0 tb ob sb B A n c f (L ++ conjF f (r + 1) r) v' := by
  obtain ⟨i0, hi0, hy0, hy1, hy2⟩ := info_parts infoIntU
  intro r
  induction r using Nat.strongRecOn with
  | _ r ih =>
    intro hr w L v hS hL
    obtain ⟨b, off, rfl, hbl, hcs⟩ := hS.rd.spot (by omega)
    obtain ⟨c0, c1, c2, c3, c4, c5⟩ := hcs r hr
    have x0 := blk_cell hS.t (j := 0) (v := .slice (some ⟨b, off, none⟩) n c) rfl
    have x1 := blk_cell hS.o (j := 0) (v := v) rfl
    have x2 := blk_cell hS.s (j := 0) (v := .func (.func 47) #[] #[.pointer (some ⟨tb, 0, none⟩), .pointer (some ⟨ob, 0, none⟩), .pointer (some ⟨sb, 0, none⟩)]) rfl
    have q1 := blk_free hS.o 0
    have HS := Lib.hid hS
    clear hcs c1 c2 c3 hS
    by_cases ho : (f r).op = 25
    · rw [ho] at c0
      obtain ⟨k1, kb, k2, ka, kl⟩ := and_kind hs hr ho
      have hle1 := hs.le (r - 1) (by omega)
      have hle2 := hs.le (l (r - 1) - 1) (by omega)
      have hlen := conjF_len hs (l (r - 1) - 1) (by omega) (l (r - 1) - 1 + 1)
      have d4 := node_a (n := n) (q := ((l (r - 1) - 1 : Nat) : Int)) c4 (by omega)
      have d5 := node_b (n := n) (q := ((r - 1 : Nat) : Int)) c5 (by omega)
      have HE := Lib.hid (conjF_and hs hr ho)
      have IA := Lib.hid (ih (l (r - 1) - 1) (by omega) (by omega))
      have IB := Lib.hid (ih (r - 1) (by omega) (by omega))
      have HRB := Lib.hid (show (f r).b = ((r - 1 : Nat) : Int) by omega)
      clear ih c4 c5 ka kb ho
      go_enter Tryd.func47, Tryd.ntmps47
      obtain ⟨ra, hra⟩ : ∃ x, l (r - 1) - 1 = x := ⟨_, rfl⟩
      obtain ⟨rb, hrb⟩ : ∃ x, r - 1 = x := ⟨_, rfl⟩
      rw [hra] at d4 IA HE hlen
      rw [hrb] at d5 IB HE
      have hL1 : L.length + (ra - l ra + 1) ≤ n := by rw [hra] at hle2 kl; omega
      have hL2 : (L ++ conjF f (ra + 1) ra).length + (rb - l rb + 1) ≤ n := by rw [List.length_append]; rw [hra] at hle2 kl; rw [hrb] at hle1 k2 hra; omega
      rw [hrb] at HRB
      clear hlen hle1 hle2 kl k2 hra hrb
      go_upto_region 2 with fail
      go_region_with (refine (IA.out _ L v (HS.out.drewN 1) hL1).mono ?_; rintro e wz ⟨rfl, v2, hbz, hSz⟩)
      all_goals
        obtain ⟨W2, e2⟩ : ∃ W2 : World, W2 = wz := ⟨_, rfl⟩
        subst e2
        have S2 := Lib.hid hSz
        have HB2 : But B ob w W2 := (But.refl B ob w).trans ⟨hbz.os, hbz.tape, hbz.output, hbz.size, hbz.block⟩
        have y0 := blk_cell S2.out.t (j := 0) (v := .slice (some ⟨b, off, none⟩) n c) rfl
        have y1 := blk_cell S2.out.o (j := 0) (v := v2) rfl
        have y2 := blk_cell S2.out.s (j := 0) (v := .func (.func 47) #[] #[.pointer (some ⟨tb, 0, none⟩), .pointer (some ⟨ob, 0, none⟩), .pointer (some ⟨sb, 0, none⟩)]) rfl
        have hltb := hbl
        obtain ⟨b', off', eb, hbl', hcs⟩ := S2.out.rd.spot (by omega)
        cases eb
        have z5 := node_b (n := n) (q := (rb : Int)) (hcs r hr).2.2.2.2.2 HRB.out
        clear hcs hSz hbz d4 d5 c0 x0 x1 x2 q1
        go_upto_region 3 with fail
        go_region_with (refine (IB.out _ _ v2 (S2.out.drewN 1) hL2).mono ?_; rintro e wy ⟨rfl, v3, hby, hSy⟩)
        all_goals
          go_wp2_with fail
          go_end0
          exact ⟨rfl, v3, HB2.trans ⟨hby.os, hby.tape, hby.output, hby.size, hby.block⟩, by rw [HE.out, ← List.append_assoc]; exact hSy⟩
    · have HE := Lib.hid (conjF_leaf ho)
      have ho' : ((f r).op == 25) = false := by rw [beq_eq_false_iff_ne]; exact ho
      clear ih c4 c5
      go_enter Tryd.func47, Tryd.ntmps47
      go_wp2_with (at_builtin; go_loud (refine wpList_append_lies _ rfl _ _ _ rfl B 3 i0 _ 1 8 Tryd.underlying27 hi0 hy0 hy1 hy2 rfl (by omega) v L.length (L.map natV) rfl (World.ownsRow.alloc HS.out.row _) ⟨w.heap.size, 0, none⟩ 1 1 [.int .i64 (r : Nat)] rfl rfl (World.news_of_block (cs := #[.int .i64 (r : Nat)]) (t := 3) (fr := (0, 0)) (heap_alloc_new w _)) (by simp [Value.oneCell']) (by omega) (by unfold maxLen; omega) (by omega) (by have := HS.out.le; simp; omega) (w.heap.size + 1) (by simp) ?_; intro gg gcap w9 hown9 hgrow hat hlt9; have hbo := blk_grown (blk_alloc HS.out.o _) hgrow (rowown_ne HS.out.row (by omega)); have f9 := blk_cell hbo (j := 0) (v := v) rfl; have r9 := blk_free hbo 0))
      refine bodyPost_ret (results_none rfl _ _ _) rfl ?_
      exact ⟨rfl, _, But.push HS.out.le hgrow (fun k hk => (HS.out.row.lt k hk).1), by
        rw [HE.out]
        refine Spl.step HS.out (But.push HS.out.le hgrow (fun k hk => (HS.out.row.lt k hk).1)) h1 h2 h3 h4 (blk_set hbo 0 _) ?_
        rw [List.map_append, List.length_append]
        exact own_blk hown9 hbo (by decide) 0 _⟩
set_option maxRecDepth 100000 in
set_option maxHeartbeats 1000000 in
theorem checkConj_any (A : Option Addr) (n c : Nat) (f : Nat → Nod) (w : World) (h : NodRd w w.heap.size A n f) {tt : TypeId} {fr : Nat × Nat} (hkw : w.heap[0]? = some (.cells kwArr tt fr)) :
    Calls Tryd.prog 15 #[.slice A n c] w fun e w' => ∃ v', e = .returned v' ∧ Below w.heap.size w w' ∧ w'.ownsRow w.heap.size 3 1 v' (conjL n f).length ((conjL n f).map natV) := by
  have hn := h.small
  have hb1 := bnew (Below.refl w.heap.size w) (.cells #[.slice A n c] 22)
  have T0 := Lib.hid (blk_new w #[.slice A n c] 22)
  have HT := Lib.hid h
  have HK := Lib.hid hkw
  clear h hkw
  cases ht : treeB n f
  · have HF := Lib.hid ht
    have HE := Lib.hid (show conjL n f = [] by rw [conjL, ht]; rfl)
    clear ht
    have x0 := blk_cell T0.out (j := 0) (v := .slice A n c) rfl
    go_enter Tryd.func15, Tryd.ntmps15
    go_wp2_with fail
    clear x0
    refine (showTree_any A n c f _ (HT.out.later hb1) (block_below HK.out hb1)).mono ?_
    rintro e w2 ⟨rfl, hb2⟩
    rw [HF.out]
    go_wp2_with fail
    go_ret
    exact ⟨_, rfl, bcall hb1 hb2, by rw [HE.out]; exact World.ownsRow_nil _ _ _ _⟩
  · have HF := Lib.hid ht
    obtain ⟨hn0, hs, h0, _⟩ := tree_shp ht
    have HE := Lib.hid (show conjL n f = conjF f (n - 1 + 1) (n - 1) by rw [conjL, if_pos ht, show n - 1 + 1 = n by omega])
    have HS := Lib.hid hs
    have H0 := Lib.hid h0
    clear ht hs h0
    have x0 := blk_cell T0.out (j := 0) (v := .slice A n c) rfl
    go_enter Tryd.func15, Tryd.ntmps15
    go_wp2_with fail
    clear x0
    refine (showTree_any A n c f _ (HT.out.later hb1) (block_below HK.out hb1)).mono ?_
    rintro e w2 ⟨rfl, hb2⟩
    rw [HF.out]
    have hb2' := bcall hb1 hb2
    have T2 := Lib.hid (blk_below T0.out hb2)
    have x0 := blk_cell T2.out (j := 0) (v := .slice A n c) rfl
    have hz2 := hb2'.size
    have hw2 : w.heap.size < w2.heap.size := blk_lt T2.out
    obtain ⟨WA, hWA⟩ : ∃ WA, WA = (w2.alloc (.cells #[.slice none 0 0] 27)).alloc (.cells #[.nilFunc] 71) := ⟨_, rfl⟩
    have a2 := blk_new (w2.alloc (.cells #[.slice none 0 0] 27)) #[.nilFunc] 71
    rw [World.size_alloc, ← hWA] at a2
    have hst : (store ⟨w2.heap.size + 1, 0, none⟩ (.func (.func 47) #[] #[.pointer (some ⟨w.heap.size, 0, none⟩), .pointer (some ⟨w2.heap.size, 0, none⟩), .pointer (some ⟨w2.heap.size + 1, 0, none⟩)])).run Tryd.prog WA = .ok () (WA.setCell ⟨w2.heap.size + 1, 0, none⟩ (.func (.func 47) #[] #[.pointer (some ⟨w.heap.size, 0, none⟩), .pointer (some ⟨w2.heap.size, 0, none⟩), .pointer (some ⟨w2.heap.size + 1, 0, none⟩)])) := by
      rw [run_store _ _ _ _ _ rfl, blk_cell a2 (j := 0) (v := .nilFunc) rfl]
      simp [blk_free a2 0]
    rw [hWA] at hst
    have A1 := Lib.hid (blk_alloc (blk_new w2 #[.slice none 0 0] 27) (.cells #[(.func (.func 47) #[] #[.pointer (some ⟨w.heap.size, 0, none⟩), .pointer (some ⟨w2.heap.size, 0, none⟩), .pointer (some ⟨w2.heap.size + 1, 0, none⟩)])] 71))
    have a3 := blk_new (w2.alloc (.cells #[.slice none 0 0] 27)) #[(.func (.func 47) #[] #[.pointer (some ⟨w.heap.size, 0, none⟩), .pointer (some ⟨w2.heap.size, 0, none⟩), .pointer (some ⟨w2.heap.size + 1, 0, none⟩)])] 71
    rw [World.size_alloc] at a3
    have A2 := Lib.hid a3
    have hbB := bnew (bnew (Below.refl w2.heap.size w2) (.cells #[.slice none 0 0] 27)) (.cells #[(.func (.func 47) #[] #[.pointer (some ⟨w.heap.size, 0, none⟩), .pointer (some ⟨w2.heap.size, 0, none⟩), .pointer (some ⟨w2.heap.size + 1, 0, none⟩)])] 71)
    have A0 := Lib.hid (blk_below T2.out hbB)
    have hzB : ((w2.alloc (.cells #[.slice none 0 0] 27)).alloc (.cells #[(.func (.func 47) #[] #[.pointer (some ⟨w.heap.size, 0, none⟩), .pointer (some ⟨w2.heap.size, 0, none⟩), .pointer (some ⟨w2.heap.size + 1, 0, none⟩)])] 71)).heap.size = w2.heap.size + 2 := by simp
    clear a2 a3 hWA
    go_upto_region 6 with fail
    clear hst
    generalize (w2.alloc _).alloc _ = w3 at *
    have hb3 := bcall hb2' hbB
    have y0 := blk_cell A0.out (j := 0) (v := .slice A n c) rfl
    have y1 := blk_cell A2.out (j := 0) (v := (.func (.func 47) #[] #[.pointer (some ⟨w.heap.size, 0, none⟩), .pointer (some ⟨w2.heap.size, 0, none⟩), .pointer (some ⟨w2.heap.size + 1, 0, none⟩)])) rfl
    have hn1 : ((n : Int) - 1) = ((n - 1 : Nat) : Int) := by omega
    have HSP : Hid (Spl w3 w.heap.size w.heap.size w2.heap.size (w2.heap.size + 1) (w2.heap.size + 2) A n c f [] (.slice none 0 0)) := Lib.hid ⟨HT.out.below hb3, A0.out, A1.out, A2.out, World.ownsRow_nil _ _ _ _, by omega⟩
    clear x0
    go_wp2_with fail
    refine (split_any A n c f (begF n f) HS.out hn w.heap.size w.heap.size w2.heap.size (w2.heap.size + 1) (w2.heap.size + 2) (Nat.le_refl _) hw2 (Nat.lt_succ_self _) (Nat.lt_succ_self _) (n - 1) (by omega) w3 [] _ HSP.out (by have := H0.out; simp; omega)).mono ?_
    rintro e w4 ⟨rfl, v4, hb4, hS4⟩
    have hbf : Below w.heap.size w w4 := ⟨hb4.os.trans hb3.os, hb4.tape.trans hb3.tape, hb4.output.trans hb3.output, Nat.le_trans hb3.size hb4.size, fun i hi => (hb4.block i (by omega) (by omega)).trans (hb3.block i hi)⟩
    have z1 := blk_cell hS4.o (j := 0) (v := v4) rfl
    have HO := Lib.hid (own_wide hS4.row (show w.heap.size ≤ w2.heap.size + 2 by omega))
    clear hS4 y0 y1
    go_wp2_with fail
    go_ret
    exact ⟨v4, rfl, hbf, by rw [HE.out]; exact HO.out⟩
end Go.Proofs.YtagcbljfaflhoaaDoor

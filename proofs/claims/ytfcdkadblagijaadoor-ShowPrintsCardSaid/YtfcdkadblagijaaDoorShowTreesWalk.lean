/-
  The walks of the reference's Tree, of the law's twinTree, and of the law ShowTrees.
-/
import Derived.Test.YtfcdkadblagijaaDoorRefTree
import Derived.Test.YtfcdkadblagijaaDoorBeyond
import Derived.Test.YtfcdkadblagijaaDoorTreeSame5
import Derived.Test.YtfcdkadblagijaaDoorKwVar
set_option linter.unusedSimpArgs false
namespace Go.Proofs.YtfcdkadblagijaaDoor
open Go.RowKit Go.ChangeShapes Go.WideShapes Go.ChangeAt Go.Deep Go.Joins
theorem infoNodeL : (Tryd.prog.info? 44).map (fun i => (i.zero, i.size, i.bytes)) = some (some (.agg #[.int .i64 0, .int .i64 0, .string .empty, .string .empty, .int .i64 0, .int .i64 0]), 6, 64) := by kernel_rfl
set_option maxRecDepth 100000 in
set_option maxHeartbeats 1000000 in
theorem twinTree5_any (A : Option Addr) (n c : Nat) (f : Nat → Nod) (w : World) (h : NodRd w w.heap.size A n f) :
    Calls Tryd.prog 7 #[.slice A n c] w fun e w' => ∃ v', e = .returned v' ∧ Below w.heap.size w w' ∧ w'.ownsRow w.heap.size 44 6 v' n (flat (fun j => nodCell (f j)) 6 n) := by
  obtain ⟨i0, hi0, hz0, hz1, hz2⟩ := info_parts infoNodeL
  have hn := h.small
  have hn6 := h.1
  have HT := Lib.hid h
  clear h
  go_enter Tryd.func7, Tryd.ntmps7
  go_wp2_with fail
  go_loopw [4, 3] (fun i o wr => ∃ (k : Nat) (ov : Value), k ≤ n ∧ i = .int .i64 k ∧ ov = o ∧ Hid (wr.ownsRow w.heap.size 44 6 ov k (flat (fun j => nodCell (f j)) 6 k)) ∧ Below w.heap.size w wr) (fun i _ _ => n - (intOf i).toNat)
  case atStart => exact ⟨0, .slice none 0 0, Nat.zero_le _, rfl, rfl, Lib.hid (by rw [flat_zero]; exact World.ownsRow_nil _ _ _ _), Below.refl _ _⟩
  case round =>
    obtain ⟨k, ov, hk, rfl, rfl, HO, hb⟩ := hrel
    obtain ⟨W1, e1⟩ : ∃ W1 : World, W1 = wr := ⟨_, rfl⟩
    subst e1
    by_cases hlt : k < n
    · obtain ⟨b, off, rfl, hbl, hcs⟩ := HT.out.spot (by omega)
      obtain ⟨c0, c1, c2, c3, c4, c5⟩ := hcs k hlt
      have d0 := (hb.cell (p := ⟨b, off + k * 6, none⟩) hbl).trans c0
      have d1 := (hb.cell (p := ⟨b, off + k * 6 + 1, none⟩) hbl).trans c1
      have d2 := (hb.cell (p := ⟨b, off + k * 6 + 2, none⟩) hbl).trans c2
      have d3 := (hb.cell (p := ⟨b, off + k * 6 + 3, none⟩) hbl).trans c3
      have d4 := (hb.cell (p := ⟨b, off + k * 6 + 4, none⟩) hbl).trans c4
      have d5 := (hb.cell (p := ⟨b, off + k * 6 + 5, none⟩) hbl).trans c5
      clear hcs c0 c1 c2 c3 c4 c5
      obtain ⟨x, hx⟩ : ∃ x, f k = x := ⟨_, rfl⟩
      rw [hx] at d0 d1 d2 d3 d4 d5
      have HX := Lib.hid hx
      clear hx
      obtain ⟨op, nn, vr, at_, a, b2⟩ := x
      dsimp only at d0 d1 d2 d3 d4 d5
      obtain ⟨oA, oc, rfl, hoc, _⟩ := rowown_shape HO.out
      go_wp2_with (at_builtin; go_loud (refine wpList_append_lies _ rfl _ _ _ rfl w.heap.size 44 i0 _ 6 64 Tryd.underlying22 hi0 hz0 hz1 hz2 rfl (by omega) _ k (flat (fun j => nodCell (f j)) 6 k) rfl (HO.out.alloc _) ⟨W1.heap.size, 0, none⟩ 1 1 [.int .i64 op, .int .i64 nn, .string vr, .string at_, .int .i64 a, .int .i64 b2] rfl rfl (World.news_of_block (cs := #[.int .i64 op, .int .i64 nn, .string vr, .string at_, .int .i64 a, .int .i64 b2]) (t := 44) (fr := (0, 0)) (heap_alloc_new W1 _)) (by simp [Value.oneCell']) (by omega) (by unfold maxLen; omega) (by omega) (by have := hb.size; simp; omega) (W1.heap.size + 1) (by simp) ?_; intro gg gcap w9 hown9 hgrow hat hlt9))
      have hb9 := below_grown (bnew hb (.cells #[.int .i64 op, .int .i64 nn, .string vr, .string at_, .int .i64 a, .int .i64 b2] 44)) hgrow (by have := hb.size; simp; omega) (fun x hx => by have := (HO.out.lt x hx).1; omega)
      have HN := Lib.hid (show w9.ownsRow w.heap.size 44 6 (.slice (some ⟨gg, 0, none⟩) (k + 1) gcap) (k + 1) (flat (fun j => nodCell (f j)) 6 (k + 1)) by
        rw [flat_succ]
        have e : (List.range 6).map (nodCell (f k)) = [.int .i64 op, .int .i64 nn, .string vr, .string at_, .int .i64 a, .int .i64 b2] := by rw [HX.out]; rfl
        rw [e]
        exact hown9)
      go_roundw
      case rel => exact ⟨k + 1, _, by omega, by go_num, rfl, HN, hb9⟩
      case measure => simp [intOf]; omega
    · obtain rfl : k = n := by omega
      obtain ⟨oA, oc, rfl, _⟩ := rowown_shape HO.out
      go_wp2_with fail
      go_ret
      exact ⟨_, rfl, hb, HO.out⟩
set_option maxRecDepth 100000 in
set_option maxHeartbeats 1000000 in
theorem showTrees_walk (A : Option Addr) (n c : Nat) (f : Nat → Nod) (w : World) (h : NodRd w w.heap.size A n f) {tt : TypeId} {fr : Nat × Nat} (hkw : w.heap[2]? = some (.cells kwArr tt fr)) :
    Calls Tryd.prog 3 #[.slice A n c] w fun e w' => e = .returned (.bool true) ∧ Below w.heap.size w w' := by
  have hn6 := h.1
  have HT := Lib.hid h
  have HK := Lib.hid hkw
  clear h hkw
  go_enter Tryd.func3, Tryd.ntmps3
  go_wp2_with fail
  refine (beyond_any A n c f _ HT.out).mono ?_
  rintro e w1 ⟨⟨bb, rfl⟩, hb1⟩
  cases bb
  · go_wp2_with fail
    refine (twinTree5_any A n c f _ (HT.out.later hb1)).mono ?_
    rintro e w2 ⟨v2, rfl, hb2, hown2⟩
    obtain ⟨A2, c2, rfl, _⟩ := rowown_shape hown2
    have HR2 := Lib.hid (show NodRd w2 w2.heap.size A2 n f from rowown_rd hown2 hn6)
    have hb2' := bcall hb1 hb2
    clear hown2
    go_wp2_with fail
    refine (showTree_any A n c f _ (HT.out.later hb2') (block_below HK.out hb2')).mono ?_
    rintro e w3 ⟨rfl, hb3⟩
    have hb3' := bcall hb2' hb3
    go_wp2_with fail
    refine (refTree_any A2 n c2 f _ (HR2.out.later hb3) (block_below HK.out hb3')).mono ?_
    rintro e w4 ⟨rfl, hb4⟩
    have hb4' := bcall hb3' hb4
    go_wp2_with fail
    refine (sameTree5_same A A2 n c c2 f _ (HT.out.later hb4') (HR2.out.later (bcall hb3 hb4))).mono ?_
    rintro e w5 ⟨rfl, q, rfl⟩
    go_wp2_with fail
    go_ret
    exact ⟨rfl, bdrewN hb4' q⟩
  · go_wp2_with fail
    go_ret
    exact ⟨rfl, hb1⟩
set_option maxRecDepth 8000 in
theorem showTrees_main {H : Type} {enc : TypeId × Value → H} (W : World) (base : Nat) {v0 : Value} {d0 : DataW H} {p0 : List MemPlace} {X C S : Prop}
    (o0 : Value.okWide Tryd.prog W .any base 22 v0) (h0 : DataW.Trod enc Tryd.prog W 0 (fun _ => true) true 22 v0 d0 p0)
    (_ : X) (hz : ReachedAll Tryd.prog ([22] ++ (OpenSpec.ofChange Rows.showTreesSpec).bare.plain.varTypes Tryd.prog) ([d0] ++ [])) (_ : C)
    (h : laidMetH Tryd.prog Rows.showTreesRow.laid W) (_ : S) :
    Calls Tryd.prog 3 #[v0] W fun e W' => e = .returned (.bool true) ∧ Below W.heap.size W W' := by
  have hv0 := kwVar (laid := Rows.showTreesRow.laid) h 0 rfl
  obtain ⟨t0, f0, g0⟩ := var_block gKeywords hv0
  obtain ⟨a, len, cap, rfl⟩ := okWide_slice Tryd.underlying22 o0
  obtain ⟨fuel, hf⟩ := h0
  obtain ⟨A, n, c, f, e, _, _, hR, _⟩ := rd_nodes (y := (d0, p0)) (by simpa [Value.cells] using hf) (reach_cons hz).1
  rw [e]
  exact showTrees_walk A n c f W hR g0
end Go.Proofs.YtfcdkadblagijaaDoor

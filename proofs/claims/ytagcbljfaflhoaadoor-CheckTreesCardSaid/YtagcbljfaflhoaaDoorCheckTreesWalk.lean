/-
  The walk of the law CheckTrees; its arguments opened.
-/
import Derived.Test.YtagcbljfaflhoaaDoorSubWalk
import Derived.Test.YtagcbljfaflhoaaDoorConjWalk
import Derived.Test.YtagcbljfaflhoaaDoorRefSub2
import Derived.Test.YtagcbljfaflhoaaDoorRefConj
import Derived.Test.YtagcbljfaflhoaaDoorBeyond
import Derived.Test.YtagcbljfaflhoaaDoorTreeSame6
import Derived.Test.YtagcbljfaflhoaaDoorInts
import Derived.Test.YtagcbljfaflhoaaDoorKwVar
set_option linter.unusedSimpArgs false
set_option linter.unusedVariables false
namespace Go.Proofs.YtagcbljfaflhoaaDoor
open Go.RowKit Go.ChangeShapes Go.WideShapes Go.ChangeAt Go.Deep Go.Joins
/-- A row of numbers reads so. -/
theorem nums_rd {w : World} {B : Nat} {A : Option Addr} {c : Nat} {L : List Nat} (h : w.ownsRow B 3 1 (.slice A L.length c) L.length (L.map natV)) (hL : L.length ≤ 2199023255488) : IntRd w w.heap.size A L.length (fun j => (L.getD j 0 : Nat)) := by
  rw [natV_flat] at h
  exact rowown_rd h (by omega)
theorem sizeI_le {n : Nat} {f : Nat → Nod} {root : Int} : sizeI n f root ≤ n := by
  unfold sizeI
  split
  · omega
  · exact Nat.zero_le _
theorem conjL_le {n : Nat} {f : Nat → Nod} : (conjL n f).length ≤ n := by
  cases ht : treeB n f
  · rw [conjL_bad ht]; exact Nat.zero_le _
  · rw [conjL_filter ht]
    exact cj_len
set_option maxRecDepth 100000 in
set_option maxHeartbeats 4000000 in
theorem checkTrees_walk (A : Option Addr) (n c : Nat) (f : Nat → Nod) (root : Int) (w : World) (hl : n ≤ c) (hA : A = none → c = 0) (h : NodRd w w.heap.size A n f) {tt : TypeId} {fr : Nat × Nat} (hkw : w.heap[0]? = some (.cells kwArr tt fr)) :
    Calls Tryd.prog 3 #[.slice A n c, .int .i64 root] w fun e w' => e = .returned (.bool true) ∧ Below w.heap.size w w' := by
  have hn := h.small
  have hn6 : n * 64 ≤ 140737488351232 := h.1
  have HT := Lib.hid h
  have HK := Lib.hid hkw
  have HA := Lib.hid hA
  have HSZ := Lib.hid (sizeI_le (n := n) (f := f) (root := root))
  have HCL := Lib.hid (conjL_le (n := n) (f := f))
  clear h hkw hA
  go_enter Tryd.func3, Tryd.ntmps3
  go_wp2_with fail
  refine (beyond_any A n c f _ HT.out).mono ?_
  rintro e w1 ⟨⟨bb, rfl⟩, hb1⟩
  cases bb
  · go_wp2_with fail
    refine (twinTree6_any A n c f _ hl HA.out (HT.out.later hb1)).mono ?_
    rintro e w2 ⟨v2, rfl, hb2, hown2⟩
    obtain ⟨A2, c2, rfl, _⟩ := rowown_shape hown2
    have HR2 := Lib.hid (show NodRd w2 w2.heap.size A2 n f from rowown_rd hown2 hn6)
    have hb2' := bcall hb1 hb2
    clear hown2
    go_wp2_with fail
    refine (checkSize_any A n c f root _ (HT.out.later hb2') (block_below HK.out hb2')).mono ?_
    rintro e w3 ⟨rfl, hb3⟩
    have hb3' := bcall hb2' hb3
    go_wp2_with fail
    refine (checkSub_any A n c f root _ (HT.out.later hb3') hl (block_below HK.out hb3')).mono ?_
    rintro e w4 ⟨v4, rfl, hb4, hown4⟩
    obtain ⟨A4, c4, rfl, _⟩ := rowown_shape hown4
    have HR4 := Lib.hid (show NodRd w4 w4.heap.size A4 (sizeI n f root) (subF n f root) from rowown_rd hown4 (by have := HSZ.out; omega))
    have hb4' := bcall hb3' hb4
    clear hown4
    go_wp2_with fail
    refine (checkConj_any A n c f _ (HT.out.later hb4') (block_below HK.out hb4')).mono ?_
    rintro e w5 ⟨v5, rfl, hb5, hown5⟩
    obtain ⟨A5, c5, rfl, _⟩ := rowown_shape hown5
    have HR5 := Lib.hid (nums_rd hown5 (Nat.le_trans HCL.out hn))
    have hb5' := bcall hb4' hb5
    clear hown5
    go_wp2_with fail
    refine (isTruth_any A n c f _ (HT.out.later hb5')).mono ?_
    rintro e w5 ⟨rfl, rfl⟩
    have hb25 := bcall hb3 (bcall hb4 hb5)
    go_wp2_with fail
    refine (refSub_any A2 n c2 f root _ (HR2.out.later hb25) (block_below HK.out hb5')).mono ?_
    rintro e w6 ⟨v6, rfl, hb6, hown6⟩
    obtain ⟨A6, c6, rfl, _⟩ := rowown_shape hown6
    have HR6 := Lib.hid (show NodRd w6 w6.heap.size A6 (sizeI n f root) (subF n f root) from rowown_rd hown6 (by have := HSZ.out; omega))
    have hb6' := bcall hb5' hb6
    have hb26 := bcall hb25 hb6
    clear hown6
    go_wp2_with fail
    refine (refConj_any A2 n c2 f _ (HR2.out.later hb26) (block_below HK.out hb6')).mono ?_
    rintro e w7 ⟨v7, rfl, hb7, hown7⟩
    obtain ⟨A7, c7, rfl, _⟩ := rowown_shape hown7
    have HR7 := Lib.hid (nums_rd hown7 (Nat.le_trans HCL.out hn))
    have hb7' := bcall hb6' hb7
    have hb27 := bcall hb26 hb7
    clear hown7
    go_wp2_with fail
    refine (refSize_any A2 n c2 f root _ (HR2.out.later hb27) (block_below HK.out hb7')).mono ?_
    rintro e w8 ⟨rfl, hb8⟩
    have hb8' := bcall hb7' hb8
    have hb28 := bcall hb27 hb8
    go_wp2_with fail
    refine (sameTreeLaw6_same A4 A6 (sizeI n f root) c4 c6 (subF n f root) _ (HR4.out.later (bcall hb5 (bcall hb6 (bcall hb7 hb8)))) (HR6.out.later (bcall hb7 hb8))).mono ?_
    rintro e w9 ⟨rfl, q, rfl⟩
    have hq1 := bdrewN (Below.refl w8.heap.size w8) q
    go_wp2_with fail
    refine (sameIntsLaw_same A5 A7 (conjL n f).length c5 c7 _ _ (HR5.out.later (bcall hb6 (bcall hb7 (bcall hb8 hq1)))) (HR7.out.later (bcall hb8 hq1))).mono ?_
    rintro e wa ⟨rfl, q2, rfl⟩
    have hq2 := bdrewN (Below.refl w8.heap.size w8) (q + q2)
    go_wp2_with fail
    refine (refIsTruth_any A2 n c2 f _ (HR2.out.later (bcall hb28 hq2))).mono ?_
    rintro e wb ⟨rfl, rfl⟩
    go_wp2_with fail
    refine (sameTreeLaw6_same A A2 n c c2 f _ (HT.out.later (bcall hb8' hq2)) (HR2.out.later (bcall hb28 hq2))).mono ?_
    rintro e wc ⟨rfl, q3, rfl⟩
    go_wp2_with fail
    go_ret
    exact ⟨rfl, bdrewN hb8' _⟩
  · go_wp2_with fail
    go_ret
    exact ⟨rfl, hb1⟩
set_option maxRecDepth 8000 in
theorem checkTrees_main {H : Type} {enc : TypeId × Value → H} (W : World) (base : Nat) {v0 v1 : Value} {d0 d1 : DataW H} {p0 p1 : List MemPlace} {X C S : Prop}
    (o0 : Value.okWide Tryd.prog W .any base 22 v0) (h0 : DataW.Trod enc Tryd.prog W 0 (fun _ => true) true 22 v0 d0 p0) (o1 : Value.okWide Tryd.prog W .any base 3 v1) (h1 : DataW.Trod enc Tryd.prog W 0 (fun _ => true) true 3 v1 d1 p1)
    (_ : X) (hz : ReachedAll Tryd.prog ([22, 3] ++ (OpenSpec.ofChange Rows.checkTreesSpec).bare.plain.varTypes Tryd.prog) ([d0, d1] ++ [])) (_ : C)
    (h : laidMetH Tryd.prog Rows.checkTreesRow.laid W) (_ : S) :
    Calls Tryd.prog 3 #[v0, v1] W fun e W' => e = .returned (.bool true) ∧ Below W.heap.size W W' := by
  have hv0 := kwVar (laid := Rows.checkTreesRow.laid) h 0 rfl
  obtain ⟨t0, f0, g0⟩ := var_block gKeywords hv0
  obtain ⟨a, len, cap, rfl⟩ := okWide_slice Tryd.underlying22 o0
  obtain ⟨fuel, hf⟩ := h0
  obtain ⟨A, n, c, f, e, hl, hA, hR, _⟩ := rd_nodes (y := (d0, p0)) (by simpa [Value.cells] using hf) (reach_cons hz).1
  obtain ⟨root, rfl⟩ := okWide_int Tryd.underlying3 o1
  rw [e]
  exact checkTrees_walk A n c f root W hl hA hR g0
end Go.Proofs.YtagcbljfaflhoaaDoor

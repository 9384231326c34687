/-
  The walk of the law CheckUses; its arguments opened.
-/
import Derived.Test.YtagcbljfaflhoaaUsesRef
import Derived.Test.YtagcbljfaflhoaaQuerySame
import Derived.Test.YtagcbljfaflhoaaQueryTwin
import Derived.Test.YtagcbljfaflhoaaTreeSame6
import Derived.Test.YtagcbljfaflhoaaInts
import Derived.Deep.RegionHeld3
set_option linter.unusedSimpArgs false
set_option linter.unusedVariables false
namespace Go.Proofs.Ytagcbljfaflhoaa
open Go.RowKit Go.ChangeShapes Go.WideShapes Go.ChangeAt Go.Deep Go.Joins
/-- What two readings mention reads alike. -/
theorem nat_rd {w : World} {B : Nat} {A : Option Addr} {c : Nat} {L : List Nat} (h : w.ownsRow B 3 1 (.slice A L.length c) L.length (L.map natV)) (hL : L.length ≤ 2199023255488) : IntRd w w.heap.size A L.length (fun j => (L.getD j 0 : Nat)) := by
  rw [natV_flat] at h
  exact rowown_rd h (by omega)
theorem blk3 {w : World} {b : Nat} {v0 v1 v2 : Value} {T : TypeId} (h : w.heap[b]? = some (.cells #[v0, v1, v2] T (0, 0))) :
    w.cell? ⟨b, 0, none⟩ = some v0 ∧ w.cell? ⟨b, 1, none⟩ = some v1 ∧ w.cell? ⟨b, 2, none⟩ = some v2 := ⟨blk_cell h rfl, blk_cell h rfl, blk_cell h rfl⟩
set_option maxRecDepth 100000 in
set_option maxHeartbeats 2000000 in
theorem sameUse_same (A1 A2 A3 B1 B2 B3 : Option Addr) (n1 n2 n3 k1 k2 k3 r1 r2 r3 : Nat) (f1 f2 f3 : Nat → Int) (w : World) (h1 : IntRd w w.heap.size A1 n1 f1) (h2 : IntRd w w.heap.size A2 n2 f2) (h3 : IntRd w w.heap.size A3 n3 f3)
    (h1' : IntRd w w.heap.size B1 n1 f1) (h2' : IntRd w w.heap.size B2 n2 f2) (h3' : IntRd w w.heap.size B3 n3 f3) :
    Calls Try.prog 17 #[.agg #[.slice A1 n1 k1, .slice A2 n2 k2, .slice A3 n3 k3], .agg #[.slice B1 n1 r1, .slice B2 n2 r2, .slice B3 n3 r3]] w fun e w' => e = .returned (.bool true) ∧ Below w.heap.size w w' := by
  have HB := bnew (bnew (Below.refl w.heap.size w) (.cells #[.slice A1 n1 k1, .slice A2 n2 k2, .slice A3 n3 k3] 47)) (.cells #[.slice B1 n1 r1, .slice B2 n2 r2, .slice B3 n3 r3] 47)
  have b0 := blk_alloc (blk_new w #[.slice A1 n1 k1, .slice A2 n2 k2, .slice A3 n3 k3] 47) (.cells #[.slice B1 n1 r1, .slice B2 n2 r2, .slice B3 n3 r3] 47)
  have b1 := blk_new (w.alloc (.cells #[.slice A1 n1 k1, .slice A2 n2 k2, .slice A3 n3 k3] 47)) #[.slice B1 n1 r1, .slice B2 n2 r2, .slice B3 n3 r3] 47
  rw [World.size_alloc] at b1
  have B0 := Lib.hid b0
  have B1' := Lib.hid b1
  have H1 := Lib.hid (h1.later HB)
  have H2 := Lib.hid (h2.later HB)
  have H3 := Lib.hid (h3.later HB)
  have H1' := Lib.hid (h1'.later HB)
  have H2' := Lib.hid (h2'.later HB)
  have H3' := Lib.hid (h3'.later HB)
  clear h1 h2 h3 h1' h2' h3' b0 b1
  go_enter Try.func17, Try.ntmps17
  go_upto_region 1 with fail
  generalize (w.alloc _).alloc _ = w2 at *
  obtain ⟨x0, x1, x2⟩ := blk3 B0.out
  obtain ⟨y0, y1, y2⟩ := blk3 B1'.out
  go_wp2_with fail
  refine (sameIntsLaw_same A1 B1 n1 k1 r1 f1 _ H1.out H1'.out).mono ?_
  rintro e w3 ⟨rfl, q, rfl⟩
  go_wp2_with fail
  refine (sameIntsLaw_same A2 B2 n2 k2 r2 f2 _ (H2.out.later (bdrewN (Below.refl _ _) _)) (H2'.out.later (bdrewN (Below.refl _ _) _))).mono ?_
  rintro e w4 ⟨rfl, q2, rfl⟩
  go_wp2_with fail
  refine (sameIntsLaw_same A3 B3 n3 k3 r3 f3 _ (H3.out.later (bdrewN (Below.refl _ _) _)) (H3'.out.later (bdrewN (Below.refl _ _) _))).mono ?_
  rintro e w5 ⟨rfl, q3, rfl⟩
  go_wp2_with fail
  go_ret
  exact ⟨rfl, bdrewN HB _⟩
set_option maxRecDepth 100000 in
set_option maxHeartbeats 4000000 in
theorem checkUses_walk (V : QryV) (Q : Qry) (A : Option Addr) (m c : Nat) (t : Nat → Nod) (w : World) (h : QryRd w w.heap.size V Q) (hwf : QryWf Q) (hl : m ≤ c) (hA : A = none → c = 0) (hT : NodRd w w.heap.size A m t) (hN : ∀ j, j < m → NodWf (t j)) :
    Calls Try.prog 5 #[.agg (qryArr V Q), .slice A m c] w fun e w' => e = .returned (.bool true) ∧ Below w.heap.size w w' := by
  obtain ⟨aI, cI, aW, cW, aR, cR⟩ := V
  show Calls _ _ #[.agg #[.slice aI Q.n cI, .int .i64 Q.mode, .int .i64 Q.after, .slice aW Q.wn cW, .int .i64 Q.within, .string Q.by_, .slice aR Q.m cR], .slice A m c] w _
  have hnI := h.rI.small
  have hmm : m * 64 ≤ 140737488351232 := hT.1
  have HB := bnew (Below.refl w.heap.size w) (.cells #[.slice aI Q.n cI, .int .i64 Q.mode, .int .i64 Q.after, .slice aW Q.wn cW, .int .i64 Q.within, .string Q.by_, .slice aR Q.m cR] 41)
  have B0 := Lib.hid (blk_new w #[.slice aI Q.n cI, .int .i64 Q.mode, .int .i64 Q.after, .slice aW Q.wn cW, .int .i64 Q.within, .string Q.by_, .slice aR Q.m cR] 41)
  have HQ2 := Lib.hid (h.later HB)
  have HT2 := Lib.hid (hT.later HB)
  have HWF := Lib.hid hwf
  have HN := Lib.hid hN
  have HA := Lib.hid hA
  clear h hwf hT hN hA
  go_enter Try.func5, Try.ntmps5
  go_upto_region 1 with fail
  generalize w.alloc _ = w2 at *
  go_wp2_with (refine wpList_load_row rfl 41 _ rfl w.heap.size rfl 41 _ (0, 0) _ B0.out Try.underlying41 rfl (by kernel_rfl) ?_)
  refine (queryBeyond_any ⟨aI, cI, aW, cW, aR, cR⟩ Q _ HQ2.out).mono ?_
  rintro e w3 ⟨⟨b0, rfl⟩, hb3⟩
  cases b0
  · go_wp2_with fail
    refine (beyond_any A m c t _ (HT2.out.later hb3)).mono ?_
    rintro e w4 ⟨⟨b1, rfl⟩, hb34⟩
    have hb4 := bcall hb3 hb34
    cases b1
    · have C0 := Lib.hid (blk_below B0.out hb4)
      have HQ4 := Lib.hid (HQ2.out.later hb4)
      go_wp2_with (refine wpList_load_row rfl 41 _ rfl w.heap.size rfl 41 _ (0, 0) _ C0.out Try.underlying41 rfl (by kernel_rfl) ?_)
      refine (twinQuery_any ⟨aI, cI, aW, cW, aR, cR⟩ Q _ HQ4.out).mono ?_
      rintro e w5 ⟨⟨aI', cI', aW', cW', aR', cR'⟩, rfl, hb45, hQ5⟩
      unfold qryArr
      have hb5 := bcall hb4 hb45
      have hb56 := bnew (Below.refl w5.heap.size w5) (.cells #[.slice aI' Q.n cI', .int .i64 Q.mode, .int .i64 Q.after, .slice aW' Q.wn cW', .int .i64 Q.within, .string Q.by_, .slice aR' Q.m cR'] 41)
      have hb6 := bcall hb5 hb56
      have P0 := Lib.hid (blk_new w5 #[.slice aI' Q.n cI', .int .i64 Q.mode, .int .i64 Q.after, .slice aW' Q.wn cW', .int .i64 Q.within, .string Q.by_, .slice aR' Q.m cR'] 41)
      have HP6 := Lib.hid (hQ5.later hb56)
      clear hQ5
      have HT6 := Lib.hid (HT2.out.later hb6)
      go_upto_region 4 with fail
      generalize w5.alloc _ = w6 at *
      go_wp2_with fail
      refine (twinTree6_any A m c t _ hl HA.out HT6.out).mono ?_
      rintro e w7 ⟨v7, rfl, hb67, hown7⟩
      obtain ⟨A7, c7, rfl, _⟩ := rowown_shape hown7
      have HR7 := Lib.hid (show NodRd w7 w7.heap.size A7 m t from rowown_rd hown7 hmm)
      have hb7 := bcall hb6 hb67
      have D0 := Lib.hid (blk_below B0.out hb7)
      clear hown7
      go_wp2_with (refine wpList_load_row rfl 41 _ rfl w.heap.size rfl 41 _ (0, 0) _ D0.out Try.underlying41 rfl (by kernel_rfl) ?_)
      refine (uses_any ⟨aI, cI, aW, cW, aR, cR⟩ Q A m c t _ (HQ2.out.later hb7) HWF.out (HT2.out.later hb7) HN.out).mono ?_
      rintro e w8 ⟨v1, v2, v3, rfl, hb78, o1, o2, o3⟩
      obtain ⟨A1, k1, rfl, _⟩ := rowown_shape o1
      obtain ⟨A2, k2, rfl, _⟩ := rowown_shape o2
      obtain ⟨A3, k3, rfl, _⟩ := rowown_shape o3
      have hb89 := bnew (Below.refl w8.heap.size w8) (.cells #[.slice A1 (usesL bareB Q.n Q.it t m Q.n).length k1, .slice A2 (usesL prevB Q.n Q.it t m Q.n).length k2, .slice A3 (usesL aggB Q.n Q.it t m Q.n).length k3] 47)
      have hb79 := bcall hb78 hb89
      have U0 := Lib.hid (blk_new w8 #[.slice A1 (usesL bareB Q.n Q.it t m Q.n).length k1, .slice A2 (usesL prevB Q.n Q.it t m Q.n).length k2, .slice A3 (usesL aggB Q.n Q.it t m Q.n).length k3] 47)
      have I1 := Lib.hid ((nat_rd o1 (Nat.le_trans uses_len hnI)).later hb89)
      have I2 := Lib.hid ((nat_rd o2 (Nat.le_trans uses_len hnI)).later hb89)
      have I3 := Lib.hid ((nat_rd o3 (Nat.le_trans uses_len hnI)).later hb89)
      clear o1 o2 o3
      have hb9 := bcall hb7 hb79
      have P9 := Lib.hid (blk_below P0.out (bcall hb67 hb79))
      go_upto_region 6 with fail
      generalize w8.alloc _ = w9 at *
      go_wp2_with (refine wpList_load_row rfl 41 _ rfl w5.heap.size rfl 41 _ (0, 0) _ P9.out Try.underlying41 rfl (by kernel_rfl) ?_)
      refine (refUses_any ⟨aI', cI', aW', cW', aR', cR'⟩ Q A7 m c7 t _ (HP6.out.later (bcall hb67 hb79)) (HR7.out.later hb79)).mono ?_
      rintro e wa ⟨y1, y2, y3, rfl, hb9a, p1, p2, p3⟩
      obtain ⟨B1, r1, rfl, _⟩ := rowown_shape p1
      obtain ⟨B2, r2, rfl, _⟩ := rowown_shape p2
      obtain ⟨B3, r3, rfl, _⟩ := rowown_shape p3
      have hbab := bnew (Below.refl wa.heap.size wa) (.cells #[.slice B1 (usesL bareB Q.n Q.it t m Q.n).length r1, .slice B2 (usesL prevB Q.n Q.it t m Q.n).length r2, .slice B3 (usesL aggB Q.n Q.it t m Q.n).length r3] 47)
      have hb9b := bcall hb9a hbab
      have U1 := Lib.hid (blk_new wa #[.slice B1 (usesL bareB Q.n Q.it t m Q.n).length r1, .slice B2 (usesL prevB Q.n Q.it t m Q.n).length r2, .slice B3 (usesL aggB Q.n Q.it t m Q.n).length r3] 47)
      have J1 := Lib.hid ((nat_rd p1 (Nat.le_trans uses_len hnI)).later hbab)
      have J2 := Lib.hid ((nat_rd p2 (Nat.le_trans uses_len hnI)).later hbab)
      have J3 := Lib.hid ((nat_rd p3 (Nat.le_trans uses_len hnI)).later hbab)
      clear p1 p2 p3
      have hbb := bcall hb9 hb9b
      have hb6b := bcall hb67 (bcall hb79 hb9b)
      have E0 := Lib.hid (blk_below B0.out hbb)
      have E1 := Lib.hid (blk_below P0.out hb6b)
      have U0b := Lib.hid (blk_below U0.out hb9b)
      go_upto_region 7 with fail
      generalize wa.alloc _ = wb at *
      go_wp2_with (first | (refine wpList_load_row rfl 41 _ rfl w.heap.size rfl 41 _ (0, 0) _ E0.out Try.underlying41 rfl (by kernel_rfl) ?_) | (refine wpList_load_row rfl 41 _ rfl w5.heap.size rfl 41 _ (0, 0) _ E1.out Try.underlying41 rfl (by kernel_rfl) ?_))
      refine (sameQuery_same ⟨aI, cI, aW, cW, aR, cR⟩ ⟨aI', cI', aW', cW', aR', cR'⟩ Q _ (HQ2.out.later hbb) (HP6.out.later hb6b)).mono ?_
      rintro e wc ⟨rfl, hbbc⟩
      have F0 := Lib.hid (blk_below U0b.out hbbc)
      have F1 := Lib.hid (blk_below U1.out hbbc)
      go_wp2_with (first | (refine wpList_load_row rfl 47 _ rfl w8.heap.size rfl 47 _ (0, 0) _ F0.out Try.underlying47 rfl (by kernel_rfl) ?_) | (refine wpList_load_row rfl 47 _ rfl wa.heap.size rfl 47 _ (0, 0) _ F1.out Try.underlying47 rfl (by kernel_rfl) ?_))
      refine (sameUse_same A1 A2 A3 B1 B2 B3 _ _ _ k1 k2 k3 r1 r2 r3 _ _ _ _ (I1.out.later (bcall hb9b hbbc)) (I2.out.later (bcall hb9b hbbc)) (I3.out.later (bcall hb9b hbbc)) (J1.out.later hbbc) (J2.out.later hbbc) (J3.out.later hbbc)).mono ?_
      rintro e wd ⟨rfl, hbcd⟩
      have hbd := bcall hbb (bcall hbbc hbcd)
      go_wp2_with fail
      refine (sameTreeLaw6_same A A7 m c c7 t _ (HT2.out.later hbd) (HR7.out.later (bcall hb79 (bcall hb9b (bcall hbbc hbcd))))).mono ?_
      rintro e we ⟨rfl, q, rfl⟩
      go_wp2_with fail
      go_ret
      exact ⟨rfl, bdrewN (bcall HB hbd) q⟩
    · go_wp2_with fail
      go_ret
      exact ⟨rfl, bcall HB hb4⟩
  · go_wp2_with fail
    go_ret
    exact ⟨rfl, bcall HB hb3⟩
set_option maxRecDepth 8000 in
theorem checkUses_main {H : Type} {enc : TypeId × Value → H} (W : World) (base : Nat) {v0 v1 : Value} {d0 d1 : DataW H} {p0 p1 : List MemPlace} {X C L S : Prop}
    (o0 : Value.okWide Try.prog W .any base 41 v0) (h0 : DataW.Trod enc Try.prog W 0 (fun _ => true) true 41 v0 d0 p0) (o1 : Value.okWide Try.prog W .any base 38 v1) (h1 : DataW.Trod enc Try.prog W 0 (fun _ => true) true 38 v1 d1 p1)
    (_ : X) (hz : ReachedAll Try.prog ([41, 38] ++ (OpenSpec.ofChange Rows.checkUsesSpec).bare.plain.varTypes Try.prog) ([d0, d1] ++ [])) (_ : C) (_ : L) (_ : S) :
    Calls Try.prog 5 #[v0, v1] W fun e W' => e = .returned (.bool true) ∧ Below W.heap.size W W' := by
  obtain ⟨V, Q, rfl, hQ, hwf⟩ := open_query o0 h0 (reach_cons hz).1
  obtain ⟨a, len, cap, rfl⟩ := okWide_slice Try.underlying38 o1
  obtain ⟨fuel, hf⟩ := h1
  obtain ⟨A, n, c, f, e, hl, hA, hR, hN⟩ := rd_nodes (y := (d1, p1)) (by simpa [Value.cells] using hf) (reach_cons (reach_cons hz).2).1
  rw [e]
  exact checkUses_walk V Q A n c f W hQ hwf hl hA hR hN
end Go.Proofs.Ytagcbljfaflhoaa

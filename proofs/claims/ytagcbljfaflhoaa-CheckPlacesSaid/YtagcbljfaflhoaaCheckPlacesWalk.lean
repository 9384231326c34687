/-
  The walk of the law CheckPlaces; its arguments opened.
-/
import Derived.Test.YtagcbljfaflhoaaPlaces
import Derived.Deep.RegionHeld3
set_option linter.unusedSimpArgs false
namespace Go.Proofs.Ytagcbljfaflhoaa
open Go.RowKit Go.ChangeShapes Go.WideShapes Go.ChangeAt Go.Deep Go.Joins
theorem blk5 {w : World} {b : Nat} {v0 v1 v2 v3 v4 : Value} {T : TypeId} (h : w.heap[b]? = some (.cells #[v0, v1, v2, v3, v4] T (0, 0))) :
    w.cell? ⟨b, 0, none⟩ = some v0 ∧ w.cell? ⟨b, 1, none⟩ = some v1 ∧ w.cell? ⟨b, 2, none⟩ = some v2 ∧ w.cell? ⟨b, 3, none⟩ = some v3 ∧ w.cell? ⟨b, 4, none⟩ = some v4 :=
  ⟨blk_cell h rfl, blk_cell h rfl, blk_cell h rfl, blk_cell h rfl, blk_cell h rfl⟩
theorem blk4 {w : World} {b : Nat} {v0 v1 v2 v3 : Value} {T : TypeId} (h : w.heap[b]? = some (.cells #[v0, v1, v2, v3] T (0, 0))) :
    w.cell? ⟨b, 0, none⟩ = some v0 ∧ w.cell? ⟨b, 1, none⟩ = some v1 ∧ w.cell? ⟨b, 2, none⟩ = some v2 ∧ w.cell? ⟨b, 3, none⟩ = some v3 :=
  ⟨blk_cell h rfl, blk_cell h rfl, blk_cell h rfl, blk_cell h rfl⟩
set_option maxRecDepth 100000 in
set_option maxHeartbeats 2000000 in
theorem checkPlaces_walk (V : SptV) (S : Spt) (code part idx sub : Int) (w : World) (h : SptRd w w.heap.size V S) :
    Calls Try.prog 4 #[.agg (sptArr V S), .agg #[.int .i64 code, .int .i64 part, .int .i64 idx, .int .i64 sub]] w fun e w' => e = .returned (.bool true) ∧ Below w.heap.size w w' := by
  obtain ⟨a0, q0, a1, q1, a4, q4⟩ := V
  show Calls _ _ #[.agg #[.slice a0 S.n0 q0, .slice a1 S.n1 q1, .int .i64 S.within, .int .i64 S.by_, .slice a4 S.m q4], _] w _
  have HT := Lib.hid h
  have hb1 := bnew (bnew (Below.refl w.heap.size w) (.cells #[.slice a0 S.n0 q0, .slice a1 S.n1 q1, .int .i64 S.within, .int .i64 S.by_, .slice a4 S.m q4] 26)) (.cells #[.int .i64 code, .int .i64 part, .int .i64 idx, .int .i64 sub] 30)
  have b0 := blk_alloc (blk_new w #[.slice a0 S.n0 q0, .slice a1 S.n1 q1, .int .i64 S.within, .int .i64 S.by_, .slice a4 S.m q4] 26) (.cells #[.int .i64 code, .int .i64 part, .int .i64 idx, .int .i64 sub] 30)
  have b1 := blk_new (w.alloc (.cells #[.slice a0 S.n0 q0, .slice a1 S.n1 q1, .int .i64 S.within, .int .i64 S.by_, .slice a4 S.m q4] 26)) #[.int .i64 code, .int .i64 part, .int .i64 idx, .int .i64 sub] 30
  simp only [World.size_alloc] at b1
  have B0 := Lib.hid b0
  have B1 := Lib.hid b1
  have HT1 := Lib.hid (h.later hb1)
  clear h b0 b1
  go_enter Try.func4, Try.ntmps4
  go_wp2_with fail
  generalize (w.alloc _).alloc _ = w1 at *
  refine (twinSpots_any ⟨a0, q0, a1, q1, a4, q4⟩ S _ HT1.out).mono ?_
  rintro e w2 ⟨⟨A0, c0, A1, c1, A4, c4⟩, rfl, hb2, hS2⟩
  unfold sptArr
  have hb3 := bnew hb2 (.cells #[.slice A0 S.n0 c0, .slice A1 S.n1 c1, .int .i64 S.within, .int .i64 S.by_, .slice A4 S.m c4] 26)
  have P0 := Lib.hid (blk_below B0.out hb3)
  have P1 := Lib.hid (blk_below B1.out hb3)
  have P2 := Lib.hid (blk_new w2 #[.slice A0 S.n0 c0, .slice A1 S.n1 c1, .int .i64 S.within, .int .i64 S.by_, .slice A4 S.m c4] 26)
  have HS3 := Lib.hid (hS2.later (bnew (Below.refl _ _) (.cells #[.slice A0 S.n0 c0, .slice A1 S.n1 c1, .int .i64 S.within, .int .i64 S.by_, .slice A4 S.m c4] 26)))
  have HT3 := Lib.hid (HT1.out.later hb3)
  have hbf := bcall hb1 hb3
  clear hS2 hb2
  obtain ⟨x0, x1, x2, x3, x4⟩ := blk5 P0.out
  obtain ⟨y0, y1, y2, y3⟩ := blk4 P1.out
  go_wp2_with fail
  generalize w2.alloc (.cells #[.slice A0 S.n0 c0, .slice A1 S.n1 c1, .int .i64 S.within, .int .i64 S.by_, .slice A4 S.m c4] 26) = w3 at *
  clear x0 x1 x2 x3 x4 y0 y1 y2 y3
  refine (place_any ⟨a0, q0, a1, q1, a4, q4⟩ S code part idx sub _ HT3.out).mono ?_
  rintro e w4 ⟨rfl, hb4⟩
  obtain ⟨x0, x1, x2, x3, x4⟩ := blk5 (blk_below P0.out hb4)
  obtain ⟨z0, z1, z2, z3, z4⟩ := blk5 (blk_below P2.out hb4)
  go_wp2_with fail
  clear x0 x1 x2 x3 x4 z0 z1 z2 z3 z4
  refine (sameSpots_same ⟨a0, q0, a1, q1, a4, q4⟩ ⟨A0, c0, A1, c1, A4, c4⟩ S _ (HT3.out.later hb4) (HS3.out.later hb4)).mono ?_
  rintro e w5 ⟨rfl, hb5⟩
  have hb5' := bcall hb4 hb5
  obtain ⟨z0, z1, z2, z3, z4⟩ := blk5 (blk_below P2.out hb5')
  obtain ⟨y0, y1, y2, y3⟩ := blk4 (blk_below P1.out hb5')
  go_wp2_with fail
  clear z0 z1 z2 z3 z4 y0 y1 y2 y3
  refine (refPlace_any ⟨A0, c0, A1, c1, A4, c4⟩ S code part idx sub _ (HS3.out.later hb5')).mono ?_
  rintro e w6 ⟨rfl, hb6⟩
  go_wp2_with fail
  go_ret
  exact ⟨rfl, bcall hbf (bcall hb5' hb6)⟩
section
variable {H : Type} {enc : TypeId × Value → H} {w : World} {base : Nat} {sp : Nat → Bool} {held : Bool}
theorem open_spots {r : Reach} {b0 : Nat} {v : Value} {d : DataW H} {p : List MemPlace} (hv : Value.okWide Try.prog w r b0 26 v) (h : DataW.Trod enc Try.prog w base sp held 26 v d p) (hr : Reached Try.prog 26 d) :
    ∃ V S, v = .agg (sptArr V S) ∧ SptRd w w.heap.size V S := by
  obtain ⟨cs, rfl, hsz⟩ := okWide_struct Try.underlying26 hv
  have hc5 : Try.prog.cellsOf 26 = 5 := by kernel_rfl
  have h1 : cs.size = 5 := hsz.trans hc5
  have k1 : Try.prog.cellsOf 23 = 1 := by kernel_rfl
  have k2 : Try.prog.cellsOf 3 = 1 := by kernel_rfl
  have k3 : Try.prog.cellsOf 24 = 1 := by kernel_rfl
  have k4 : Try.prog.bytesOf 3 = 8 := by kernel_rfl
  have k5 : Try.prog.bytesOf 23 = 24 := by kernel_rfl
  obtain ⟨l⟩ := cs
  match l, h1 with
  | [c0, c1, c2, c3, c4], _ =>
    obtain ⟨fuel, hf⟩ := h
    obtain ⟨xs, n, _, hx, _, hlen, hg⟩ := DataW.trod_struct Try.underlying26 hf
    match xs, hlen with
    | [y0, y1, y2, y3, y4], _ =>
      have g0 := hg 0 _ rfl
      have g1 := hg 1 _ rfl
      have g2 := hg 2 _ rfl
      have g3 := hg 3 _ rfl
      have g4 := hg 4 _ rfl
      simp [k1, k2, k3, Value.cells] at g0 g1 g2 g3 g4
      simp only [Prod.mk.injEq] at hx
      have hd : d = .agg [y0.1, y1.1, y2.1, y3.1, y4.1] := by simpa using hx.1
      rw [hd] at hr
      have hra := reached_struct Try.underlying26 hr
      have s0 := reach_cons hra
      have s1 := reach_cons s0.2
      have s2 := reach_cons s1.2
      have s3 := reach_cons s2.2
      have s4 := reach_cons s3.2
      obtain ⟨A0, n0, q0, f0, e0, l0, z0, r0, _⟩ := rd_ints Try.underlying23 Try.underlying3 k2 k4 g0 s0.1
      obtain ⟨A1, n1, q1, f1, e1, l1, z1, r1, _⟩ := rd_ints Try.underlying23 Try.underlying3 k2 k4 g1 s1.1
      obtain ⟨wi, e2, _⟩ := DataW.trod_int Try.underlying3 g2
      obtain ⟨by_, e3, _⟩ := DataW.trod_int Try.underlying3 g3
      obtain ⟨A4, m, q4, W, L, F, e4, _, _, r4, hall⟩ := rd_intss Try.underlying24 Try.underlying23 Try.underlying3 k1 k5 k2 k4 g4 s4.1
      injection e2 with e2
      injection e3 with e3
      subst e0 e1 e2 e3 e4
      refine ⟨⟨A0, q0, A1, q1, A4, q4⟩, ⟨n0, f0, n1, f1, wi, by_, m, L, F⟩, rfl, l0, z0, r0, l1, z1, r1, r4.1, fun hn => ?_⟩
      obtain ⟨b, off, e, hb, hc⟩ := r4.spot1 (Nat.pos_of_ne_zero hn)
      refine ⟨b, off, e, hb, fun j hj => ?_⟩
      obtain ⟨a, c, e, hl, hz, hR, _⟩ := hall j hj
      exact ⟨a, c, by rw [hc j hj]; exact congrArg some e, hl, hz, hR⟩
theorem open_flaw {r : Reach} {b0 : Nat} {v : Value} {d : DataW H} {p : List MemPlace} (hv : Value.okWide Try.prog w r b0 30 v) (h : DataW.Trod enc Try.prog w base sp held 30 v d p) :
    ∃ code part idx sub, v = .agg #[.int .i64 code, .int .i64 part, .int .i64 idx, .int .i64 sub] := by
  obtain ⟨cs, rfl, hsz⟩ := okWide_struct Try.underlying30 hv
  have hc4 : Try.prog.cellsOf 30 = 4 := by kernel_rfl
  have h1 : cs.size = 4 := hsz.trans hc4
  have k1 : Try.prog.cellsOf 27 = 1 := by kernel_rfl
  have k2 : Try.prog.cellsOf 3 = 1 := by kernel_rfl
  have k3 : Try.prog.cellsOf 28 = 1 := by kernel_rfl
  obtain ⟨l⟩ := cs
  match l, h1 with
  | [c0, c1, c2, c3], _ =>
    obtain ⟨fuel, hf⟩ := h
    obtain ⟨xs, n, _, hx, _, hlen, hg⟩ := DataW.trod_struct Try.underlying30 hf
    match xs, hlen with
    | [y0, y1, y2, y3], _ =>
      have g0 := hg 0 _ rfl
      have g1 := hg 1 _ rfl
      have g2 := hg 2 _ rfl
      have g3 := hg 3 _ rfl
      simp [k1, k2, k3, Value.cells] at g0 g1 g2 g3
      obtain ⟨a, e0, _⟩ := DataW.trod_int Try.underlying27 g0
      obtain ⟨b, e1, _⟩ := DataW.trod_int Try.underlying28 g1
      obtain ⟨c, e2, _⟩ := DataW.trod_int Try.underlying3 g2
      obtain ⟨d, e3, _⟩ := DataW.trod_int Try.underlying3 g3
      injection e0 with e0
      injection e1 with e1
      injection e2 with e2
      injection e3 with e3
      subst e0 e1 e2 e3
      exact ⟨a, b, c, d, rfl⟩
end
set_option maxRecDepth 8000 in
theorem checkPlaces_main {H : Type} {enc : TypeId × Value → H} (W : World) (base : Nat) {v0 v1 : Value} {d0 d1 : DataW H} {p0 p1 : List MemPlace} {X C L S : Prop}
    (o0 : Value.okWide Try.prog W .any base 26 v0) (h0 : DataW.Trod enc Try.prog W 0 (fun _ => true) true 26 v0 d0 p0)
    (o1 : Value.okWide Try.prog W .any base 30 v1) (h1 : DataW.Trod enc Try.prog W 0 (fun _ => true) true 30 v1 d1 p1)
    (_ : X) (hz : ReachedAll Try.prog ([26, 30] ++ (OpenSpec.ofChange Rows.checkPlacesSpec).bare.plain.varTypes Try.prog) ([d0, d1] ++ [])) (_ : C) (_ : L) (_ : S) :
    Calls Try.prog 4 #[v0, v1] W fun e W' => e = .returned (.bool true) ∧ Below W.heap.size W W' := by
  obtain ⟨V, T, rfl, hT⟩ := open_spots o0 h0 (reach_cons hz).1
  obtain ⟨a, b, c, d, rfl⟩ := open_flaw o1 h1
  exact checkPlaces_walk V T a b c d W hT
end Go.Proofs.Ytagcbljfaflhoaa

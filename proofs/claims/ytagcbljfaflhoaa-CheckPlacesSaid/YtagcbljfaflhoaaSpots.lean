/-
  The places of a query's parts: what they read as, their copy, and that two alike are the same.
-/
import Derived.Test.YtagcbljfaflhoaaInts
import Derived.Test.YtagcbljfaflhoaaBlk
import Derived.Outline
set_option linter.unusedSimpArgs false
namespace Go.Proofs.Ytagcbljfaflhoaa
open Go.RowKit Go.ChangeShapes Go.WideShapes Go.ChangeAt Go.Deep Go.Joins
/-- A query's places. -/
structure Spt where
  n0 : Nat
  f0 : Nat → Int
  n1 : Nat
  f1 : Nat → Int
  within : Int
  by_ : Int
  m : Nat
  ln : Nat → Nat
  g : Nat → Nat → Int
/-- A list of lists of numbers reads so. -/
def IntsRd (w : World) (B : Nat) (A : Option Addr) (m : Nat) (ln : Nat → Nat) (g : Nat → Nat → Int) : Prop :=
  m * 24 ≤ 140737488351232 ∧ (m ≠ 0 → ∃ b off, A = some ⟨b, off, none⟩ ∧ b < B ∧ ∀ j, j < m → ∃ a c, w.cell? ⟨b, off + j, none⟩ = some (.slice a (ln j) c) ∧ ln j ≤ c ∧ (a = none → c = 0) ∧ IntRd w B a (ln j) (g j))
section
variable {w w' : World} {B m : Nat} {A : Option Addr} {ln : Nat → Nat} {g : Nat → Nat → Int}
theorem IntsRd.keep (h : IntsRd w B A m ln g) (hb : Below B w w') : IntsRd w' B A m ln g :=
  ⟨h.1, fun hn => by
    obtain ⟨b, off, e, hB, hc⟩ := h.2 hn
    refine ⟨b, off, e, hB, fun j hj => ?_⟩
    obtain ⟨a, c, h1, h2, h3, h4⟩ := hc j hj
    exact ⟨a, c, (hb.cell (p := ⟨b, off + j, none⟩) hB).trans h1, h2, h3, h4.below hb⟩⟩
theorem IntsRd.more {B' : Nat} (h : IntsRd w B A m ln g) (hB : B ≤ B') : IntsRd w B' A m ln g :=
  ⟨h.1, fun hn => by
    obtain ⟨b, off, e, hb, hc⟩ := h.2 hn
    refine ⟨b, off, e, by omega, fun j hj => ?_⟩
    obtain ⟨a, c, h1, h2, h3, h4⟩ := hc j hj
    exact ⟨a, c, h1, h2, h3, RowRd.more h4 hB⟩⟩
theorem IntsRd.later (h : IntsRd w w.heap.size A m ln g) (hb : Below w.heap.size w w') : IntsRd w' w'.heap.size A m ln g := (h.keep hb).more hb.size
end
/-- The values of the places. -/
structure SptV where
  A0 : Option Addr
  c0 : Nat
  A1 : Option Addr
  c1 : Nat
  A4 : Option Addr
  c4 : Nat
def sptArr (V : SptV) (S : Spt) : Array Value := #[.slice V.A0 S.n0 V.c0, .slice V.A1 S.n1 V.c1, .int .i64 S.within, .int .i64 S.by_, .slice V.A4 S.m V.c4]
structure SptRd (w : World) (B : Nat) (V : SptV) (S : Spt) : Prop where
  l0 : S.n0 ≤ V.c0
  z0 : V.A0 = none → V.c0 = 0
  r0 : IntRd w B V.A0 S.n0 S.f0
  l1 : S.n1 ≤ V.c1
  z1 : V.A1 = none → V.c1 = 0
  r1 : IntRd w B V.A1 S.n1 S.f1
  r4 : IntsRd w B V.A4 S.m S.ln S.g
theorem SptRd.later {w w' : World} {V : SptV} {S : Spt} (h : SptRd w w.heap.size V S) (hb : Below w.heap.size w w') : SptRd w' w'.heap.size V S :=
  ⟨h.l0, h.z0, h.r0.later hb, h.l1, h.z1, h.r1.later hb, h.r4.later hb⟩
/-- f, but x at j. -/
def upd1 {α : Type} (f : Nat → α) (j : Nat) (x : α) : Nat → α := fun i => if i = j then x else f i
theorem infoInts : (Try.prog.info? 23).map (fun i => (i.zero, i.size, i.bytes)) = some (some (.slice none 0 0), 1, 24) := by kernel_rfl
/-- What the copying keeps, k lists of the last part being copied: the rows lie from block B on. -/
structure TwS (wr : World) (B : Nat) (S : Spt) (k : Nat) (v0 v1 v4 : Value) : Prop where
  r0 : wr.ownsRow B 3 1 v0 S.n0 (flat (intC S.f0) 1 S.n0)
  r1 : wr.ownsRow B 3 1 v1 S.n1 (flat (intC S.f1) 1 S.n1)
  r4 : ∃ rv : Nat → Value, wr.ownsRow B 23 1 v4 k (flat (fun j _ => rv j) 1 k) ∧ ∀ j, j < k → wr.ownsRow B 3 1 (rv j) (S.ln j) (flat (intC (S.g j)) 1 (S.ln j))
theorem TwS.rd {wr : World} {B : Nat} {S : Spt} {V : SptV} (h : TwS wr B S S.m (.slice V.A0 S.n0 V.c0) (.slice V.A1 S.n1 V.c1) (.slice V.A4 S.m V.c4)) (h0 : S.n0 * 8 ≤ 140737488351232) (h1 : S.n1 * 8 ≤ 140737488351232) (hm : S.m * 24 ≤ 140737488351232)
    (hl : ∀ j, j < S.m → S.ln j * 8 ≤ 140737488351232) : SptRd wr wr.heap.size V S := by
  obtain ⟨A, c, e, l0, z0⟩ := rowown_shape h.r0
  injection e with e1 _ e2
  subst e1 e2
  obtain ⟨A, c, e, l1, z1⟩ := rowown_shape h.r1
  injection e with e1 _ e2
  subst e1 e2
  refine ⟨l0, z0, rowown_rd h.r0 h0, l1, z1, rowown_rd h.r1 h1, hm, fun hn => ?_⟩
  obtain ⟨rv, k1, k2⟩ := h.r4
  obtain ⟨b, off, e, hb, hc⟩ := (rowown_rd (bt := 24) k1 hm).2 hn
  refine ⟨b, off, e, hb, fun j hj => ?_⟩
  have h3 := hc j hj 0 (by omega)
  rw [Nat.mul_one, Nat.add_zero] at h3
  have h3 : _ = some (rv j) := h3
  obtain ⟨a, c, e, l, z⟩ := rowown_shape (k2 j hj)
  have h4 := k2 j hj
  rw [e] at h3 h4
  exact ⟨a, c, h3, l, z, rowown_rd h4 (hl j hj)⟩
theorem TwS.below {wr w' : World} {B : Nat} {S : Spt} {k : Nat} {v0 v1 v4 : Value} (h : TwS wr B S k v0 v1 v4) (hb : Below wr.heap.size wr w') : TwS w' B S k v0 v1 v4 := by
  obtain ⟨rv, k1, k2⟩ := h.r4
  exact ⟨rowown_below h.r0 hb, rowown_below h.r1 hb, rv, rowown_below k1 hb, fun j hj => rowown_below (k2 j hj) hb⟩
theorem TwS.set {wr : World} {B b : Nat} {S : Spt} {k : Nat} {v0 v1 v4 : Value} {cs : Array Value} {fr : Nat × Nat} (h : TwS wr B S k v0 v1 v4) (hb : wr.heap[b]? = some (.cells cs 26 fr)) (j : Nat) (u : Value) : TwS (wr.setCell ⟨b, j, none⟩ u) B S k v0 v1 v4 := by
  obtain ⟨rv, k1, k2⟩ := h.r4
  exact ⟨own_blk h.r0 hb (by decide) j u, own_blk h.r1 hb (by decide) j u, rv, own_blk k1 hb (by decide) j u, fun i hi => own_blk (k2 i hi) hb (by decide) j u⟩
theorem TwS.rd_all {w wr : World} {B b : Nat} {S : Spt} {V : SptV} {V0 : SptV} {cs : Array Value} {fr : Nat × Nat} (h : TwS wr B S S.m (.slice V.A0 S.n0 V.c0) (.slice V.A1 S.n1 V.c1) (.slice V.A4 S.m V.c4)) (hb : wr.heap[b]? = some (.cells cs 26 fr))
    (h0 : SptRd w w.heap.size V0 S) (hm : S.m * 24 ≤ 140737488351232) {u0 u1 u2 u3 u4 : Value} : SptRd (((((wr.setCell ⟨b, 0, none⟩ u0).setCell ⟨b, 1, none⟩ u1).setCell ⟨b, 2, none⟩ u2).setCell ⟨b, 3, none⟩ u3).setCell ⟨b, 4, none⟩ u4) (((((wr.setCell ⟨b, 0, none⟩ u0).setCell ⟨b, 1, none⟩ u1).setCell ⟨b, 2, none⟩ u2).setCell ⟨b, 3, none⟩ u3).setCell ⟨b, 4, none⟩ u4).heap.size V S := by
  have b1 := blk_set hb 0 u0
  have b2 := blk_set b1 1 u1
  have b3 := blk_set b2 2 u2
  have b4 := blk_set b3 3 u3
  refine TwS.rd (((((h.set hb 0 u0).set b1 1 u1).set b2 2 u2).set b3 3 u3).set b4 4 u4) h0.r0.1 h0.r1.1 hm fun j hj => ?_
  obtain ⟨_, _, _, _, hc⟩ := h0.r4.2 (by omega)
  obtain ⟨_, _, _, _, _, hr⟩ := hc j hj
  exact hr.1
set_option maxRecDepth 100000 in
set_option maxHeartbeats 2000000 in
theorem twinSpots_any (V : SptV) (S : Spt) (w : World) (h : SptRd w w.heap.size V S) :
    Calls Try.prog 6 #[.agg (sptArr V S)] w fun e w' => ∃ V', e = .returned (.agg (sptArr V' S)) ∧ Below w.heap.size w w' ∧ SptRd w' w'.heap.size V' S := by
  obtain ⟨a0, q0, a1, q1, a4, q4⟩ := V
  show Calls _ _ #[.agg #[.slice a0 S.n0 q0, .slice a1 S.n1 q1, .int .i64 S.within, .int .i64 S.by_, .slice a4 S.m q4]] w _
  have hm := h.r4.1
  have HT := Lib.hid h
  clear h
  have hb3 := bnew (bnew (bnew (Below.refl w.heap.size w) (.cells (#[.slice a0 S.n0 q0, .slice a1 S.n1 q1, .int .i64 S.within, .int .i64 S.by_, .slice a4 S.m q4]) 26)) (.cells #[.slice none 0 0, .slice none 0 0, .int .i64 0, .int .i64 0, .slice none 0 0] 26)) (.cells (#[.slice a0 S.n0 q0, .slice a1 S.n1 q1, .int .i64 S.within, .int .i64 S.by_, .slice a4 S.m q4]) 26)
  have b0 := blk_alloc (blk_alloc (blk_new w (#[.slice a0 S.n0 q0, .slice a1 S.n1 q1, .int .i64 S.within, .int .i64 S.by_, .slice a4 S.m q4]) 26) (.cells #[.slice none 0 0, .slice none 0 0, .int .i64 0, .int .i64 0, .slice none 0 0] 26)) (.cells (#[.slice a0 S.n0 q0, .slice a1 S.n1 q1, .int .i64 S.within, .int .i64 S.by_, .slice a4 S.m q4]) 26)
  have b1 := blk_alloc (blk_new (w.alloc (.cells (#[.slice a0 S.n0 q0, .slice a1 S.n1 q1, .int .i64 S.within, .int .i64 S.by_, .slice a4 S.m q4]) 26)) #[.slice none 0 0, .slice none 0 0, .int .i64 0, .int .i64 0, .slice none 0 0] 26) (.cells (#[.slice a0 S.n0 q0, .slice a1 S.n1 q1, .int .i64 S.within, .int .i64 S.by_, .slice a4 S.m q4]) 26)
  have b2 := blk_new ((w.alloc (.cells (#[.slice a0 S.n0 q0, .slice a1 S.n1 q1, .int .i64 S.within, .int .i64 S.by_, .slice a4 S.m q4]) 26)).alloc (.cells #[.slice none 0 0, .slice none 0 0, .int .i64 0, .int .i64 0, .slice none 0 0] 26)) (#[.slice a0 S.n0 q0, .slice a1 S.n1 q1, .int .i64 S.within, .int .i64 S.by_, .slice a4 S.m q4]) 26
  have hz3 : (((w.alloc (.cells (#[.slice a0 S.n0 q0, .slice a1 S.n1 q1, .int .i64 S.within, .int .i64 S.by_, .slice a4 S.m q4]) 26)).alloc (.cells #[.slice none 0 0, .slice none 0 0, .int .i64 0, .int .i64 0, .slice none 0 0] 26)).alloc (.cells (#[.slice a0 S.n0 q0, .slice a1 S.n1 q1, .int .i64 S.within, .int .i64 S.by_, .slice a4 S.m q4]) 26)).heap.size = w.heap.size + 3 := by simp
  simp only [World.size_alloc] at b1 b2
  have U0 := Lib.hid b0
  have U1 := Lib.hid b1
  have U2 := Lib.hid b2
  have HT3 := Lib.hid (HT.out.later hb3)
  clear b0 b1 b2
  go_enter Try.func6, Try.ntmps6
  go_wp2_with fail
  generalize ((w.alloc _).alloc _).alloc _ = w3 at *
  refine (twinInts_any a0 S.n0 q0 S.f0 _ HT3.out.l0 HT3.out.z0 HT3.out.r0).mono ?_
  rintro e w4 ⟨v0, rfl, hb4, hown4⟩
  obtain ⟨A0, c0, rfl, _⟩ := rowown_shape hown4
  have b0 := blk_below U0.out hb4
  have b1 := blk_below U1.out hb4
  have b2 := blk_below U2.out hb4
  have x1 := blk_cell b0 (j := 1) rfl
  have y0 := blk_cell b2 (j := 0) rfl
  have f0 := blk_free b2 0
  have hb5 := bset (bcall hb3 hb4) (p := ⟨w.heap.size + 1 + 1, 0, none⟩) (show w.heap.size ≤ w.heap.size + 1 + 1 by omega) (.slice A0 S.n0 c0)
  have T0 := Lib.hid (blk_other b0 (p := ⟨w.heap.size + 1 + 1, 0, none⟩) (show w.heap.size + 1 + 1 ≠ w.heap.size by omega) (.slice A0 S.n0 c0))
  have T1 := Lib.hid (blk_other b1 (p := ⟨w.heap.size + 1 + 1, 0, none⟩) (show w.heap.size + 1 + 1 ≠ w.heap.size + 1 by omega) (.slice A0 S.n0 c0))
  have T2 := Lib.hid (blk_set b2 0 (.slice A0 S.n0 c0))
  have HO0 := Lib.hid (own_blk hown4 b2 (by decide) 0 (.slice A0 S.n0 c0))
  have HT5 := Lib.hid (HT.out.later hb5)
  have hz5 : w3.heap.size ≤ (w4.setCell ⟨w.heap.size + 1 + 1, 0, none⟩ (.slice A0 S.n0 c0)).heap.size := by have := hb4.size; simpa using this
  clear b0 b1 b2 hown4
  go_wp2_with fail
  generalize w4.setCell ⟨w.heap.size + 1 + 1, 0, none⟩ (.slice A0 S.n0 c0) = w5 at *
  clear x1 y0 f0
  refine (twinInts_any a1 S.n1 q1 S.f1 _ HT5.out.l1 HT5.out.z1 HT5.out.r1).mono ?_
  rintro e w6 ⟨v1, rfl, hb6, hown6⟩
  obtain ⟨A1, c1, rfl, _⟩ := rowown_shape hown6
  have b0 := blk_below T0.out hb6
  have b1 := blk_below T1.out hb6
  have b2 := blk_below T2.out hb6
  have y1 := blk_cell b2 (j := 1) rfl
  have f1 := blk_free b2 1
  have b2' := blk_set b2 1 (.slice A1 S.n1 c1)
  have y4 := blk_cell b2' (j := 4) rfl
  have f4 := blk_free b2' 4
  have e2 : w.heap.size + 1 + 1 ≠ w.heap.size := by omega
  have e3 : w.heap.size + 1 + 1 ≠ w.heap.size + 1 := by omega
  have hb7 := bset (bset (bcall hb5 hb6) (p := ⟨w.heap.size + 1 + 1, 1, none⟩) (show w.heap.size ≤ w.heap.size + 1 + 1 by omega) (.slice A1 S.n1 c1)) (p := ⟨w.heap.size + 1 + 1, 4, none⟩) (show w.heap.size ≤ w.heap.size + 1 + 1 by omega) (.slice none 0 0)
  have B0 := Lib.hid (blk_other (blk_other b0 (p := ⟨w.heap.size + 1 + 1, 1, none⟩) e2 (.slice A1 S.n1 c1)) (p := ⟨w.heap.size + 1 + 1, 4, none⟩) e2 (.slice none 0 0))
  have B1 := Lib.hid (blk_other (blk_other b1 (p := ⟨w.heap.size + 1 + 1, 1, none⟩) e3 (.slice A1 S.n1 c1)) (p := ⟨w.heap.size + 1 + 1, 4, none⟩) e3 (.slice none 0 0))
  have B2 := Lib.hid (blk_set b2' 4 (.slice none 0 0))
  have hz6 := hb6.size
  have HS0 : Hid (TwS ((w6.setCell ⟨w.heap.size + 1 + 1, 1, none⟩ (.slice A1 S.n1 c1)).setCell ⟨w.heap.size + 1 + 1, 4, none⟩ (.slice none 0 0)) w3.heap.size S 0 (.slice A0 S.n0 c0) (.slice A1 S.n1 c1) (.slice none 0 0)) := Lib.hid
    ⟨own_blk (own_blk (rowown_below HO0.out hb6) b2 (by decide) 1 _) b2' (by decide) 4 _, own_blk (own_blk (ownsRow_le hown6 hz5) b2 (by decide) 1 _) b2' (by decide) 4 _, fun _ => .slice none 0 0, by rw [flat_zero]; exact World.ownsRow_nil _ _ _ _, fun j hj => absurd hj (Nat.not_lt_zero _)⟩
  have hz7 : w3.heap.size ≤ ((w6.setCell ⟨w.heap.size + 1 + 1, 1, none⟩ (.slice A1 S.n1 c1)).setCell ⟨w.heap.size + 1 + 1, 4, none⟩ (.slice none 0 0)).heap.size := by simp; omega
  clear b0 b1 b2 b2' hown6
  go_wp2_with fail
  generalize ((w6.setCell ⟨w.heap.size + 1 + 1, 1, none⟩ (.slice A1 S.n1 c1)).setCell ⟨w.heap.size + 1 + 1, 4, none⟩ (.slice none 0 0)) = w7 at *
  obtain ⟨i1, hi1, hy0, hy1, hy2⟩ := info_parts infoInts
  clear y1 f1 y4 f4
  have e4 : w.heap.size + 1 + 1 < w3.heap.size := by omega
  go_loopw [4] (fun i wr => ∃ (k : Nat) (ov : Value), k ≤ S.m ∧ i = .int .i64 k ∧ Below w.heap.size w wr ∧ w3.heap.size ≤ wr.heap.size ∧ Hid (TwS wr w3.heap.size S k (.slice A0 S.n0 c0) (.slice A1 S.n1 c1) ov) ∧
    Hid (wr.heap[w.heap.size]? = some (.cells #[.slice a0 S.n0 q0, .slice a1 S.n1 q1, .int .i64 S.within, .int .i64 S.by_, .slice a4 S.m q4] 26 (0, 0))) ∧
    Hid (wr.heap[w.heap.size + 1]? = some (.cells #[.slice none 0 0, .slice none 0 0, .int .i64 0, .int .i64 0, .slice none 0 0] 26 (0, 0))) ∧
    Hid (wr.heap[w.heap.size + 1 + 1]? = some (.cells #[.slice A0 S.n0 c0, .slice A1 S.n1 c1, .int .i64 S.within, .int .i64 S.by_, ov] 26 (0, 0)))) (fun i _ => S.m - (intOf i).toNat)
  case atStart => exact ⟨0, .slice none 0 0, Nat.zero_le _, rfl, hb7, hz7, HS0, B0, B1, B2⟩
  case round =>
    clear B0 B1 B2 HS0
    obtain ⟨k, ov, hk, rfl, hb, hz, HS, B0, B1, B2⟩ := hrel
    obtain ⟨W1, e1⟩ : ∃ W1 : World, W1 = wr := ⟨_, rfl⟩
    subst e1
    have x4 := blk_cell B0.out (j := 4) rfl
    by_cases hlt : k < S.m
    · obtain ⟨b, off, eA, hbl, hcs⟩ := HT.out.r4.2 (by omega)
      have eA : a4 = _ := eA
      subst eA
      obtain ⟨aa, ac, d1, hl2, hz2, hrow⟩ := hcs k hlt
      have hz2 := Lib.hid hz2
      have d2 := (hb.cell (p := ⟨b, off + k, none⟩) hbl).trans d1
      have hl8 := hrow.1
      have HR := Lib.hid (RowRd.more (hrow.below hb) hb.size)
      clear hcs d1 hrow
      go_wp2_with fail
      refine (twinInts_any aa (S.ln k) ac (S.g k) _ hl2 hz2.out HR.out).mono ?_
      rintro e w8 ⟨tv, rfl, hb8, hown8⟩
      obtain ⟨ta, tc, rfl, _⟩ := rowown_shape hown8
      obtain ⟨rv, hrow4, hrest⟩ := (HS.out.below hb8).r4
      have HS8 := Lib.hid (HS.out.below hb8)
      have b0 := blk_below B0.out hb8
      have b1 := blk_below B1.out hb8
      have b2 := blk_below B2.out hb8
      have y4 := blk_cell b2 (j := 4) rfl
      have f4 := blk_free b2 4
      have hz8 := hb8.size
      have HR4 := Lib.hid hrow4
      have HRE := Lib.hid hrest
      have HO8 := Lib.hid hown8
      have BB := Lib.hid (And.intro b0 (And.intro b1 b2))
      clear hrow4 hrest hown8 b0 b1 b2
      go_wp2_with (at_builtin; go_loud (refine wpList_append_lies _ rfl _ _ _ rfl w3.heap.size 23 i1 _ 1 24 Try.underlying24 hi1 hy0 hy1 hy2 rfl (by omega) ov k (flat (fun j _ => rv j) 1 k) rfl (HR4.out.alloc _) ⟨w8.heap.size, 0, none⟩ 1 1 [.slice ta (S.ln k) tc] rfl rfl (World.news_of_block (cs := #[.slice ta (S.ln k) tc]) (t := 23) (fr := (0, 0)) (heap_alloc_new w8 _)) (by simp [Value.oneCell']) (by omega) (by unfold maxLen; omega) (by omega) (by simp; omega) (w8.heap.size + 1) (by simp) ?_; intro gg gcap w9 hown9 hgrow hat hlt9; have B09 := Lib.hid (blk_grown (blk_alloc BB.out.1 _) hgrow (rowown_ne HR4.out (show w.heap.size < w3.heap.size by omega))); have B19 := Lib.hid (blk_grown (blk_alloc BB.out.2.1 _) hgrow (rowown_ne HR4.out (show w.heap.size + 1 < w3.heap.size by omega))); have B29 := Lib.hid (blk_grown (blk_alloc BB.out.2.2 _) hgrow (rowown_ne HR4.out (show w.heap.size + 1 + 1 < w3.heap.size by omega))); have y49 := blk_cell B29.out (j := 4) rfl; have f49 := blk_free B29.out 4))
      have hb9 := below_grown (bnew (bcall hb hb8) (.cells #[.slice ta (S.ln k) tc] 23)) hgrow (by have := hb.size; simp; omega) (fun x hx => by have := (HR4.out.lt x hx).1; omega)
      have hs9 := hgrow.size
      have hbf := bset hb9 (p := ⟨w.heap.size + 1 + 1, 4, none⟩) (show w.heap.size ≤ w.heap.size + 1 + 1 by omega) (.slice (some ⟨gg, 0, none⟩) (k + 1) gcap)
      have HT9 : Hid (TwS (w9.setCell ⟨w.heap.size + 1 + 1, 4, none⟩ (.slice (some ⟨gg, 0, none⟩) (k + 1) gcap)) w3.heap.size S (k + 1) (.slice A0 S.n0 c0) (.slice A1 S.n1 c1) (.slice (some ⟨gg, 0, none⟩) (k + 1) gcap)) := Lib.hid (by
        have keep : ∀ {B' : Nat} {v : Value} {n : Nat} {xs : List Value}, w8.ownsRow B' 3 1 v n xs → w9.ownsRow B' 3 1 v n xs := fun h =>
          rowown_kept (h.alloc _) hgrow (fun g hg => rowown_type HR4.out h (by decide) hg)
        refine TwS.set ⟨keep HS8.out.r0, keep HS8.out.r1, upd1 rv k (.slice ta (S.ln k) tc), ?_, fun j hj => ?_⟩ B29.out 4 _
        · have e : flat (fun j _ => upd1 rv k (.slice ta (S.ln k) tc) j) 1 (k + 1) = flat (fun j _ => rv j) 1 k ++ [.slice ta (S.ln k) tc] := by
            have a1 : ∀ j, j < k → ∀ i, i < 1 → (fun (j _ : Nat) => upd1 rv k (.slice ta (S.ln k) tc) j) j i = (fun (j _ : Nat) => rv j) j i := fun j hj i _ => if_neg (by omega)
            rw [flat_succ, flat_congr a1]
            simp [upd1]
          rw [e]
          exact hown9
        · by_cases ej : j = k
          · subst ej
            have : upd1 rv j (.slice ta (S.ln j) tc) j = .slice ta (S.ln j) tc := if_pos rfl
            rw [this]
            exact ownsRow_le (keep HO8.out) (by omega)
          · have : upd1 rv k (.slice ta (S.ln k) tc) j = rv j := if_neg ej
            rw [this]
            exact keep (HRE.out j (by omega)))
      have B0' := Lib.hid (blk_other B09.out (p := ⟨w.heap.size + 1 + 1, 4, none⟩) e2 (.slice (some ⟨gg, 0, none⟩) (k + 1) gcap))
      have B1' := Lib.hid (blk_other B19.out (p := ⟨w.heap.size + 1 + 1, 4, none⟩) e3 (.slice (some ⟨gg, 0, none⟩) (k + 1) gcap))
      have B2' := Lib.hid (blk_set B29.out 4 (.slice (some ⟨gg, 0, none⟩) (k + 1) gcap))
      have hzf : w3.heap.size ≤ (w9.setCell ⟨w.heap.size + 1 + 1, 4, none⟩ (.slice (some ⟨gg, 0, none⟩) (k + 1) gcap)).heap.size := by simp at hs9 ⊢; omega
      go_roundw
      case rel =>
        exact ⟨k + 1, .slice (some ⟨gg, 0, none⟩) (k + 1) gcap, by omega, by go_num, hbf, hzf, HT9, B0', B1', B2'⟩
      case measure => simp [intOf]; omega
    · obtain rfl : k = S.m := by omega
      obtain ⟨A4, c4, rfl⟩ : ∃ A4 c4, ov = .slice A4 S.m c4 := by
        obtain ⟨_, h4, _⟩ := HS.out.r4
        obtain ⟨A4, c4, e, _⟩ := rowown_shape h4
        exact ⟨A4, c4, e⟩
      have z0 := blk_cell B2.out (j := 0) rfl
      have z1 := blk_cell B2.out (j := 1) rfl
      have z2 := blk_cell B2.out (j := 2) rfl
      have z3 := blk_cell B2.out (j := 3) rfl
      have z4 := blk_cell B2.out (j := 4) rfl
      have t0 := blk_cell B1.out (j := 0) rfl
      have t1 := blk_cell B1.out (j := 1) rfl
      have t2 := blk_cell B1.out (j := 2) rfl
      have t3 := blk_cell B1.out (j := 3) rfl
      have t4 := blk_cell B1.out (j := 4) rfl
      have g0 := blk_free B1.out 0
      have g1 := blk_free B1.out 1
      have g2 := blk_free B1.out 2
      have g3 := blk_free B1.out 3
      have g4 := blk_free B1.out 4
      have HF := Lib.hid (TwS.rd_all (V := ⟨A0, c0, A1, c1, A4, c4⟩) HS.out B1.out HT.out hm (u0 := .slice A0 S.n0 c0) (u1 := .slice A1 S.n1 c1) (u2 := .int .i64 S.within) (u3 := .int .i64 S.by_) (u4 := .slice A4 S.m c4))
      have BF := Lib.hid (blk_set (blk_set (blk_set (blk_set (blk_set B1.out 0 (.slice A0 S.n0 c0)) 1 (.slice A1 S.n1 c1)) 2 (.int .i64 S.within)) 3 (.int .i64 S.by_)) 4 (.slice A4 S.m c4))
      have hbf := bset (bset (bset (bset (bset hb (p := ⟨w.heap.size + 1, 0, none⟩) (show w.heap.size ≤ w.heap.size + 1 by omega) (.slice A0 S.n0 c0)) (p := ⟨w.heap.size + 1, 1, none⟩) (show w.heap.size ≤ w.heap.size + 1 by omega) (.slice A1 S.n1 c1)) (p := ⟨w.heap.size + 1, 2, none⟩) (show w.heap.size ≤ w.heap.size + 1 by omega) (.int .i64 S.within)) (p := ⟨w.heap.size + 1, 3, none⟩) (show w.heap.size ≤ w.heap.size + 1 by omega) (.int .i64 S.by_)) (p := ⟨w.heap.size + 1, 4, none⟩) (show w.heap.size ≤ w.heap.size + 1 by omega) (.slice A4 S.m c4)
      go_wp2_with fail
      (try simp only [Exit.inBlock, Exit.then])
      have r0 := blk_cell BF.out (j := 0) rfl
      have r1 := blk_cell BF.out (j := 1) rfl
      have r2 := blk_cell BF.out (j := 2) rfl
      have r3 := blk_cell BF.out (j := 3) rfl
      have r4 := blk_cell BF.out (j := 4) rfl
      generalize ((((W1.setCell ⟨w.heap.size + 1, 0, none⟩ (.slice A0 S.n0 c0)).setCell ⟨w.heap.size + 1, 1, none⟩ (.slice A1 S.n1 c1)).setCell ⟨w.heap.size + 1, 2, none⟩ (.int .i64 S.within)).setCell ⟨w.heap.size + 1, 3, none⟩ (.int .i64 S.by_)).setCell ⟨w.heap.size + 1, 4, none⟩ (.slice A4 S.m c4) = wf at *
      refine bodyPost_ret (v := .agg #[.slice A0 S.n0 c0, .slice A1 S.n1 c1, .int .i64 S.within, .int .i64 S.by_, .slice A4 S.m c4]) ?_ rfl ?_
      · simp [results, Try.results6, go_sem, r0, r1, r2, r3, r4]
      · exact ⟨⟨A0, c0, A1, c1, A4, c4⟩, rfl, hbf, HF.out⟩
end Go.Proofs.Ytagcbljfaflhoaa

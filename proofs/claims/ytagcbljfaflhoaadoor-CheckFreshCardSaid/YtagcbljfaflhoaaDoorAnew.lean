/-
  The walk of the statement's own 'anew': a list of nodes that is asked about, written over and asked about again.
-/
import Derived.Test.YtagcbljfaflhoaaDoorCheckFn
import Derived.Test.YtagcbljfaflhoaaDoorMark
import Derived.Test.YtagcbljfaflhoaaDoorUsesRef
import Derived.Test.YtagcbljfaflhoaaDoorRefSub2
import Derived.Test.YtagcbljfaflhoaaDoorRefConj
import Derived.Test.YtagcbljfaflhoaaDoorTreeSame6
import Derived.Test.YtagcbljfaflhoaaDoorSameUse
set_option linter.unusedSimpArgs false
set_option linter.unusedVariables false
namespace Go.Proofs.YtagcbljfaflhoaaDoor
open Go.RowKit Go.ChangeShapes Go.WideShapes Go.ChangeAt Go.Deep Go.Joins
/-- A row of the call's own stays while another one, made ahead of it, is written to. -/
theorem own_far {w w' : World} {B n sz : Nat} {e : TypeId} {v v' : Value} {xs : List Value} (h : w.ownsRow B e sz v n xs) (hg : w.grownBy w' v'.ownBlock) (hlt : ∀ g, v'.ownBlock = some g → g < B) : w'.ownsRow B e sz v n xs :=
  rowown_kept h hg (fun g hg => rowown_ne h (hlt g hg))
/-- The first k nodes turned round. -/
def turnF (f : Nat → Nod) (n k : Nat) : Nat → Nod := fun j => if j < k then f (n - 1 - j) else f j
theorem turnF_zero (f : Nat → Nod) (n : Nat) : turnF f n 0 = f := by funext j; simp [turnF]
theorem turnF_next (f : Nat → Nod) (n k : Nat) : upd1 (turnF f n k) k (f (n - 1 - k)) = turnF f n (k + 1) := by
  funext j
  unfold upd1 turnF
  by_cases e : j = k
  · subst e
    rw [if_pos rfl, if_pos (by omega)]
  · by_cases h : j < k
    · rw [if_neg e, if_pos h, if_pos (by omega)]
    · rw [if_neg e, if_neg h, if_neg (by omega)]
set_option maxRecDepth 100000 in
set_option maxHeartbeats 8000000 in
theorem anew_any (V : QryV) (Q : Qry) (A : Option Addr) (n cap : Nat) (f : Nat → Nod) (root : Int) (w : World) (h : QryRd w w.heap.size V Q) (hwf : QryWf Q) (hl : n ≤ cap) (hA : A = none → cap = 0) (hT : NodRd w w.heap.size A n f) (hN : ∀ j, j < n → NodWf (f j)) {tt : TypeId} {fr : Nat × Nat} (hkw : w.heap[0]? = some (.cells kwArr tt fr)) :
    Calls Tryd.prog 44 #[.agg (qryArr V Q), .slice A n cap, .int .i64 root] w fun e w' => e = .returned (.bool true) ∧ Below w.heap.size w w' := by
  obtain ⟨aI, cI, aW, cW, aR, cR⟩ := V
  show Calls _ _ #[.agg #[.slice aI Q.n cI, .int .i64 Q.mode, .int .i64 Q.after, .slice aW Q.wn cW, .int .i64 Q.within, .string Q.by_, .slice aR Q.m cR], _, _] w _
  have hn6 : n * 64 ≤ 140737488351232 := hT.1
  have hn := hT.small
  have hnI := h.rI.small
  have hb0 := bnew (Below.refl w.heap.size w) (.cells #[.slice aI Q.n cI, .int .i64 Q.mode, .int .i64 Q.after, .slice aW Q.wn cW, .int .i64 Q.within, .string Q.by_, .slice aR Q.m cR] 40)
  have B0 := Lib.hid (blk_new w #[.slice aI Q.n cI, .int .i64 Q.mode, .int .i64 Q.after, .slice aW Q.wn cW, .int .i64 Q.within, .string Q.by_, .slice aR Q.m cR] 40)
  have hz0 : w.heap.size < (w.alloc (.cells #[.slice aI Q.n cI, .int .i64 Q.mode, .int .i64 Q.after, .slice aW Q.wn cW, .int .i64 Q.within, .string Q.by_, .slice aR Q.m cR] 40)).heap.size := by simp
  have HQ := Lib.hid h
  have HT := Lib.hid hT
  have HK := Lib.hid hkw
  have HWF := Lib.hid hwf
  have HNW := Lib.hid hN
  have HA := Lib.hid hA
  clear h hT hkw hwf hN hA
  go_enter Tryd.func44, Tryd.ntmps44
  go_upto_region 1 with fail
  generalize w.alloc _ = w0 at *
  go_wp2_with fail
  refine (copied_any A n cap f _ hl HA.out (HT.out.later hb0)).mono ?_
  rintro e w1 ⟨v1, rfl, d1, O1⟩
  obtain ⟨A1, c1, rfl, hl1, hz1⟩ := rowown_shape O1
  have hz01 := d1.size
  have hb1 := bcall hb0 d1
  have O1 := Lib.hid O1
  have hg1 : Hid (∀ g, Value.ownBlock (.slice A1 n c1) = some g → w0.heap.size ≤ g ∧ g < w1.heap.size) := Lib.hid (fun g hg => O1.out.lt g hg)
  have HZ1 := Lib.hid hz1
  clear hz1
  have hms : sizeI n f root ≤ n := size_le
  have hcl := conj_len (n := n) (f := f)
  have hub : (usesL bareB Q.n Q.it f n Q.n).length ≤ Q.n := uses_len
  go_wp2_with fail
  refine (checkSub_any A1 n c1 f root _ (rowown_rd O1.out hn6) hl1 (block_below HK.out hb1)).mono ?_
  obtain ⟨m, hm⟩ : ∃ m, sizeI n f root = m := ⟨_, rfl⟩
  obtain ⟨gs, hgs⟩ : ∃ g, subF n f root = g := ⟨_, rfl⟩
  rw [hm] at hms
  rw [hm, hgs]
  clear hm hgs
  rintro e w2 ⟨v2, rfl, d2, O2⟩
  obtain ⟨A2, c2, rfl, hl2, hz2⟩ := rowown_shape O2
  have hb2 := bcall hb1 d2
  have d12 := d2
  have O2 := Lib.hid O2
  have HZ2 := Lib.hid hz2
  clear hz2
  go_wp2_with fail
  refine (checkConj_any A1 n c1 f _ ((show NodRd w1 w1.heap.size A1 n f from rowown_rd O1.out hn6).later d12) (block_below HK.out hb2)).mono ?_
  obtain ⟨L, hL⟩ : ∃ L, conjL n f = L := ⟨_, rfl⟩
  rw [hL] at hcl
  rw [hL]
  clear hL
  rintro e w3 ⟨v3, rfl, d3, O3⟩
  obtain ⟨A3, c3, rfl, hl3, hz3⟩ := rowown_shape O3
  have hb3 := bcall hb2 d3
  have d13 := bcall d12 d3
  have O3 := Lib.hid O3
  have O2 := Lib.hid (rowown_below O2.out d3)
  have HZ3 := Lib.hid hz3
  clear hz3
  obtain ⟨y0, y1, y2, y3, y4, y5, y6⟩ := blk7 (blk_below B0.out (bcall d1 d13))
  go_wp2_with fail
  refine (uses_any ⟨aI, cI, aW, cW, aR, cR⟩ Q A1 n c1 f _ (HQ.out.later hb3) HWF.out ((show NodRd w1 w1.heap.size A1 n f from rowown_rd O1.out hn6).later d13) HNW.out).mono ?_
  obtain ⟨U1, hU1⟩ : ∃ L, usesL bareB Q.n Q.it f n Q.n = L := ⟨_, rfl⟩
  obtain ⟨U2, hU2⟩ : ∃ L, usesL prevB Q.n Q.it f n Q.n = L := ⟨_, rfl⟩
  obtain ⟨U3, hU3⟩ : ∃ L, usesL aggB Q.n Q.it f n Q.n = L := ⟨_, rfl⟩
  rw [hU1] at hub
  rw [hU1, hU2, hU3]
  clear hU1 hU2 hU3
  rintro e w4 ⟨u1, u2, u3, rfl, d4, P1, P2, P3⟩
  obtain ⟨B1, k1, rfl, hlb, hzb⟩ := rowown_shape P1
  obtain ⟨B2, k2, rfl, _⟩ := rowown_shape P2
  obtain ⟨B3, k3, rfl, _⟩ := rowown_shape P3
  clear y0 y1 y2 y3 y4 y5 y6 P2 P3
  have hs3 := d13.size
  have hs4 := d4.size
  have hb4 := bnew (bcall hb3 d4) (.cells #[.slice B1 U1.length k1, .slice B2 U2.length k2, .slice B3 U3.length k3] 57)
  have d14 := bnew (bcall d13 d4) (.cells #[.slice B1 U1.length k1, .slice B2 U2.length k2, .slice B3 U3.length k3] 57)
  have d34 := bnew d4 (.cells #[.slice B1 U1.length k1, .slice B2 U2.length k2, .slice B3 U3.length k3] 57)
  have UB := Lib.hid (blk_new w4 #[.slice B1 U1.length k1, .slice B2 U2.length k2, .slice B3 U3.length k3] 57)
  have P1 := Lib.hid (World.ownsRow.alloc P1 (.cells #[.slice B1 U1.length k1, .slice B2 U2.length k2, .slice B3 U3.length k3] 57))
  have O2 := Lib.hid (rowown_below O2.out d34)
  have O3 := Lib.hid (rowown_below O3.out d34)
  have HZB := Lib.hid hzb
  have hs4' : w1.heap.size ≤ w4.heap.size := by omega
  obtain ⟨ub, hubn⟩ : ∃ ub, w4.heap.size = ub := ⟨_, rfl⟩
  clear hzb d4 d34
  go_upto_region 5 with fail
  generalize w4.alloc _ = w5 at *
  rw [hubn] at UB hs4'
  try rw [hubn]
  clear hubn hs4
  go_wp2_with fail
  refine (copied_any A2 m c2 gs _ hl2 HZ2.out (rowown_rd O2.out (by omega))).mono ?_
  rintro e w6 ⟨v6, rfl, d6, O6⟩
  obtain ⟨A6, c6, rfl, _⟩ := rowown_shape O6
  have O6 := Lib.hid O6
  have O2 := Lib.hid (rowown_below O2.out d6)
  have O3 := Lib.hid (rowown_below O3.out d6)
  have P1 := Lib.hid (rowown_below P1.out d6)
  have UB := Lib.hid (blk_below UB.out d6)
  have hs5 := d14.size
  have d16 := bcall d14 d6
  go_wp2_with fail
  refine (twinInts_any A3 L.length c3 _ _ hl3 HZ3.out (natrow_rd O3.out (by omega))).mono ?_
  rintro e w7 ⟨v7, rfl, d7, O7⟩
  obtain ⟨A7, c7, rfl, _⟩ := rowown_shape O7
  have O7 := Lib.hid O7
  have O2 := Lib.hid (rowown_below O2.out d7)
  have O3 := Lib.hid (rowown_below O3.out d7)
  have O6 := Lib.hid (rowown_below O6.out d7)
  have P1 := Lib.hid (rowown_below P1.out d7)
  have UB := Lib.hid (blk_below UB.out d7)
  have hs6 := d16.size
  have d17 := bcall d16 d7
  have z0 := blk_cell UB.out (j := 0) rfl
  go_wp2_with fail
  refine (twinInts_any B1 U1.length k1 _ _ hlb HZB.out (natrow_rd P1.out (by omega))).mono ?_
  rintro e w8 ⟨v8, rfl, d8, O8⟩
  obtain ⟨A8, c8, rfl, _⟩ := rowown_shape O8
  have hs7 := d17.size
  have O8 := Lib.hid (own_wide O8 hs7)
  have O2 := Lib.hid (rowown_below O2.out d8)
  have O3 := Lib.hid (own_wide (rowown_below O3.out d8) (show w1.heap.size ≤ w2.heap.size from d12.size))
  have O6 := Lib.hid (own_wide (rowown_below O6.out d8) hs5)
  have O7 := Lib.hid (own_wide (rowown_below O7.out d8) hs6)
  have P1 := Lib.hid (own_wide (rowown_below P1.out d8) (show w1.heap.size ≤ w3.heap.size from hs3))
  have UB := Lib.hid (blk_below UB.out d8)
  have d18 := bcall d17 d8
  have O1 := Lib.hid (rowown_below O1.out d18)
  have hb8 := bcall hb1 d18
  have BX := Lib.hid (blk_below B0.out (bcall d1 d18))
  clear z0 d16 d17 d6 d7 d8 d14 d12 d13 hs5 hs6 hs7 hs3 hb2 hb3 hb4 d3 d2 B0
  go_wp2_with fail
  go_loopw [14] (fun i wr => ∃ k : Nat, k ≤ n ∧ i = .int .i64 k ∧ Hid (w8.grownBy wr (Value.ownBlock (.slice A1 n c1))) ∧ wr.heap.size = w8.heap.size ∧ Hid (wr.ownsRow w0.heap.size 60 6 (.slice A1 n c1) n (flat (fun j => nodCell (turnF f n k j)) 6 n))) (fun i _ => n - (intOf i).toNat)
  case atStart => exact ⟨0, Nat.zero_le _, rfl, Lib.hid (grown_refl _ _), rfl, by rw [turnF_zero]; exact O1⟩
  case round =>
    obtain ⟨k, hk, rfl, HG, hz, HV⟩ := hrel
    obtain ⟨W1, e1⟩ : ∃ W1 : World, W1 = wr := ⟨_, rfl⟩
    subst e1
    have hs8 := hb8.size
    have hbk : Below w.heap.size w W1 := below_grown hb8 HG.out hs8 (fun x hx => by have := hg1.out x hx; omega)
    by_cases hlt : k < n
    · rcases HV.out.2 with ⟨hv, h0⟩ | ⟨g, c', cur, hv, _⟩
      · exact absurd h0 (by omega)
      · injection hv with hv1 hv2 hv3
        subst hv1 hv3
        obtain ⟨b, off, rfl, hbl, hcs⟩ := (HT.out.later hbk).spot (by omega)
        obtain ⟨p, hp⟩ : ∃ p, n - 1 - k = p := ⟨_, rfl⟩
        obtain ⟨q0, q1, q2, q3, q4, q5⟩ := hcs p (by omega)
        have hidx : (n : Int) - 1 - (k : Int) = (p : Int) := by omega
        have hpn : p < n := by omega
        obtain ⟨x, hx⟩ : ∃ x, f p = x := ⟨_, rfl⟩
        rw [hx] at q0 q1 q2 q3 q4 q5
        have r0 := World.ownsRow.cellAt HV.out (k * 6) (by omega)
        have cl : ∀ i, i < 6 → W1.cell? ⟨g, k * 6 + i, none⟩ = some (nodCell (turnF f n k k) i) := fun i hi => by
          rw [World.ownsRow.cellAt HV.out (k * 6 + i) (by omega)]
          exact flat_at (fun j => nodCell (turnF f n k j)) hlt hi
        have t0 : W1.cell? ⟨g, k * 6, none⟩ = _ := cl 0 (by omega)
        have t1 := cl 1 (by omega)
        have t2 := cl 2 (by omega)
        have t3 := cl 3 (by omega)
        have t4 := cl 4 (by omega)
        have t5 := cl 5 (by omega)
        have s0 := World.ownsRow.frozenAt HV.out (k * 6)
        have s1 := World.ownsRow.frozenAt HV.out (k * 6 + 1)
        have s2 := World.ownsRow.frozenAt HV.out (k * 6 + 2)
        have s3 := World.ownsRow.frozenAt HV.out (k * 6 + 3)
        have s4 := World.ownsRow.frozenAt HV.out (k * 6 + 4)
        have s5 := World.ownsRow.frozenAt HV.out (k * 6 + 5)
        have h0 := World.ownsRow.stored HV.out (k * 6) (.int .i64 x.op)
        have h1 := World.ownsRow.stored h0.1 (k * 6 + 1) (.int .i64 x.n)
        have h2 := World.ownsRow.stored h1.1 (k * 6 + 2) (.string x.vr)
        have h3 := World.ownsRow.stored h2.1 (k * 6 + 3) (.string x.at_)
        have h4 := World.ownsRow.stored h3.1 (k * 6 + 4) (.int .i64 x.a)
        have h5 := World.ownsRow.stored h4.1 (k * 6 + 5) (.int .i64 x.b)
        have hgg := grown_trans HG.out (grown_trans h0.2 (grown_trans h1.2 (grown_trans h2.2 (grown_trans h3.2 (grown_trans h4.2 h5.2)))))
        have h5 := h5.1
        rw [flat_set6 hlt x, show (fun i => nodCell (upd1 (turnF f n k) k x i)) = fun i => nodCell (turnF f n (k + 1) i) by rw [← hx, ← hp, turnF_next]] at h5
        have HV2 := Lib.hid h5
        have HG2 := Lib.hid hgg
        clear hcs h0 h1 h2 h3 h4 h5 hgg cl r0
        go_wp2_with fail
        go_roundw
        case rel => exact ⟨k + 1, by omega, by go_num, HG2, by simpa using hz, HV2⟩
        case measure => simp [intOf]; omega
    · obtain rfl : k = n := by omega
      obtain ⟨ft, hft⟩ : ∃ ft, turnF f k k = ft := ⟨_, rfl⟩
      rw [hft] at HV
      have HNT : Hid (∀ j, j < k → NodWf (ft j)) := Lib.hid (fun j hj => by rw [← hft, turnF, if_pos hj]; exact HNW.out _ (by omega))
      have hlt1 : ∀ g, Value.ownBlock (.slice A1 k c1) = some g → g < w1.heap.size := fun g hg => (hg1.out g hg).2
      have O2 := Lib.hid (own_far O2.out HG.out hlt1)
      have O3 := Lib.hid (own_far O3.out HG.out hlt1)
      have O6 := Lib.hid (own_far O6.out HG.out hlt1)
      have O7 := Lib.hid (own_far O7.out HG.out hlt1)
      have O8 := Lib.hid (own_far O8.out HG.out hlt1)
      have P1 := Lib.hid (own_far P1.out HG.out hlt1)
      have UB := Lib.hid (blk_grown UB.out HG.out (fun e => by have := hlt1 _ e; omega))
      have BX := Lib.hid (blk_grown BX.out HG.out (fun e => by have := hg1.out _ e; omega))
      have NA := Lib.hid (show NodRd W1 W1.heap.size A2 m gs from rowown_rd O2.out (by omega))
      have NB := Lib.hid (show NodRd W1 W1.heap.size A6 m gs from rowown_rd O6.out (by omega))
      have IA := Lib.hid (natrow_rd O3.out (by omega))
      have IB := Lib.hid (show IntRd W1 W1.heap.size A7 L.length _ from rowown_rd O7.out (by omega))
      have JA := Lib.hid (natrow_rd P1.out (by omega))
      have JB := Lib.hid (show IntRd W1 W1.heap.size A8 U1.length _ from rowown_rd O8.out (by omega))
      have NW := Lib.hid (show NodRd W1 W1.heap.size A1 k ft from rowown_rd HV.out hn6)
      clear hft O2 O3 O6 O7 O8 P1 HV HG hlt1 hs8
      go_wp2_with fail
      refine (beyond_any A1 k c1 ft _ NW.out).mono ?_
      rintro e x1 ⟨⟨bb, rfl⟩, e1⟩
      cases bb
      · have NA := Lib.hid (NA.out.later e1)
        have NB := Lib.hid (NB.out.later e1)
        have IA := Lib.hid (IA.out.later e1)
        have IB := Lib.hid (IB.out.later e1)
        have JA := Lib.hid (JA.out.later e1)
        have JB := Lib.hid (JB.out.later e1)
        have NW := Lib.hid (NW.out.later e1)
        have UB := Lib.hid (blk_below UB.out e1)
        have BX := Lib.hid (blk_below BX.out e1)
        have hbk := bcall hbk e1
        go_wp2_with fail
        refine (checkSub_any A1 k c1 ft root _ NW.out hl1 (block_below HK.out hbk)).mono ?_
        have hms2 : sizeI k ft root ≤ k := size_le
        have hcl2 := conj_len (n := k) (f := ft)
        obtain ⟨m2, hm⟩ : ∃ m, sizeI k ft root = m := ⟨_, rfl⟩
        obtain ⟨gs2, hgs⟩ : ∃ g, subF k ft root = g := ⟨_, rfl⟩
        have HM := Lib.hid hm
        have HGS := Lib.hid hgs
        rw [hm] at hms2
        rw [hm, hgs]
        clear hm hgs
        rintro e x2 ⟨v2, rfl, e2, R2⟩
        obtain ⟨D2, g2, rfl, _⟩ := rowown_shape R2
        have NA := Lib.hid (NA.out.later e2)
        have NB := Lib.hid (NB.out.later e2)
        have IA := Lib.hid (IA.out.later e2)
        have IB := Lib.hid (IB.out.later e2)
        have JA := Lib.hid (JA.out.later e2)
        have JB := Lib.hid (JB.out.later e2)
        have NW := Lib.hid (NW.out.later e2)
        have UB := Lib.hid (blk_below UB.out e2)
        have BX := Lib.hid (blk_below BX.out e2)
        have hbk := bcall hbk e2
        have ND := Lib.hid (show NodRd x2 x2.heap.size D2 m2 gs2 from rowown_rd R2 (by omega))
        clear R2
        go_wp2_with fail
        refine (checkConj_any A1 k c1 ft _ NW.out (block_below HK.out hbk)).mono ?_
        obtain ⟨L2, hL⟩ : ∃ L, conjL k ft = L := ⟨_, rfl⟩
        have HL := Lib.hid hL
        rw [hL] at hcl2
        rw [hL]
        clear hL
        rintro e x3 ⟨v3, rfl, e3, R3⟩
        obtain ⟨D3, g3, rfl, _⟩ := rowown_shape R3
        have NA := Lib.hid (NA.out.later e3)
        have NB := Lib.hid (NB.out.later e3)
        have IA := Lib.hid (IA.out.later e3)
        have IB := Lib.hid (IB.out.later e3)
        have JA := Lib.hid (JA.out.later e3)
        have JB := Lib.hid (JB.out.later e3)
        have NW := Lib.hid (NW.out.later e3)
        have ND := Lib.hid (ND.out.later e3)
        have UB := Lib.hid (blk_below UB.out e3)
        have BX := Lib.hid (blk_below BX.out e3)
        have hbk := bcall hbk e3
        have ID := Lib.hid (natrow_rd R3 (by omega))
        clear R3
        obtain ⟨y0, y1, y2, y3, y4, y5, y6⟩ := blk7 BX.out
        go_wp2_with fail
        refine (uses_any ⟨aI, cI, aW, cW, aR, cR⟩ Q A1 k c1 ft _ (HQ.out.later hbk) HWF.out NW.out HNT.out).mono ?_
        have hv1 : (usesL bareB Q.n Q.it ft k Q.n).length ≤ Q.n := uses_len
        have hv2 : (usesL prevB Q.n Q.it ft k Q.n).length ≤ Q.n := uses_len
        have hv3 : (usesL aggB Q.n Q.it ft k Q.n).length ≤ Q.n := uses_len
        obtain ⟨V1, hV1⟩ : ∃ L, usesL bareB Q.n Q.it ft k Q.n = L := ⟨_, rfl⟩
        obtain ⟨V2, hV2⟩ : ∃ L, usesL prevB Q.n Q.it ft k Q.n = L := ⟨_, rfl⟩
        obtain ⟨V3, hV3⟩ : ∃ L, usesL aggB Q.n Q.it ft k Q.n = L := ⟨_, rfl⟩
        have HV1 := Lib.hid hV1
        have HV2 := Lib.hid hV2
        have HV3 := Lib.hid hV3
        rw [hV1] at hv1
        rw [hV2] at hv2
        rw [hV3] at hv3
        rw [hV1, hV2, hV3]
        clear hV1 hV2 hV3
        rintro e x4 ⟨u1, u2, u3, rfl, e4, R1, R2, R3⟩
        obtain ⟨E1, j1, rfl, _⟩ := rowown_shape R1
        obtain ⟨E2, j2, rfl, _⟩ := rowown_shape R2
        obtain ⟨E3, j3, rfl, _⟩ := rowown_shape R3
        have e5 := bnew e4 (.cells #[.slice E1 V1.length j1, .slice E2 V2.length j2, .slice E3 V3.length j3] 57)
        have f5 := bnew (Below.refl x4.heap.size x4) (.cells #[.slice E1 V1.length j1, .slice E2 V2.length j2, .slice E3 V3.length j3] 57)
        have VB := Lib.hid (blk_new x4 #[.slice E1 V1.length j1, .slice E2 V2.length j2, .slice E3 V3.length j3] 57)
        have K1 := Lib.hid ((natrow_rd R1 (by omega)).later f5)
        have K2 := Lib.hid ((natrow_rd R2 (by omega)).later f5)
        have K3 := Lib.hid ((natrow_rd R3 (by omega)).later f5)
        clear R1 R2 R3 y0 y1 y2 y3 y4 y5 y6 f5
        have NA := Lib.hid (NA.out.later e5)
        have NB := Lib.hid (NB.out.later e5)
        have IA := Lib.hid (IA.out.later e5)
        have IB := Lib.hid (IB.out.later e5)
        have JA := Lib.hid (JA.out.later e5)
        have JB := Lib.hid (JB.out.later e5)
        have NW := Lib.hid (NW.out.later e5)
        have ND := Lib.hid (ND.out.later e5)
        have ID := Lib.hid (ID.out.later e5)
        have UB := Lib.hid (blk_below UB.out e5)
        have BX := Lib.hid (blk_below BX.out e5)
        have hbk := bcall hbk e5
        obtain ⟨vb, hvb⟩ : ∃ vb, x4.heap.size = vb := ⟨_, rfl⟩
        clear e4 e5
        go_upto_region 17 with fail
        generalize x4.alloc _ = x5 at *
        rw [hvb] at VB
        try rw [hvb]
        clear hvb
        go_wp2_with fail
        refine (refSub_any A1 k c1 ft root _ NW.out (block_below HK.out hbk)).mono ?_
        rw [HM.out, HGS.out]
        rintro e x6 ⟨v6, rfl, e6, R6⟩
        obtain ⟨D6, g6, rfl, _⟩ := rowown_shape R6
        have NA := Lib.hid (NA.out.later e6)
        have NB := Lib.hid (NB.out.later e6)
        have IA := Lib.hid (IA.out.later e6)
        have IB := Lib.hid (IB.out.later e6)
        have JA := Lib.hid (JA.out.later e6)
        have JB := Lib.hid (JB.out.later e6)
        have NW := Lib.hid (NW.out.later e6)
        have ND := Lib.hid (ND.out.later e6)
        have ID := Lib.hid (ID.out.later e6)
        have K1 := Lib.hid (K1.out.later e6)
        have K2 := Lib.hid (K2.out.later e6)
        have K3 := Lib.hid (K3.out.later e6)
        have UB := Lib.hid (blk_below UB.out e6)
        have BX := Lib.hid (blk_below BX.out e6)
        have VB := Lib.hid (blk_below VB.out e6)
        have hbk := bcall hbk e6
        have NE := Lib.hid (show NodRd x6 x6.heap.size D6 m2 gs2 from rowown_rd R6 (by omega))
        clear R6
        go_wp2_with fail
        refine (refConj_any A1 k c1 ft _ NW.out (block_below HK.out hbk)).mono ?_
        rw [HL.out]
        rintro e x7 ⟨v7, rfl, e7, R7⟩
        obtain ⟨D7, g7, rfl, _⟩ := rowown_shape R7
        have NA := Lib.hid (NA.out.later e7)
        have NB := Lib.hid (NB.out.later e7)
        have IA := Lib.hid (IA.out.later e7)
        have IB := Lib.hid (IB.out.later e7)
        have JA := Lib.hid (JA.out.later e7)
        have JB := Lib.hid (JB.out.later e7)
        have NW := Lib.hid (NW.out.later e7)
        have ND := Lib.hid (ND.out.later e7)
        have ID := Lib.hid (ID.out.later e7)
        have K1 := Lib.hid (K1.out.later e7)
        have K2 := Lib.hid (K2.out.later e7)
        have K3 := Lib.hid (K3.out.later e7)
        have NE := Lib.hid (NE.out.later e7)
        have UB := Lib.hid (blk_below UB.out e7)
        have BX := Lib.hid (blk_below BX.out e7)
        have VB := Lib.hid (blk_below VB.out e7)
        have hbk := bcall hbk e7
        have IE := Lib.hid (natrow_rd R7 (by omega))
        clear R7
        obtain ⟨y0, y1, y2, y3, y4, y5, y6⟩ := blk7 BX.out
        go_wp2_with fail
        refine (refUses_any ⟨aI, cI, aW, cW, aR, cR⟩ Q A1 k c1 ft _ (HQ.out.later hbk) NW.out).mono ?_
        rw [HV1.out, HV2.out, HV3.out]
        rintro e x8 ⟨u1, u2, u3, rfl, e8, R1, R2, R3⟩
        obtain ⟨F1, i1, rfl, _⟩ := rowown_shape R1
        obtain ⟨F2, i2, rfl, _⟩ := rowown_shape R2
        obtain ⟨F3, i3, rfl, _⟩ := rowown_shape R3
        have e9 := bnew e8 (.cells #[.slice F1 V1.length i1, .slice F2 V2.length i2, .slice F3 V3.length i3] 57)
        have f9 := bnew (Below.refl x8.heap.size x8) (.cells #[.slice F1 V1.length i1, .slice F2 V2.length i2, .slice F3 V3.length i3] 57)
        have WB := Lib.hid (blk_new x8 #[.slice F1 V1.length i1, .slice F2 V2.length i2, .slice F3 V3.length i3] 57)
        have M1 := Lib.hid ((natrow_rd R1 (by omega)).later f9)
        have M2 := Lib.hid ((natrow_rd R2 (by omega)).later f9)
        have M3 := Lib.hid ((natrow_rd R3 (by omega)).later f9)
        clear R1 R2 R3 y0 y1 y2 y3 y4 y5 y6 f9
        have NA := Lib.hid (NA.out.later e9)
        have NB := Lib.hid (NB.out.later e9)
        have IA := Lib.hid (IA.out.later e9)
        have IB := Lib.hid (IB.out.later e9)
        have JA := Lib.hid (JA.out.later e9)
        have JB := Lib.hid (JB.out.later e9)
        have NW := Lib.hid (NW.out.later e9)
        have ND := Lib.hid (ND.out.later e9)
        have ID := Lib.hid (ID.out.later e9)
        have K1 := Lib.hid (K1.out.later e9)
        have K2 := Lib.hid (K2.out.later e9)
        have K3 := Lib.hid (K3.out.later e9)
        have NE := Lib.hid (NE.out.later e9)
        have IE := Lib.hid (IE.out.later e9)
        have UB := Lib.hid (blk_below UB.out e9)
        have BX := Lib.hid (blk_below BX.out e9)
        have VB := Lib.hid (blk_below VB.out e9)
        have hbk := bcall hbk e9
        obtain ⟨xb, hxb⟩ : ∃ vb, x8.heap.size = vb := ⟨_, rfl⟩
        clear e8 e9
        go_upto_region 20 with fail
        generalize x8.alloc _ = x9 at *
        rw [hxb] at WB
        try rw [hxb]
        clear hxb
        obtain ⟨a0, a1, a2⟩ := blk3 VB.out
        obtain ⟨b0, b1, b2⟩ := blk3 WB.out
        have c0 := blk_cell UB.out (j := 0) rfl
        go_wp2_with fail
        refine (sameIntsLaw_same E1 F1 V1.length j1 i1 _ _ (K1.out.later (Below.refl _ _)) (M1.out.later (Below.refl _ _))).mono ?_
        rintro e xx ⟨rfl, q0, rfl⟩
        go_wp2_with fail
        refine (sameIntsLaw_same E2 F2 V2.length j2 i2 _ _ (K2.out.later (bdrewN (Below.refl _ _) (q0))) (M2.out.later (bdrewN (Below.refl _ _) (q0)))).mono ?_
        rintro e xx ⟨rfl, q1, rfl⟩
        go_wp2_with fail
        refine (sameIntsLaw_same E3 F3 V3.length j3 i3 _ _ (K3.out.later (bdrewN (Below.refl _ _) (q0 + q1))) (M3.out.later (bdrewN (Below.refl _ _) (q0 + q1)))).mono ?_
        rintro e xx ⟨rfl, q2, rfl⟩
        go_wp2_with fail
        refine (sameTreeLaw6_same A2 A6 m c2 c6 _ _ (NA.out.later (bdrewN (Below.refl _ _) (q0 + q1 + q2))) (NB.out.later (bdrewN (Below.refl _ _) (q0 + q1 + q2)))).mono ?_
        rintro e xx ⟨rfl, q3, rfl⟩
        go_wp2_with fail
        refine (sameIntsLaw_same A3 A7 L.length c3 c7 _ _ (IA.out.later (bdrewN (Below.refl _ _) (q0 + q1 + q2 + q3))) (IB.out.later (bdrewN (Below.refl _ _) (q0 + q1 + q2 + q3)))).mono ?_
        rintro e xx ⟨rfl, q4, rfl⟩
        go_wp2_with fail
        refine (sameIntsLaw_same B1 A8 U1.length k1 c8 _ _ (JA.out.later (bdrewN (Below.refl _ _) (q0 + q1 + q2 + q3 + q4))) (JB.out.later (bdrewN (Below.refl _ _) (q0 + q1 + q2 + q3 + q4)))).mono ?_
        rintro e xx ⟨rfl, q5, rfl⟩
        go_wp2_with fail
        refine (sameTreeLaw6_same D2 D6 m2 g2 g6 _ _ (ND.out.later (bdrewN (Below.refl _ _) (q0 + q1 + q2 + q3 + q4 + q5))) (NE.out.later (bdrewN (Below.refl _ _) (q0 + q1 + q2 + q3 + q4 + q5)))).mono ?_
        rintro e xx ⟨rfl, q6, rfl⟩
        go_wp2_with fail
        refine (sameIntsLaw_same D3 D7 L2.length g3 g7 _ _ (ID.out.later (bdrewN (Below.refl _ _) (q0 + q1 + q2 + q3 + q4 + q5 + q6))) (IE.out.later (bdrewN (Below.refl _ _) (q0 + q1 + q2 + q3 + q4 + q5 + q6)))).mono ?_
        rintro e xx ⟨rfl, q7, rfl⟩
        go_wp2_with fail
        go_ret
        exact ⟨rfl, bdrewN hbk _⟩
      · go_wp2_with fail
        go_ret
        exact ⟨rfl, bcall hbk e1⟩
end Go.Proofs.YtagcbljfaflhoaaDoor

/-
  The walk of node: a leaf, one operand, two operands.
-/
import Derived.Test.YtfcdkadblagijaaDoorNode
set_option linter.unusedSimpArgs false
set_option linter.unusedVariables false
namespace Go.Proofs.YtfcdkadblagijaaDoor
open Go.RowKit Go.ChangeShapes Go.WideShapes Go.ChangeAt Go.Deep Go.Joins
set_option maxRecDepth 100000 in
set_option maxHeartbeats 4000000 in
theorem node_leaf (w0 : World) (A : Option Addr) (n c : Nat) (f : Nat → Nod) (HT : NodRd w0 w0.heap.size A n f) (HV : LevV w0) (HG : SgnV w0) (i : Nat) (hi : i < n) (x : Nod) (hx : f i = x) (ha1 : 1 ≤ x.op) (ha2 : x.op ≤ 11) (least : Int) (hle : least ≤ lev x.op)  : NodeAt w0 A n c i least 1 900002 900001 (leafT x) 0 := by
  intro R w L o d v hW hb hL ho hd hod
  have HW := Lib.hid hW
  have hn := HT.small
  have HTT := Lib.hid HT
  have hBw : w0.heap.size ≤ w.heap.size := hb.size
  clear hW HT
  by_cases hfull : 400 < L.length
  · go_enter Tryd.func21, Tryd.ntmps21
    go_wp2_with fail
    refine (full_any w0.heap.size R L o d v _ HW.out).mono ?_
    rintro e w1 ⟨rfl, rfl⟩
    rw [decide_eq_true hfull]
    go_wp2_with fail
    go_end0
    exact ⟨rfl, Stw.refl _ _, L, d, v, HW.out, Wrote.full hfull _ _⟩
  · obtain ⟨b, off, rfl, hbl, hcs⟩ := HTT.out.spot (by omega)
    obtain ⟨c0, c1, c2, c3, c4, c5⟩ := hcs i hi
    have d0 := (hb.cell (p := ⟨b, off + i * 6, none⟩) hbl).trans c0
    have d1 := (hb.cell (p := ⟨b, off + i * 6 + 1, none⟩) hbl).trans c1
    have d2 := (hb.cell (p := ⟨b, off + i * 6 + 2, none⟩) hbl).trans c2
    have d3 := (hb.cell (p := ⟨b, off + i * 6 + 3, none⟩) hbl).trans c3
    have d4 := (hb.cell (p := ⟨b, off + i * 6 + 4, none⟩) hbl).trans c4
    have d5 := (hb.cell (p := ⟨b, off + i * 6 + 5, none⟩) hbl).trans c5
    clear hcs c0 c1 c2 c3 c4 c5
    rw [hx] at d0 d1 d2 d3 d4 d5
    clear hx
    obtain ⟨op, nn, vr, at_, a, b2⟩ := x
    dsimp only at ha1 ha2 d0 d1 d2 d3 d4 d5 hle
    have h1 : 1 ≤ op := by omega
    have h2 : op ≤ 26 := by omega
    have hb1 := bnew hb (.cells #[.int .i64 op, .int .i64 nn, .string vr, .string at_, .int .i64 a, .int .i64 b2] 44)
    have S1 := Lib.hid (Stw.of (bnew (Below.refl _ _) (.cells #[.int .i64 op, .int .i64 nn, .string vr, .string at_, .int .i64 a, .int .i64 b2] 44)) hBw)
    have H1 := Lib.hid (HW.out.below (bnew (Below.refl _ _) (.cells #[.int .i64 op, .int .i64 nn, .string vr, .string at_, .int .i64 a, .int .i64 b2] 44)))
    have B1 := Lib.hid (blk_new w #[.int .i64 op, .int .i64 nn, .string vr, .string at_, .int .i64 a, .int .i64 b2] 44)
    obtain ⟨nb, hnb⟩ : ∃ nb, w.heap.size = nb := ⟨_, rfl⟩
    rw [hnb] at B1
    go_enter Tryd.func21, Tryd.ntmps21
    go_wp2_with fail
    refine (full_any w0.heap.size R L o d v _ HW.out).mono ?_
    rintro e w1 ⟨rfl, e1⟩
    obtain rfl := e1.symm
    rw [decide_eq_false hfull]
    go_upto_region 2 with fail
    try rw [hnb]
    clear hnb
    generalize w.alloc _ = w1 at *
    clear d0 d1 d2 d3 d4 d5
    obtain ⟨z0, z1, z2, z3, z4, z5⟩ := blk6 B1.out
    have hlr := lev_range h1 h2
    have LV := Lib.hid (HV.later hb1)
    have SG := Lib.hid (HG.later hb1)
    go_wp2_with fail
    refine (level_any op h1 h2 _ LV.out).mono ?_
    rintro e w2 ⟨rfl, e1⟩
    obtain rfl := e1.symm
    obtain ⟨l, hl⟩ : ∃ l, lev op = l := ⟨_, rfl⟩
    have HL := Lib.hid hl
    rw [hl] at hle hlr
    rw [hl]
    clear hl
    go_wp2_with fail
    refine (leaf_any op nn a b2 vr at_ ha1 ha2 _).mono ?_
    rintro e w2 ⟨A2, c2, rfl, hb2, hr2⟩
    have S2 := Lib.hid (S1.out.trans (Stw.of hb2 hb1.size))
    have H2 := Lib.hid (H1.out.below hb2)
    have HR := Lib.hid hr2
    have hln := leafT_len ⟨op, nn, vr, at_, a, b2⟩
    obtain ⟨M, hM⟩ : ∃ M, leafT ⟨op, nn, vr, at_, a, b2⟩ = M := ⟨_, rfl⟩
    have HM := Lib.hid hM
    rw [hM] at HR hln
    rw [hM]
    clear hM hr2 z0 z1 z2 z3 z4 z5
    obtain ⟨m, hm⟩ : ∃ m, M.length = m := ⟨_, rfl⟩
    have HME := Lib.hid hm
    rw [hm] at hln
    rw [hm]
    clear hm
    go_wp2_with fail
    rw [← HME.out]
    refine (add_any w0.heap.size R L M o d v A2 c2 _ H2.out HR.out (fun h => by have := HME.out; rw [h] at this; simp at this; omega) (by rw [HME.out]; omega)).mono ?_
    rintro e w3 ⟨rfl, hs3, v3, h3⟩
    have HF := Lib.hid (show NdPost w0.heap.size R w L o d (leafT ⟨op, nn, vr, at_, a, b2⟩) 0 (.returned (.tuple #[])) w3 from ⟨rfl, S2.out.trans hs3, _, _, _, h3, by rw [HM.out]; exact Wrote.add hod M⟩)
    clear h3 hs3
    go_wp2_with fail
    go_end0
    exact HF.out
set_option maxRecDepth 100000 in
set_option maxHeartbeats 4000000 in
theorem node_un (w0 : World) (A : Option Addr) (n c : Nat) (f : Nat → Nod) (HT : NodRd w0 w0.heap.size A n f) (HV : LevV w0) (HG : SgnV w0) (i : Nat) (hi : i < n) (x : Nod) (hx : f i = x) (ha : x.op = 12 ∨ x.op = 13) (j : Nat) (hj : j < i) (hxa : x.a = (j : Int)) (least : Int) (hle : least ≤ lev x.op) (szc pc : Nat) (Pc : List Tk) (hPc : Pc.length ≤ 8 * szc) (hpc : pc ≤ 2 * szc) (ih : NodeAt w0 A n c j (lev x.op) szc 900000 900000 Pc pc) : NodeAt w0 A n c i least (szc + 1) 900002 900001 (mkT (sgn x.op) :: Pc) (pc + 1) := by
  intro R w L o d v hW hb hL ho hd hod
  have HW := Lib.hid hW
  have hn := HT.small
  have HTT := Lib.hid HT
  have hBw : w0.heap.size ≤ w.heap.size := hb.size
  clear hW HT
  by_cases hfull : 400 < L.length
  · go_enter Tryd.func21, Tryd.ntmps21
    go_wp2_with fail
    refine (full_any w0.heap.size R L o d v _ HW.out).mono ?_
    rintro e w1 ⟨rfl, rfl⟩
    rw [decide_eq_true hfull]
    go_wp2_with fail
    go_end0
    exact ⟨rfl, Stw.refl _ _, L, d, v, HW.out, Wrote.full hfull _ _⟩
  · obtain ⟨b, off, rfl, hbl, hcs⟩ := HTT.out.spot (by omega)
    obtain ⟨c0, c1, c2, c3, c4, c5⟩ := hcs i hi
    have d0 := (hb.cell (p := ⟨b, off + i * 6, none⟩) hbl).trans c0
    have d1 := (hb.cell (p := ⟨b, off + i * 6 + 1, none⟩) hbl).trans c1
    have d2 := (hb.cell (p := ⟨b, off + i * 6 + 2, none⟩) hbl).trans c2
    have d3 := (hb.cell (p := ⟨b, off + i * 6 + 3, none⟩) hbl).trans c3
    have d4 := (hb.cell (p := ⟨b, off + i * 6 + 4, none⟩) hbl).trans c4
    have d5 := (hb.cell (p := ⟨b, off + i * 6 + 5, none⟩) hbl).trans c5
    clear hcs c0 c1 c2 c3 c4 c5
    rw [hx] at d0 d1 d2 d3 d4 d5
    clear hx
    obtain ⟨op, nn, vr, at_, a, b2⟩ := x
    dsimp only at ha hxa ih d0 d1 d2 d3 d4 d5 hle
    subst hxa
    have h1 : 1 ≤ op := by omega
    have h2 : op ≤ 26 := by omega
    have hb1 := bnew hb (.cells #[.int .i64 op, .int .i64 nn, .string vr, .string at_, .int .i64 (j : Int), .int .i64 b2] 44)
    have S1 := Lib.hid (Stw.of (bnew (Below.refl _ _) (.cells #[.int .i64 op, .int .i64 nn, .string vr, .string at_, .int .i64 (j : Int), .int .i64 b2] 44)) hBw)
    have H1 := Lib.hid (HW.out.below (bnew (Below.refl _ _) (.cells #[.int .i64 op, .int .i64 nn, .string vr, .string at_, .int .i64 (j : Int), .int .i64 b2] 44)))
    have B1 := Lib.hid (blk_new w #[.int .i64 op, .int .i64 nn, .string vr, .string at_, .int .i64 (j : Int), .int .i64 b2] 44)
    obtain ⟨nb, hnb⟩ : ∃ nb, w.heap.size = nb := ⟨_, rfl⟩
    rw [hnb] at B1
    go_enter Tryd.func21, Tryd.ntmps21
    go_wp2_with fail
    refine (full_any w0.heap.size R L o d v _ HW.out).mono ?_
    rintro e w1 ⟨rfl, e1⟩
    obtain rfl := e1.symm
    rw [decide_eq_false hfull]
    go_upto_region 2 with fail
    try rw [hnb]
    clear hnb
    generalize w.alloc _ = w1 at *
    clear d0 d1 d2 d3 d4 d5
    obtain ⟨z0, z1, z2, z3, z4, z5⟩ := blk6 B1.out
    have hlr := lev_range h1 h2
    have LV := Lib.hid (HV.later hb1)
    have SG := Lib.hid (HG.later hb1)
    go_wp2_with fail
    refine (level_any op h1 h2 _ LV.out).mono ?_
    rintro e w2 ⟨rfl, e1⟩
    obtain rfl := e1.symm
    obtain ⟨l, hl⟩ : ∃ l, lev op = l := ⟨_, rfl⟩
    have HL := Lib.hid hl
    rw [hl] at hle hlr
    rw [hl]
    clear hl
    have HU := Lib.hid ih
    rw [HL.out] at HU
    clear ih
    have hj : ∃ j : Nat, op = 12 + (j : Int) ∧ j < 15 := ⟨(op - 12).toNat, by omega, by omega⟩
    obtain ⟨js, hjs, hj15⟩ := hj
    have hsub : op - 12 = (js : Int) := by omega
    have HSG := Lib.hid (show sgn op = sgnL.getD js 0 by unfold sgn; rw [hsub]; rfl)
    obtain ⟨sg, hsg⟩ : ∃ s, sgnL.getD js 0 = s := ⟨_, rfl⟩
    rw [hsg] at HSG
    have hs0 := SG.out.cell hj15
    rw [hsg] at hs0
    clear hsg hjs
    have q1 : (12 : Int) ≤ op := by omega
    have q2 : op < 14 := by omega
    go_wp2_with fail
    refine (mark_any sg _).mono ?_
    rintro e w2 ⟨rfl, hb2⟩
    have S2 := Lib.hid (S1.out.trans (Stw.of hb2 hb1.size))
    have H2 := Lib.hid (H1.out.below hb2)
    have B2 := Lib.hid (blk_below B1.out hb2)
    go_wp2_with fail
    refine (enter_any w0.heap.size R L o d v sg 0 ⟨#[]⟩ _ H2.out (by omega) (by omega) (by omega)).mono ?_
    rintro e w3 ⟨rfl, hs3, v3, h3⟩
    have S3 := Lib.hid (S2.out.trans hs3)
    have H3 := Lib.hid h3
    have B3 := Lib.hid (hs3.keep _ _ _ _ B2.out (by decide) (by decide))
    have hb3 := hb.trans S3.out.below
    have LV3 := Lib.hid (HV.later hb3)
    clear h3 hs3 hb2 H2 hs0 B2
    obtain ⟨z0, z1, z2, z3, z4, z5⟩ := blk6 B3.out
    go_wp2_with fail
    have hm1 : (L ++ [(⟨sg, ⟨#[]⟩, 0⟩ : Tk)]).length + 8 * szc ≤ 900000 := by simp; omega
    have hm2 : (o + 1) + 2 * szc ≤ 900000 := by omega
    have hm3 : max d (o + 1) ≤ 900001 := by omega
    have hm4 : o + 1 ≤ max d (o + 1) := by omega
    have LVd : LevV w3.drew := LV3.out
    go_region_with (first
      | (go_at_call 42; go_loud (refine (level_any op h1 h2 _ LVd).mono ?_; rw [HL.out]; rintro e wz ⟨rfl, rfl⟩))
      | (go_at_call 21; refine (HU.out R _ (L ++ [⟨sg, ⟨#[]⟩, 0⟩]) (o + 1) (max d (o + 1)) v3 (H3.out.below (bdrewN (Below.refl _ _) 1)) (bdrewN hb3 1) hm1 hm2 hm3 hm4).mono ?_; rintro e w4 ⟨rfl, hs4, L4, d4, v4, h4, hw4⟩))
    all_goals
      have S4 := Lib.hid ((S3.out.trans ((Stw.refl w0.heap.size w3).drewN 1)).trans hs4)
      have H4 := Lib.hid h4
      have HWR := Lib.hid hw4
      have hl4 : L4.length ≤ L.length + 1 + Pc.length := by have := hw4.1; simpa using this
      clear h4 hs4 hw4 H3 B3 LVd LV3 z0 z1 z2 z3 z4 z5
      go_wp2_with fail
      refine (leave_any w0.heap.size R L4 [] o d4 v4 none 0 _ H4.out (Or.inl rfl) (fun _ => ⟨rfl, rfl⟩) (by simp; omega) (by omega)).mono ?_
      rintro e w7 ⟨rfl, hs7, v7, h7⟩
      have HF := Lib.hid (show NdPost w0.heap.size R w L o d (mkT (sgn op) :: Pc) (pc + 1) (.returned (.tuple #[])) w7 from ⟨rfl, S4.out.trans hs7, _, _, _, h7, by rw [HSG.out]; have := HWR.out.deep (Y := []) hod; rw [List.append_nil] at this ⊢; rw [List.append_nil] at this; exact this⟩)
      clear h7 hs7
      go_wp2_with fail
      go_end0
      exact HF.out
set_option maxRecDepth 100000 in
set_option maxHeartbeats 4000000 in
theorem node_bi (w0 : World) (A : Option Addr) (n c : Nat) (f : Nat → Nod) (HT : NodRd w0 w0.heap.size A n f) (HV : LevV w0) (HG : SgnV w0) (i : Nat) (hi : i < n) (x : Nod) (hx : f i = x) (ha : 14 ≤ x.op) (ha2 : x.op ≤ 26) (j k : Nat) (hj : j < i) (hk : k < i) (hxa : x.a = (j : Int)) (hxb : x.b = (k : Int)) (least : Int) (hle : least ≤ lev x.op) (sza pa szb pb : Nat) (Pa Pb : List Tk) (hPa : Pa.length ≤ 8 * sza) (hpa : pa ≤ 2 * sza) (hPb : Pb.length ≤ 8 * szb) (hpb : pb ≤ 2 * szb) (ihA : NodeAt w0 A n c j (leftL x.op) sza 900000 900000 Pa pa) (ihB : NodeAt w0 A n c k (lev x.op + 1) szb 900000 900000 Pb pb) : NodeAt w0 A n c i least (sza + szb + 1) 900002 900001 (Pa ++ mkT (sgn x.op) :: Pb) (max pa pb) := by
  intro R w L o d v hW hb hL ho hd hod
  have HW := Lib.hid hW
  have hn := HT.small
  have HTT := Lib.hid HT
  have hBw : w0.heap.size ≤ w.heap.size := hb.size
  clear hW HT
  by_cases hfull : 400 < L.length
  · go_enter Tryd.func21, Tryd.ntmps21
    go_wp2_with fail
    refine (full_any w0.heap.size R L o d v _ HW.out).mono ?_
    rintro e w1 ⟨rfl, rfl⟩
    rw [decide_eq_true hfull]
    go_wp2_with fail
    go_end0
    exact ⟨rfl, Stw.refl _ _, L, d, v, HW.out, Wrote.full hfull _ _⟩
  · obtain ⟨b, off, rfl, hbl, hcs⟩ := HTT.out.spot (by omega)
    obtain ⟨c0, c1, c2, c3, c4, c5⟩ := hcs i hi
    have d0 := (hb.cell (p := ⟨b, off + i * 6, none⟩) hbl).trans c0
    have d1 := (hb.cell (p := ⟨b, off + i * 6 + 1, none⟩) hbl).trans c1
    have d2 := (hb.cell (p := ⟨b, off + i * 6 + 2, none⟩) hbl).trans c2
    have d3 := (hb.cell (p := ⟨b, off + i * 6 + 3, none⟩) hbl).trans c3
    have d4 := (hb.cell (p := ⟨b, off + i * 6 + 4, none⟩) hbl).trans c4
    have d5 := (hb.cell (p := ⟨b, off + i * 6 + 5, none⟩) hbl).trans c5
    clear hcs c0 c1 c2 c3 c4 c5
    rw [hx] at d0 d1 d2 d3 d4 d5
    clear hx
    obtain ⟨op, nn, vr, at_, a, b2⟩ := x
    dsimp only at ha ha2 hxa hxb ihA ihB d0 d1 d2 d3 d4 d5 hle
    subst hxa hxb
    have h1 : 1 ≤ op := by omega
    have h2 : op ≤ 26 := by omega
    have hb1 := bnew hb (.cells #[.int .i64 op, .int .i64 nn, .string vr, .string at_, .int .i64 (j : Int), .int .i64 (k : Int)] 44)
    have S1 := Lib.hid (Stw.of (bnew (Below.refl _ _) (.cells #[.int .i64 op, .int .i64 nn, .string vr, .string at_, .int .i64 (j : Int), .int .i64 (k : Int)] 44)) hBw)
    have H1 := Lib.hid (HW.out.below (bnew (Below.refl _ _) (.cells #[.int .i64 op, .int .i64 nn, .string vr, .string at_, .int .i64 (j : Int), .int .i64 (k : Int)] 44)))
    have B1 := Lib.hid (blk_new w #[.int .i64 op, .int .i64 nn, .string vr, .string at_, .int .i64 (j : Int), .int .i64 (k : Int)] 44)
    obtain ⟨nb, hnb⟩ : ∃ nb, w.heap.size = nb := ⟨_, rfl⟩
    rw [hnb] at B1
    go_enter Tryd.func21, Tryd.ntmps21
    go_wp2_with fail
    refine (full_any w0.heap.size R L o d v _ HW.out).mono ?_
    rintro e w1 ⟨rfl, e1⟩
    obtain rfl := e1.symm
    rw [decide_eq_false hfull]
    go_upto_region 2 with fail
    try rw [hnb]
    clear hnb
    generalize w.alloc _ = w1 at *
    clear d0 d1 d2 d3 d4 d5
    obtain ⟨z0, z1, z2, z3, z4, z5⟩ := blk6 B1.out
    have hlr := lev_range h1 h2
    have LV := Lib.hid (HV.later hb1)
    have SG := Lib.hid (HG.later hb1)
    go_wp2_with fail
    refine (level_any op h1 h2 _ LV.out).mono ?_
    rintro e w2 ⟨rfl, e1⟩
    obtain rfl := e1.symm
    obtain ⟨l, hl⟩ : ∃ l, lev op = l := ⟨_, rfl⟩
    have HL := Lib.hid hl
    rw [hl] at hle hlr
    rw [hl]
    clear hl
    rw [HL.out] at ihB
    have hj : ∃ j : Nat, op = 12 + (j : Int) ∧ j < 15 := ⟨(op - 12).toNat, by omega, by omega⟩
    obtain ⟨js, hjs, hj15⟩ := hj
    have hsub : op - 12 = (js : Int) := by omega
    have HSG := Lib.hid (show sgn op = sgnL.getD js 0 by unfold sgn; rw [hsub]; rfl)
    obtain ⟨sg, hsg⟩ : ∃ s, sgnL.getD js 0 = s := ⟨_, rfl⟩
    rw [hsg] at HSG
    have hs0 := SG.out.cell hj15
    rw [hsg] at hs0
    have hsg0 := hsg
    clear hsg hjs
    have HSC := Lib.hid hsg0
    clear hsg0
    have q1 : (14 : Int) ≤ op := by omega
    go_wp2_with fail
    refine (level_any op h1 h2 _ LV.out).mono ?_
    rw [HL.out]
    rintro e w2 ⟨rfl, e1⟩
    obtain rfl := e1.symm
    by_cases h4 : l = 4
    · have e5 : leftL op = 5 := by unfold leftL; rw [HL.out, if_pos h4]
      rw [e5] at ihA
      clear e5
      rw [show l + 1 = 5 by omega] at ihB
      have HUA := Lib.hid ihA
      have HUB := Lib.hid ihB
      clear ihA ihB HL
      subst h4
      go_wp2_with fail
      refine (HUA.out R _ L o d v H1.out hb1 (by omega) (by omega) (by omega) hod).mono ?_
      rintro e w3 ⟨rfl, hs3, L3, d3, v3, h3, hw3⟩
      have S3 := Lib.hid (S1.out.trans hs3)
      have H3 := Lib.hid h3
      have HWA := Lib.hid hw3
      have B3 := Lib.hid (hs3.keep _ _ _ _ B1.out (by decide) (by decide))
      have hb3 := hb.trans S3.out.below
      have SG3 := Lib.hid (HG.later hb3)
      have hl3 : L3.length ≤ L.length + Pa.length := hw3.1
      have hd3 : d3 ≤ max d (o + pa) := hw3.2.1
      have hd3' : d ≤ d3 := hw3.2.2.1
      have hs3 := SG3.out.cell hj15
      rw [HSC.out] at hs3
      clear h3 hw3 H1 B1 LV z0 z1 z2 z3 z4 z5 hs0
      obtain ⟨z0, z1, z2, z3, z4, z5⟩ := blk6 B3.out
      go_wp2_with fail
      refine (mark_any sg _).mono ?_
      rintro e w4 ⟨rfl, hb4⟩
      have hb5 := bnew hb4 (.cells #[.int .i64 sg, .string ⟨#[]⟩, .int .i64 0, .int .i64 0] 62)
      have S5 := Lib.hid (S3.out.trans (Stw.of hb5 (Nat.le_trans hBw S3.out.size)))
      have H5 := Lib.hid (H3.out.below hb5)
      have HN5 := Lib.hid (blk_new w4 #[.int .i64 sg, .string ⟨#[]⟩, .int .i64 0, .int .i64 0] 62)
      have B5 := Lib.hid (blk_below B3.out hb5)
      clear z0 z1 z2 z3 z4 z5
      go_wp2_with fail
      refine (add1_any w0.heap.size R L3 o d3 v3 sg 0 ⟨#[]⟩ w4.heap.size _ H5.out HN5.out (by omega)).mono ?_
      rintro e w6 ⟨rfl, hs6, v6, h6⟩
      have S6 := Lib.hid (S5.out.trans hs6)
      have H6 := Lib.hid h6
      have B6 := Lib.hid (hs6.keep _ _ _ _ B5.out (by decide) (by decide))
      have hb6 := hb.trans S6.out.below
      clear h6 hs6 H5 HN5 B5 H3 B3 hb4 hb5
      obtain ⟨z0, z1, z2, z3, z4, z5⟩ := blk6 B6.out
      go_wp2_with fail
      refine (HUB.out R _ (L3 ++ [⟨sg, ⟨#[]⟩, 0⟩]) o d3 v6 H6.out hb6 (by simp; omega) (by omega) (by omega) (by omega)).mono ?_
      rintro e w7 ⟨rfl, hs7, L7, d7, v7, h7, hw7⟩
      have HF := Lib.hid (show NdPost w0.heap.size R w L o d (Pa ++ mkT (sgn op) :: Pb) (max pa pb) (.returned (.tuple #[])) w7 from ⟨rfl, S6.out.trans hs7, L7, d7, v7, h7, by
        rw [HSG.out]
        have := (HWA.out.trans (Wrote.add (L := L3) (show o ≤ d3 by omega) [⟨sg, ⟨#[]⟩, 0⟩])).trans hw7
        rw [List.append_assoc, Nat.max_zero] at this
        exact this⟩)
      clear h7 hs7 hw7
      go_wp2_with fail
      go_end0
      exact HF.out
    · have e5 : leftL op = l := by unfold leftL; rw [HL.out, if_neg h4]
      rw [e5] at ihA
      clear e5
      have HUA := Lib.hid ihA
      have HUB := Lib.hid ihB
      have h4b : (l == 4) = false := by rw [beq_eq_false_iff_ne]; exact h4
      clear ihA ihB HL h4
      go_wp2_with fail
      refine (HUA.out R _ L o d v H1.out hb1 (by omega) (by omega) (by omega) hod).mono ?_
      rintro e w3 ⟨rfl, hs3, L3, d3, v3, h3, hw3⟩
      have S3 := Lib.hid (S1.out.trans hs3)
      have H3 := Lib.hid h3
      have HWA := Lib.hid hw3
      have B3 := Lib.hid (hs3.keep _ _ _ _ B1.out (by decide) (by decide))
      have hb3 := hb.trans S3.out.below
      have SG3 := Lib.hid (HG.later hb3)
      have hl3 : L3.length ≤ L.length + Pa.length := hw3.1
      have hd3 : d3 ≤ max d (o + pa) := hw3.2.1
      have hd3' : d ≤ d3 := hw3.2.2.1
      have hs3 := SG3.out.cell hj15
      rw [HSC.out] at hs3
      clear h3 hw3 H1 B1 LV z0 z1 z2 z3 z4 z5 hs0
      obtain ⟨z0, z1, z2, z3, z4, z5⟩ := blk6 B3.out
      go_wp2_with fail
      refine (mark_any sg _).mono ?_
      rintro e w4 ⟨rfl, hb4⟩
      have hb5 := bnew hb4 (.cells #[.int .i64 sg, .string ⟨#[]⟩, .int .i64 0, .int .i64 0] 62)
      have S5 := Lib.hid (S3.out.trans (Stw.of hb5 (Nat.le_trans hBw S3.out.size)))
      have H5 := Lib.hid (H3.out.below hb5)
      have HN5 := Lib.hid (blk_new w4 #[.int .i64 sg, .string ⟨#[]⟩, .int .i64 0, .int .i64 0] 62)
      have B5 := Lib.hid (blk_below B3.out hb5)
      clear z0 z1 z2 z3 z4 z5
      go_wp2_with fail
      refine (add1_any w0.heap.size R L3 o d3 v3 sg 0 ⟨#[]⟩ w4.heap.size _ H5.out HN5.out (by omega)).mono ?_
      rintro e w6 ⟨rfl, hs6, v6, h6⟩
      have S6 := Lib.hid (S5.out.trans hs6)
      have H6 := Lib.hid h6
      have B6 := Lib.hid (hs6.keep _ _ _ _ B5.out (by decide) (by decide))
      have hb6 := hb.trans S6.out.below
      clear h6 hs6 H5 HN5 B5 H3 B3 hb4 hb5
      obtain ⟨z0, z1, z2, z3, z4, z5⟩ := blk6 B6.out
      go_wp2_with fail
      refine (HUB.out R _ (L3 ++ [⟨sg, ⟨#[]⟩, 0⟩]) o d3 v6 H6.out hb6 (by simp; omega) (by omega) (by omega) (by omega)).mono ?_
      rintro e w7 ⟨rfl, hs7, L7, d7, v7, h7, hw7⟩
      have HF := Lib.hid (show NdPost w0.heap.size R w L o d (Pa ++ mkT (sgn op) :: Pb) (max pa pb) (.returned (.tuple #[])) w7 from ⟨rfl, S6.out.trans hs7, L7, d7, v7, h7, by
        rw [HSG.out]
        have := (HWA.out.trans (Wrote.add (L := L3) (show o ≤ d3 by omega) [⟨sg, ⟨#[]⟩, 0⟩])).trans hw7
        rw [List.append_assoc, Nat.max_zero] at this
        exact this⟩)
      clear h7 hs7 hw7
      go_wp2_with fail
      go_end0
      exact HF.out
end Go.Proofs.YtfcdkadblagijaaDoor

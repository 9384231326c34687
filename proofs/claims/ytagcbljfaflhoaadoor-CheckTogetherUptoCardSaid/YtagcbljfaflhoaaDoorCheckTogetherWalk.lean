/-
  The walk of the law CheckTogether; its arguments opened.
-/
import Derived.Test.YtagcbljfaflhoaaDoorMerged
import Derived.Test.YtagcbljfaflhoaaDoorSameUse
import Derived.Test.YtagcbljfaflhoaaDoorKwVar
import Derived.Test.YtagcbljfaflhoaaDoorBulk
set_option linter.unusedSimpArgs false
set_option linter.unusedVariables false
namespace Go.Proofs.YtagcbljfaflhoaaDoor
open Go.RowKit Go.ChangeShapes Go.WideShapes Go.ChangeAt Go.Deep Go.Joins
theorem IntRd.more {w : World} {B B' n : Nat} {A : Option Addr} {f : Nat → Int} (h : IntRd w B A n f) (hB : B ≤ B') : IntRd w B' A n f := RowRd.more h hB
theorem getD_lt {L : List Nat} (h : L.Pairwise (· < ·)) {j k : Nat} (hjk : j < k) (hk : k < L.length) : L.getD j 0 < L.getD k 0 := by
  rw [getD_at hk, getD_at (Nat.lt_trans hjk hk)]
  exact List.pairwise_iff_getElem.1 h j k _ _ hjk
set_option maxRecDepth 100000 in
set_option maxHeartbeats 8000000 in
theorem checkTogether_walk (V : QryV) (Q : Qry) (A : Option Addr) (n cap : Nat) (f : Nat → Nod) (w : World) (h : QryRd w w.heap.size V Q) (hwf : QryWf Q) (hQ : Q.n ≤ 1048576) (hl : n ≤ cap) (hA : A = none → cap = 0) (hT : NodRd w w.heap.size A n f) (hN : ∀ j, j < n → NodWf (f j)) (hn : n ≤ 1048576) {tt : TypeId} {fr : Nat × Nat} (hkw : w.heap[0]? = some (.cells kwArr tt fr)) :
    Calls Tryd.prog 7 #[.agg (qryArr V Q), .slice A n cap] w fun e w' => e = .returned (.bool true) ∧ Below w.heap.size w w' := by
  obtain ⟨aI, cI, aW, cW, aR, cR⟩ := V
  show Calls _ _ #[.agg #[.slice aI Q.n cI, .int .i64 Q.mode, .int .i64 Q.after, .slice aW Q.wn cW, .int .i64 Q.within, .string Q.by_, .slice aR Q.m cR], _] w _
  have hb0 := bnew (Below.refl w.heap.size w) (.cells #[.slice aI Q.n cI, .int .i64 Q.mode, .int .i64 Q.after, .slice aW Q.wn cW, .int .i64 Q.within, .string Q.by_, .slice aR Q.m cR] 40)
  have B0 := Lib.hid (blk_new w #[.slice aI Q.n cI, .int .i64 Q.mode, .int .i64 Q.after, .slice aW Q.wn cW, .int .i64 Q.within, .string Q.by_, .slice aR Q.m cR] 40)
  have HQ := Lib.hid h
  have HT := Lib.hid hT
  have HK := Lib.hid hkw
  have HWF := Lib.hid hwf
  have HNW := Lib.hid hN
  clear h hT hkw hwf hN
  go_enter Tryd.func7, Tryd.ntmps7
  go_upto_region 1 with fail
  generalize w.alloc _ = w0 at *
  go_wp2_with fail
  refine (alive_any _ (block_below HK.out hb0)).mono ?_
  rintro e w1 ⟨rfl, d1⟩
  have hb1 := bcall hb0 d1
  obtain ⟨y0, y1, y2, y3, y4, y5, y6⟩ := blk7 (blk_below B0.out d1)
  go_wp2_with fail
  refine (queryBeyond_any ⟨aI, cI, aW, cW, aR, cR⟩ Q _ (HQ.out.later hb1)).mono ?_
  rintro e w2 ⟨⟨bb, rfl⟩, d2⟩
  have hb2 := bcall hb1 d2
  have d2 := bcall d1 d2
  clear y0 y1 y2 y3 y4 y5 y6
  cases bb
  · go_wp2_with fail
    refine (beyond_any A n cap f _ (HT.out.later hb2)).mono ?_
    rintro e w3 ⟨⟨bb, rfl⟩, d3⟩
    have hb3 := bcall hb2 d3
    have d3 := bcall d2 d3
    cases bb
    · go_wp2_with fail
      refine (checkConj_any A n cap f _ (HT.out.later hb3) (block_below HK.out hb3)).mono ?_
      rintro e w4 ⟨v4, rfl, d4, hown4⟩
      obtain ⟨A4, c4, rfl, _⟩ := rowown_shape hown4
      have hb4 := bcall hb3 d4
      have d4' := bcall d3 d4
      obtain ⟨tr, htr⟩ : ∃ tr, treeB n f = tr := ⟨_, rfl⟩
      have HTR := Lib.hid htr
      clear htr
      have hcl := conj_len (n := n) (f := f)
      have hcl0 : (conjL n f).length ≤ 2199023255488 := by omega
      go_wp2_with fail
      refine (refTree_any A n cap f _ (HT.out.later hb4) (block_below HK.out hb4)).mono ?_
      rw [HTR.out]
      rintro e w5 ⟨rfl, d5⟩
      have hb5 := bcall hb4 d5
      have d05 := bcall d4' d5
      cases tr
      · have he : (conjL n f).length = 0 := by rw [conjL, if_neg (by rw [HTR.out]; simp)]; rfl
        rw [he]
        go_wp2_with fail
        go_ret
        exact ⟨rfl, hb5⟩
      · have hpos := conj_pos HTR.out
        have hn0 := (tree_shp HTR.out).1
        obtain ⟨len, hlen⟩ : ∃ len, (conjL n f).length = len := ⟨_, rfl⟩
        rw [hlen] at hpos hcl
        obtain ⟨g, hg⟩ : ∃ g : Nat → Nat, (fun j => (conjL n f).getD j 0) = g := ⟨_, rfl⟩
        have HG : Hid (∀ j, (conjL n f).getD j 0 = g j) := Lib.hid (fun j => congrFun hg j)
        have HLEN := Lib.hid hlen
        have HR5 : Hid (IntRd w5 w5.heap.size A4 len (fun j => (g j : Nat))) := Lib.hid (by
          have := (natrow_rd hown4 hcl0).later d5
          rw [← hg, ← hlen]; exact this)
        have HSZ : Hid (sizeI n f ((n : Int) - 1) = n) := Lib.hid (by
          have e1 := size_at HTR.out (r := n - 1) (by omega)
          rw [(tree_shp HTR.out).2.2.1] at e1
          rw [show (n : Int) - 1 = ((n - 1 : Nat) : Int) by omega, e1]
          omega)
        have HSA := Lib.hid (sumK_all HTR.out)
        have HGL : Hid (∀ j, j < len → g j < n) := Lib.hid (fun j hj => by rw [← HG.out j]; exact conjL_lt HTR.out _ (getD_mem (by rw [hlen]; exact hj)))
        have HGO : Hid (∀ j, j < len → (f (g j)).op ≠ 25) := Lib.hid (fun j hj => by rw [← HG.out j]; exact conj_op HTR.out _ (getD_mem (by rw [hlen]; exact hj)))
        have HGR : Hid (∀ j k, j < k → k < len → g j < g k) := Lib.hid (fun j k hj hk => by rw [← HG.out j, ← HG.out k]; exact getD_lt (conj_rise HTR.out) hj (by rw [hlen]; exact hk))
        rw [hlen]
        rw [hlen] at HSA
        have hlp : ((len : Int) == 0) = false := by rw [beq_eq_false_iff_ne]; omega
        clear hown4 hg hlen
        go_wp2_with (go_at_call 13; refine (checkSize_any A n cap f ((n : Int) - 1) _ (HT.out.later hb5) (block_below HK.out hb5)).mono ?_; rw [HSZ.out]; rintro e w6 ⟨rfl, d6⟩)
        have hb6 := bcall hb5 d6
        have U7 := Lib.hid (blk_new w6 #[.slice none 0 0, .slice none 0 0, .slice none 0 0] 57)
        have d67 := bnew d6 (.cells #[.slice none 0 0, .slice none 0 0, .slice none 0 0] 57)
        have hb7 := bcall hb5 d67
        have hz7 : (w6.alloc (.cells #[.slice none 0 0, .slice none 0 0, .slice none 0 0] 57)).heap.size = w6.heap.size + 1 := World.size_alloc _ _
        generalize w6.alloc _ = w7 at *
        obtain ⟨ub, hub⟩ : ∃ ub, w6.heap.size = ub := ⟨_, rfl⟩
        have hz56 := d6.size
        have hz05 := d05.size
        have hzw0 := hb0.size
        have hw0 := blk_lt B0.out
        rw [hub] at U7 hz7 hz56 ⊢
        clear hub
        obtain ⟨z7, hz7'⟩ : ∃ z7, w7.heap.size = z7 := ⟨_, rfl⟩
        rw [hz7'] at hz7
        have hz67 : ub ≤ w7.heap.size := by omega
        go_loopw [9, 7] (fun i s wr => ∃ (k : Nat) (a1 a2 a3 : Option Addr) (m1 m2 m3 : Nat), k ≤ len ∧ i = .int .i64 k ∧ s = .int .i64 ((len : Int) - 1 + (sumK n f k : Nat)) ∧ Below ub w7 wr ∧ Hid (wr.heap[ub]? = some (.cells #[.slice a1 (useK bareB Q.n Q.it n f k).length m1, .slice a2 (useK prevB Q.n Q.it n f k).length m2, .slice a3 (useK aggB Q.n Q.it n f k).length m3] 57 (0, 0))) ∧ Hid (wr.ownsRow z7 3 1 (.slice a1 (useK bareB Q.n Q.it n f k).length m1) (useK bareB Q.n Q.it n f k).length ((useK bareB Q.n Q.it n f k).map natV)) ∧ Hid (wr.ownsRow z7 3 1 (.slice a2 (useK prevB Q.n Q.it n f k).length m2) (useK prevB Q.n Q.it n f k).length ((useK prevB Q.n Q.it n f k).map natV)) ∧ Hid (wr.ownsRow z7 3 1 (.slice a3 (useK aggB Q.n Q.it n f k).length m3) (useK aggB Q.n Q.it n f k).length ((useK aggB Q.n Q.it n f k).map natV))) (fun i _ _ => len - (intOf i).toNat)
        case atStart => exact ⟨0, none, none, none, 0, 0, 0, Nat.zero_le _, rfl, by rw [sumK_zero]; go_num, Below.refl _ _, by simp only [useK_zero]; exact U7, Lib.hid (by rw [useK_zero]; exact World.ownsRow_nil _ _ _ _), Lib.hid (by rw [useK_zero]; exact World.ownsRow_nil _ _ _ _), Lib.hid (by rw [useK_zero]; exact World.ownsRow_nil _ _ _ _)⟩
        case round =>
          obtain ⟨k, a1, a2, a3, m1, m2, m3, hk, rfl, rfl, hb, UB, O1, O2, O3⟩ := hrel
          obtain ⟨W1, e1⟩ : ∃ W1 : World, W1 = wr := ⟨_, rfl⟩
          subst e1
          have D5 : Below w5.heap.size w5 W1 := d67.trans (hb.mono hz56)
          have D0 : Below w0.heap.size w0 W1 := bcall d05 D5
          have hbW := bcall hb0 D0
          have hs7 := hb.size
          have hsk := sumK_le HTR.out (k := k) (by rw [HLEN.out]; exact hk)
          obtain ⟨su, hsu⟩ : ∃ su, sumK n f k = su := ⟨_, rfl⟩
          have HSU := Lib.hid hsu
          rw [hsu] at hsk ⊢
          clear hsu
          by_cases hlt : k < len
          · obtain ⟨U1, hU1⟩ : ∃ U, (useK bareB Q.n Q.it n f k) = U := ⟨_, rfl⟩
            obtain ⟨U2, hU2⟩ : ∃ U, (useK prevB Q.n Q.it n f k) = U := ⟨_, rfl⟩
            obtain ⟨U3, hU3⟩ : ∃ U, (useK aggB Q.n Q.it n f k) = U := ⟨_, rfl⟩
            have hlU1 : U1.length ≤ Q.n := by rw [← hU1]; exact useK_len
            have hlU2 : U2.length ≤ Q.n := by rw [← hU2]; exact useK_len
            have hlU3 : U3.length ≤ Q.n := by rw [← hU3]; exact useK_len
            rw [hU1, hU2, hU3] at UB
            rw [hU1] at O1
            rw [hU2] at O2
            rw [hU3] at O3
            have HU1 := Lib.hid hU1
            have HU2 := Lib.hid hU2
            have HU3 := Lib.hid hU3
            clear hU1 hU2 hU3
            have hgn := HGL.out k hlt
            have hgo := HGO.out k hlt
            obtain ⟨b4, o4, rfl, hbl4, hcs4⟩ := (IntRd.later HR5.out D5).spot (by omega)
            have x1 := hcs4 k hlt
            have XR : Hid (∀ j, j + 1 = k → W1.cell? ⟨b4, o4 + j, none⟩ = some (.int .i64 (g j : Nat)) ∧ g j < g k) := Lib.hid (fun j hj => ⟨hcs4 j (by omega), HGR.out j k (by omega) hlt⟩)
            obtain ⟨r, hr⟩ : ∃ r, g k = r := ⟨_, rfl⟩
            have HR := Lib.hid ((HG.out k).trans hr)
            rw [hr] at x1 hgn hgo XR
            have hsz := size_at HTR.out hgn
            have hsl := sub_last HTR.out hgn
            obtain ⟨s, hs⟩ : ∃ s, sizeI n f (r : Int) = s := ⟨_, rfl⟩
            have hs1 : 1 ≤ s := by rw [← hs, hsz]; omega
            have hsn : s ≤ n := hs ▸ size_le
            have HSN := Lib.hid (sumK_next (k := k) (by rw [HLEN.out]; exact hlt) HR.out)
            have HM1 := Lib.hid (useK_next (P := bareB) (N := Q.n) (it := Q.it) (k := k) (by rw [HLEN.out]; exact hlt) HR.out)
            have HM2 := Lib.hid (useK_next (P := prevB) (N := Q.n) (it := Q.it) (k := k) (by rw [HLEN.out]; exact hlt) HR.out)
            have HM3 := Lib.hid (useK_next (P := aggB) (N := Q.n) (it := Q.it) (k := k) (by rw [HLEN.out]; exact hlt) HR.out)
            have HSW := Lib.hid (sub_wf HTR.out (by omega) HNW.out (r : Int))
            rw [hs] at HSN HM1 HM2 HM3 hsl HSW
            rw [HSU.out] at HSN
            rw [HU1.out] at HM1
            rw [HU2.out] at HM2
            rw [HU3.out] at HM3
            obtain ⟨gg, hgg⟩ : ∃ gg, subF n f (r : Int) = gg := ⟨_, rfl⟩
            rw [hgg] at HM1 HM2 HM3 hsl HSW
            have hop : (gg (s - 1)).op ≠ 25 := by rw [hsl]; exact hgo
            have HS := Lib.hid hs
            have HGG := Lib.hid hgg
            clear hs hgg hsz hsl hr hcs4 hgo
            go_wp2_with fail
            refine (checkSub_any A n cap f (r : Int) _ (HT.out.later hbW) hl (block_below HK.out hbW)).mono ?_
            rw [HS.out, HGG.out]
            rintro e w8 ⟨v8, rfl, e8, hown8⟩
            obtain ⟨A8, c8, rfl, _⟩ := rowown_shape hown8
            have HR8 := Lib.hid (show NodRd w8 w8.heap.size A8 s gg from rowown_rd hown8 (by omega))
            have x1' := rd_later x1 e8
            have XR8 : Hid (∀ j, j + 1 = k → w8.cell? ⟨b4, o4 + j, none⟩ = some (.int .i64 (g j : Nat)) ∧ g j < r) := Lib.hid (fun j hj => ⟨rd_later (XR.out j hj).1 e8, (XR.out j hj).2⟩)
            clear hown8 x1 XR
            obtain ⟨s', rfl⟩ : ∃ s', s = s' + 1 := ⟨s - 1, by omega⟩
            obtain ⟨b8, o8, rfl, hbl8, hcs8⟩ := HR8.out.spot (by omega)
            obtain ⟨t0, _⟩ := hcs8 s' (by omega)
            have hs0b : ((s' : Int) + 1 == 0) = false := by rw [beq_eq_false_iff_ne]; omega
            have hs0c : ((s' + 1 : Nat) == 0) = false := rfl
            have t0b : ((gg s').op == 25) = false := by rw [beq_eq_false_iff_ne]; exact hop
            go_upto_region 18 with fail
            go_cut [90] from 46 to 111 (fun v wx => v = .bool false ∧ ∃ q, wx = w8.drewN q)
            case first =>
              clear hcs8
              by_cases hk0 : k = 0
              · subst hk0
                go_wp2_with fail
                go_quiet (fail)
                go_wp2_with fail
                go_meet
                exact ⟨rfl, _, rfl⟩
              · obtain ⟨j, rfl⟩ : ∃ j, k = j + 1 := ⟨k - 1, by omega⟩
                obtain ⟨x0, hx0⟩ := XR8.out j rfl
                have x0b : decide (r ≤ g j) = false := decide_eq_false (by omega)
                have hkp : ((0 : Int) < ((j + 1 : Nat) : Int)) := by omega
                go_wp2_with fail
                go_quiet (fail)
                go_wp2_with fail
                go_meet
                exact ⟨rfl, _, rfl⟩
            case rest =>
            obtain ⟨rfl, q, rfl⟩ := hcut
            clear hcs8 t0 t0b x1' XR8
            have e9 : Below W1.heap.size W1 (w8.drewN q) := bdrewN e8 q
            have HR9 : Hid (NodRd (w8.drewN q) (w8.drewN q).heap.size (some ⟨b8, o8, none⟩) (s' + 1) gg) := HR8
            generalize w8.drewN q = w9 at *
            obtain ⟨y0, y1, y2, y3, y4, y5, y6⟩ := blk7 (blk_below B0.out (bcall D0 e9))
            go_wp2_with fail
            refine (uses_any ⟨aI, cI, aW, cW, aR, cR⟩ Q (some ⟨b8, o8, none⟩) (s' + 1) c8 gg _ (HQ.out.later (bcall hbW e9)) HWF.out HR9.out HSW.out).mono ?_
            rintro e w10 ⟨v1, v2, v3, rfl, e10, p1, p2, p3⟩
            have hL1 : (usesL bareB Q.n Q.it gg (s' + 1) Q.n).length ≤ Q.n := uses_len
            have hL2 : (usesL prevB Q.n Q.it gg (s' + 1) Q.n).length ≤ Q.n := uses_len
            have hL3 : (usesL aggB Q.n Q.it gg (s' + 1) Q.n).length ≤ Q.n := uses_len
            obtain ⟨L1, h1⟩ : ∃ L, usesL bareB Q.n Q.it gg (s' + 1) Q.n = L := ⟨_, rfl⟩
            obtain ⟨L2, h2⟩ : ∃ L, usesL prevB Q.n Q.it gg (s' + 1) Q.n = L := ⟨_, rfl⟩
            obtain ⟨L3, h3⟩ : ∃ L, usesL aggB Q.n Q.it gg (s' + 1) Q.n = L := ⟨_, rfl⟩
            rw [h1] at HM1 p1 hL1
            rw [h2] at HM2 p2 hL2
            rw [h3] at HM3 p3 hL3
            clear h1 h2 h3 y0 y1 y2 y3 y4 y5 y6
            obtain ⟨B1, k1, rfl, _⟩ := rowown_shape p1
            obtain ⟨B2, k2, rfl, _⟩ := rowown_shape p2
            obtain ⟨B3, k3, rfl, _⟩ := rowown_shape p3
            have e10' := bcall e9 e10
            have hs9 := e9.size
            have hs10 := e10.size
            have VB := Lib.hid (blk_new w10 #[.slice B1 L1.length k1, .slice B2 L2.length k2, .slice B3 L3.length k3] 57)
            have e11 := bnew e10' (.cells #[.slice B1 L1.length k1, .slice B2 L2.length k2, .slice B3 L3.length k3] 57)
            have P1 := Lib.hid (own_wide (World.ownsRow.alloc p1 (.cells #[.slice B1 L1.length k1, .slice B2 L2.length k2, .slice B3 L3.length k3] 57)) (show z7 ≤ w9.heap.size by omega))
            have P2 := Lib.hid (own_wide (World.ownsRow.alloc p2 (.cells #[.slice B1 L1.length k1, .slice B2 L2.length k2, .slice B3 L3.length k3] 57)) (show z7 ≤ w9.heap.size by omega))
            have P3 := Lib.hid (own_wide (World.ownsRow.alloc p3 (.cells #[.slice B1 L1.length k1, .slice B2 L2.length k2, .slice B3 L3.length k3] 57)) (show z7 ≤ w9.heap.size by omega))
            have UB := Lib.hid (blk_below UB.out e11)
            have O1 := Lib.hid (rowown_below O1.out e11)
            have O2 := Lib.hid (rowown_below O2.out e11)
            have O3 := Lib.hid (rowown_below O3.out e11)
            have hb11 : Below ub w7 _ := hb.trans (e11.mono (by omega))
            have hvb : ub ≠ w10.heap.size := by omega
            have hz11 : z7 ≤ w10.heap.size + 1 := by omega
            have hs11 : (w10.alloc (.cells #[.slice B1 L1.length k1, .slice B2 L2.length k2, .slice B3 L3.length k3] 57)).heap.size = w10.heap.size + 1 := World.size_alloc _ _
            obtain ⟨vb, hvbn⟩ : ∃ vb, w10.heap.size = vb := ⟨_, rfl⟩
            clear p1 p2 p3
            go_upto_region 21 with fail
            generalize w10.alloc _ = x0 at *
            rw [hvbn] at VB hvb hs11 hz11
            try rw [hvbn]
            clear hvbn e10 e10' hs10 e9 hs9 e8 HR8 HR9
            obtain ⟨z0, z1, z2⟩ := blk3 UB.out
            obtain ⟨s0, s1, s2⟩ := blk3 VB.out
            go_wp2_with fail
            refine (merged_any a1 m1 U1 B1 k1 L1 _ (natrow_rd O1.out (by omega)) (natrow_rd P1.out (by omega)) (by omega)).mono ?_
            rintro e w20 ⟨v20, rfl, e20, o20⟩
            obtain ⟨q1, j1, rfl, _⟩ := rowown_shape o20
            clear z0 z1 z2 s0 s1 s2
            have hs20 := hb11.size
            have UB := Lib.hid (blk_below UB.out e20)
            have VB := Lib.hid (blk_below VB.out e20)
            have hc1 := hb11.trans (e20.mono (show ub ≤ x0.heap.size by omega))
            have u0 := blk_cell UB.out (j := 0) rfl
            have u1 := blk_free UB.out 0
            have hc1 := hc1.setCell (p := ⟨ub, 0, none⟩) (Nat.le_refl _) (.slice q1 (mergeL U1 L1).length j1)
            have UB := Lib.hid (blk_set UB.out 0 (.slice q1 (mergeL U1 L1).length j1))
            have VB := Lib.hid (blk_other VB.out (p := ⟨ub, 0, none⟩) hvb (.slice q1 (mergeL U1 L1).length j1))
            have o20 := own_wide o20 (show z7 ≤ x0.heap.size by omega)
            have N1 := Lib.hid (rowown_far (g := ub) (i := 0) o20 (rowown_ne o20 (by omega)) (.slice q1 (mergeL U1 L1).length j1))
            have O2 := Lib.hid (rowown_below O2.out e20)
            have O2 := Lib.hid (rowown_far (g := ub) (i := 0) O2.out (rowown_ne O2.out (by omega)) (.slice q1 (mergeL U1 L1).length j1))
            have O3 := Lib.hid (rowown_below O3.out e20)
            have O3 := Lib.hid (rowown_far (g := ub) (i := 0) O3.out (rowown_ne O3.out (by omega)) (.slice q1 (mergeL U1 L1).length j1))
            have P2 := Lib.hid (rowown_below P2.out e20)
            have P2 := Lib.hid (rowown_far (g := ub) (i := 0) P2.out (rowown_ne P2.out (by omega)) (.slice q1 (mergeL U1 L1).length j1))
            have P3 := Lib.hid (rowown_below P3.out e20)
            have P3 := Lib.hid (rowown_far (g := ub) (i := 0) P3.out (rowown_ne P3.out (by omega)) (.slice q1 (mergeL U1 L1).length j1))
            go_upto_region 22 with fail
            generalize World.setCell _ _ _ = x1 at *
            clear o20 e20 u0 u1
            obtain ⟨z0, z1, z2⟩ := blk3 UB.out
            obtain ⟨s0, s1, s2⟩ := blk3 VB.out
            go_wp2_with fail
            refine (merged_any a2 m2 U2 B2 k2 L2 _ (natrow_rd O2.out (by omega)) (natrow_rd P2.out (by omega)) (by omega)).mono ?_
            rintro e w20 ⟨v20, rfl, e20, o20⟩
            obtain ⟨q2, j2, rfl, _⟩ := rowown_shape o20
            clear z0 z1 z2 s0 s1 s2
            have hs20 := hc1.size
            have UB := Lib.hid (blk_below UB.out e20)
            have VB := Lib.hid (blk_below VB.out e20)
            have hc2 := hc1.trans (e20.mono (show ub ≤ x1.heap.size by omega))
            have u0 := blk_cell UB.out (j := 1) rfl
            have u1 := blk_free UB.out 1
            have hc2 := hc2.setCell (p := ⟨ub, 1, none⟩) (Nat.le_refl _) (.slice q2 (mergeL U2 L2).length j2)
            have UB := Lib.hid (blk_set UB.out 1 (.slice q2 (mergeL U2 L2).length j2))
            have VB := Lib.hid (blk_other VB.out (p := ⟨ub, 1, none⟩) hvb (.slice q2 (mergeL U2 L2).length j2))
            have o20 := own_wide o20 (show z7 ≤ x1.heap.size by omega)
            have N2 := Lib.hid (rowown_far (g := ub) (i := 1) o20 (rowown_ne o20 (by omega)) (.slice q2 (mergeL U2 L2).length j2))
            have O3 := Lib.hid (rowown_below O3.out e20)
            have O3 := Lib.hid (rowown_far (g := ub) (i := 1) O3.out (rowown_ne O3.out (by omega)) (.slice q2 (mergeL U2 L2).length j2))
            have P3 := Lib.hid (rowown_below P3.out e20)
            have P3 := Lib.hid (rowown_far (g := ub) (i := 1) P3.out (rowown_ne P3.out (by omega)) (.slice q2 (mergeL U2 L2).length j2))
            have N1 := Lib.hid (rowown_below N1.out e20)
            have N1 := Lib.hid (rowown_far (g := ub) (i := 1) N1.out (rowown_ne N1.out (by omega)) (.slice q2 (mergeL U2 L2).length j2))
            go_upto_region 23 with fail
            generalize World.setCell _ _ _ = x2 at *
            clear o20 e20 u0 u1
            obtain ⟨z0, z1, z2⟩ := blk3 UB.out
            obtain ⟨s0, s1, s2⟩ := blk3 VB.out
            go_wp2_with fail
            refine (merged_any a3 m3 U3 B3 k3 L3 _ (natrow_rd O3.out (by omega)) (natrow_rd P3.out (by omega)) (by omega)).mono ?_
            rintro e w20 ⟨v20, rfl, e20, o20⟩
            obtain ⟨q3, j3, rfl, _⟩ := rowown_shape o20
            clear z0 z1 z2 s0 s1 s2
            have hs20 := hc2.size
            have UB := Lib.hid (blk_below UB.out e20)
            have VB := Lib.hid (blk_below VB.out e20)
            have hc3 := hc2.trans (e20.mono (show ub ≤ x2.heap.size by omega))
            have u0 := blk_cell UB.out (j := 2) rfl
            have u1 := blk_free UB.out 2
            have hc3 := hc3.setCell (p := ⟨ub, 2, none⟩) (Nat.le_refl _) (.slice q3 (mergeL U3 L3).length j3)
            have UB := Lib.hid (blk_set UB.out 2 (.slice q3 (mergeL U3 L3).length j3))
            have VB := Lib.hid (blk_other VB.out (p := ⟨ub, 2, none⟩) hvb (.slice q3 (mergeL U3 L3).length j3))
            have o20 := own_wide o20 (show z7 ≤ x2.heap.size by omega)
            have N3 := Lib.hid (rowown_far (g := ub) (i := 2) o20 (rowown_ne o20 (by omega)) (.slice q3 (mergeL U3 L3).length j3))
            have N1 := Lib.hid (rowown_below N1.out e20)
            have N1 := Lib.hid (rowown_far (g := ub) (i := 2) N1.out (rowown_ne N1.out (by omega)) (.slice q3 (mergeL U3 L3).length j3))
            have N2 := Lib.hid (rowown_below N2.out e20)
            have N2 := Lib.hid (rowown_far (g := ub) (i := 2) N2.out (rowown_ne N2.out (by omega)) (.slice q3 (mergeL U3 L3).length j3))
            go_upto_region 15 with fail
            generalize World.setCell _ _ _ = x3 at *
            clear o20 e20 u0 u1
            go_wp2_with fail
            go_roundw
            case rel => exact ⟨k + 1, q1, q2, q3, j1, j2, j3, by omega, by go_num, by rw [HSN.out]; go_num, hc3, by rw [← HM1.out, ← HM2.out, ← HM3.out]; exact UB, by rw [← HM1.out]; exact N1, by rw [← HM2.out]; exact N2, by rw [← HM3.out]; exact N3⟩
            case measure => simp [intOf]; omega
          · obtain rfl : k = len := by omega
            have E1 := Lib.hid (useK_all (P := bareB) (by rfl) Q.n Q.it HTR.out)
            have E2 := Lib.hid (useK_all (P := prevB) (by rfl) Q.n Q.it HTR.out)
            have E3 := Lib.hid (useK_all (P := aggB) (by rfl) Q.n Q.it HTR.out)
            rw [HLEN.out] at E1 E2 E3
            have hsum : (k : Int) - 1 + (su : Nat) = n := by have := HSA.out; rw [HSU.out] at this; omega
            rw [E1.out, E2.out, E3.out] at UB
            rw [E1.out] at O1
            rw [E2.out] at O2
            rw [E3.out] at O3
            obtain ⟨y0, y1, y2, y3, y4, y5, y6⟩ := blk7 (blk_below B0.out D0)
            go_wp2_with fail
            refine (uses_any ⟨aI, cI, aW, cW, aR, cR⟩ Q A n cap f _ (HQ.out.later hbW) HWF.out (HT.out.later hbW) HNW.out).mono ?_
            rintro e w10 ⟨v1, v2, v3, rfl, e10, p1, p2, p3⟩
            have hL1 : (usesL bareB Q.n Q.it f n Q.n).length ≤ Q.n := uses_len
            have hL2 : (usesL prevB Q.n Q.it f n Q.n).length ≤ Q.n := uses_len
            have hL3 : (usesL aggB Q.n Q.it f n Q.n).length ≤ Q.n := uses_len
            obtain ⟨L1, h1⟩ : ∃ L, usesL bareB Q.n Q.it f n Q.n = L := ⟨_, rfl⟩
            obtain ⟨L2, h2⟩ : ∃ L, usesL prevB Q.n Q.it f n Q.n = L := ⟨_, rfl⟩
            obtain ⟨L3, h3⟩ : ∃ L, usesL aggB Q.n Q.it f n Q.n = L := ⟨_, rfl⟩
            rw [h1, h2, h3] at UB
            rw [h1] at p1 hL1 O1
            rw [h2] at p2 hL2 O2
            rw [h3] at p3 hL3 O3
            clear h1 h2 h3 y0 y1 y2 y3 y4 y5 y6 E1 E2 E3
            obtain ⟨B1, k1, rfl, _⟩ := rowown_shape p1
            obtain ⟨B2, k2, rfl, _⟩ := rowown_shape p2
            obtain ⟨B3, k3, rfl, _⟩ := rowown_shape p3
            have VB := blk_new w10 #[.slice B1 L1.length k1, .slice B2 L2.length k2, .slice B3 L3.length k3] 57
            have e11 := bnew e10 (.cells #[.slice B1 L1.length k1, .slice B2 L2.length k2, .slice B3 L3.length k3] 57)
            have f11 := bnew (Below.refl w10.heap.size w10) (.cells #[.slice B1 L1.length k1, .slice B2 L2.length k2, .slice B3 L3.length k3] 57)
            have P1 := Lib.hid ((natrow_rd p1 (by omega)).later f11)
            have P2 := Lib.hid ((natrow_rd p2 (by omega)).later f11)
            have P3 := Lib.hid ((natrow_rd p3 (by omega)).later f11)
            have I1 := Lib.hid ((natrow_rd O1.out (by omega)).later e11)
            have I2 := Lib.hid ((natrow_rd O2.out (by omega)).later e11)
            have I3 := Lib.hid ((natrow_rd O3.out (by omega)).later e11)
            obtain ⟨z0, z1, z2⟩ := blk3 (blk_below UB.out e11)
            obtain ⟨s0, s1, s2⟩ := blk3 VB
            have hsb : ((k : Int) - 1 + (su : Nat) == (n : Int)) = true := by rw [beq_iff_eq]; exact hsum
            have hfin := bcall hbW e11
            clear p1 p2 p3 VB
            go_upto_region 25 with fail
            generalize w10.alloc _ = w11 at *
            go_wp2_with (go_at_call 39; refine (sameUse_same a1 a2 a3 B1 B2 B3 _ _ _ m1 m2 m3 k1 k2 k3 _ _ _ _ I1.out I2.out I3.out P1.out P2.out P3.out).mono ?_; rintro e w12 ⟨rfl, e12⟩)
            go_ret
            exact ⟨rfl, bcall hfin e12⟩
    · go_wp2_with fail
      go_ret
      exact ⟨rfl, hb3⟩
  · go_wp2_with fail
    go_ret
    exact ⟨rfl, hb2⟩
set_option maxRecDepth 20000 in
theorem bulk_items {H : Type} {enc : TypeId × Value → H} {w : World} {base : Nat} {sp : Nat → Bool} {held : Bool} {V : QryV} {Q : Qry} {d : DataW H} {p : List MemPlace} (h : DataW.Trod enc Tryd.prog w base sp held 40 (.agg (qryArr V Q)) d p) : Q.n ≤ Rows.uptoBulk d := by
  have k1 : Tryd.prog.cellsOf 35 = 1 := by kernel_rfl
  obtain ⟨fuel, hf⟩ := h
  obtain ⟨xs, n, _, hx, _, hlen, hg⟩ := DataW.trod_struct Tryd.underlying40 hf
  match xs, hlen with
  | [y0, y1, y2, y3, y4, y5, y6], _ =>
    have g0 := hg 0 _ rfl
    simp [k1, Value.cells, qryArr] at g0
    simp only [Prod.mk.injEq] at hx
    have hd : d = .agg [y0.1, y1.1, y2.1, y3.1, y4.1, y5.1, y6.1] := by simpa using hx.1
    have hb := bulk_slice Tryd.underlying35 g0
    rw [hd]
    simp only [Rows.uptoBulk, Rows.uptoBulkAll]
    omega
set_option maxRecDepth 8000 in
theorem checkTogether_main {H : Type} {enc : TypeId × Value → H} (W : World) (base : Nat) {v0 v1 : Value} {d0 d1 : DataW H} {p0 p1 : List MemPlace} {X Z : Prop}
    (o0 : Value.okWide Tryd.prog W .any base 40 v0) (h0 : DataW.Trod enc Tryd.prog W 0 (fun _ => true) true 40 v0 d0 p0) (o1 : Value.okWide Tryd.prog W .any base 22 v1) (h1 : DataW.Trod enc Tryd.prog W 0 (fun _ => true) true 22 v1 d1 p1)
    (_ : X) (hz : ReachedAll Tryd.prog ([40, 22] ++ (Rows.OpenSpec.upto Rows.checkTogetherSpec).bare.plain.varTypes Tryd.prog) ([d0, d1] ++ []))
    (hcond : ∀ k, (Rows.OpenSpec.upto Rows.checkTogetherSpec).cond = some k → k H ([d0, d1] ++ []) = true)
    (h : laidMetH Tryd.prog Rows.checkTogetherUptoRow.laid W) (_ : Z) :
    Calls Tryd.prog 7 #[v0, v1] W fun e W' => e = .returned (.bool true) ∧ Below W.heap.size W W' := by
  have hk := hcond _ rfl
  have hv0 := kwVar (laid := Rows.checkTogetherUptoRow.laid) h 0 rfl
  obtain ⟨t0, f0, g0⟩ := var_block gKeywords hv0
  have z0 := reach_cons hz
  have z1 := reach_cons z0.2
  obtain ⟨V, Q, rfl, hQ, hwf⟩ := open_query o0 h0 z0.1
  obtain ⟨fuel1, hf1⟩ := h1
  obtain ⟨a1, len1, cap1, rfl⟩ := okWide_slice Tryd.underlying22 o1
  have hf1' : DataW.trod enc Tryd.prog W 0 (fun _ => true) true fuel1 22 [.slice a1 len1 cap1] = some (d1, p1) := by simpa [Value.cells] using hf1
  have b1 := Nat.le_trans (bulk_nodes hf1') (bulk_at hk (show d1 ∈ [d0, d1] ++ [] by simp))
  have b0 := Nat.le_trans (bulk_items h0) (bulk_at hk (show d0 ∈ [d0, d1] ++ [] by simp))
  obtain ⟨A1, n1, c1, f1, e1, l1, m1, r1, u1⟩ := rd_nodes (y := (d1, p1)) hf1' z1.1
  injection e1 with e11 e12 e13
  subst e11 e12 e13
  exact checkTogether_walk V Q a1 len1 cap1 f1 W hQ hwf b0 l1 m1 r1 u1 b1 g0
end Go.Proofs.YtagcbljfaflhoaaDoor

/-
  The walk of the law CheckApart; its arguments opened.
-/
import Derived.Test.YtagcbljfaflhoaaDoorCheckFn
import Derived.Test.YtagcbljfaflhoaaDoorTreeMake
import Derived.Test.YtagcbljfaflhoaaDoorRefTree
import Derived.Test.YtagcbljfaflhoaaDoorTreeSame6
import Derived.Test.YtagcbljfaflhoaaDoorKwVar
import Derived.Deep.CutRange
set_option linter.unusedSimpArgs false
set_option linter.unusedVariables false
namespace Go.Proofs.YtagcbljfaflhoaaDoor
open Go.RowKit Go.ChangeShapes Go.WideShapes Go.ChangeAt Go.Deep Go.Joins
/-- A list of nodes reads as whatever is the same in range. -/
theorem NodRd.as {w : World} {B n : Nat} {A : Option Addr} {f g : Nat → Nod} (h : NodRd w B A n f) (e : ∀ j, j < n → f j = g j) : NodRd w B A n g :=
  RowRd.congr h fun j hj i hi => by rw [e j hj]
set_option maxRecDepth 100000 in
set_option maxHeartbeats 4000000 in
theorem checkApart_walk (A : Option Addr) (n cap : Nat) (f : Nat → Nod) (root inner : Int) (w : World) (hl : n ≤ cap) (h : NodRd w w.heap.size A n f) {tt : TypeId} {fr : Nat × Nat} (hkw : w.heap[0]? = some (.cells kwArr tt fr)) :
    Calls Tryd.prog 8 #[.slice A n cap, .int .i64 root, .int .i64 inner] w fun e w' => e = .returned (.bool true) ∧ Below w.heap.size w w' := by
  have hn := h.small
  have hn6 : n * 64 ≤ 140737488351232 := h.1
  have HT := Lib.hid h
  have HK := Lib.hid hkw
  clear h hkw
  go_enter Tryd.func8, Tryd.ntmps8
  go_wp2_with fail
  refine (alive_any _ HK.out).mono ?_
  rintro e w0 ⟨rfl, hb0⟩
  go_wp2_with fail
  refine (beyond_any A n cap f _ (HT.out.later hb0)).mono ?_
  rintro e w1 ⟨⟨bb, rfl⟩, hb1⟩
  have hb1' := bcall hb0 hb1
  cases bb
  · obtain ⟨m, hm⟩ : ∃ m, sizeI n f root = m := ⟨_, rfl⟩
    obtain ⟨g, hg⟩ : ∃ g, subF n f root = g := ⟨_, rfl⟩
    have hmn : m ≤ n := hm ▸ size_le
    have HM := Lib.hid hm
    have HG := Lib.hid hg
    clear hm hg
    go_wp2_with fail
    refine (checkSize_any A n cap f root _ (HT.out.later hb1') (block_below HK.out hb1')).mono ?_
    rw [HM.out]
    rintro e w2 ⟨rfl, hb2⟩
    have hb2' := bcall hb1' hb2
    go_wp2_with fail
    refine (checkSub_any A n cap f root _ (HT.out.later hb2') hl (block_below HK.out hb2')).mono ?_
    rw [HM.out, HG.out]
    rintro e w3 ⟨v3, rfl, hb3, hown3⟩
    obtain ⟨A3, c3, rfl, hmc, _⟩ := rowown_shape hown3
    have HR3 := Lib.hid (show NodRd w3 w3.heap.size A3 m g from rowown_rd hown3 (by omega))
    have hb3' := bcall hb2' hb3
    clear hown3
    obtain ⟨tr, htr⟩ : ∃ tr, treeB n f = tr := ⟨_, rfl⟩
    have HTR := Lib.hid htr
    clear htr
    go_wp2_with fail
    refine (refTree_any A n cap f _ (HT.out.later hb3') (block_below HK.out hb3')).mono ?_
    rw [HTR.out]
    rintro e w4 ⟨rfl, hb4⟩
    have hb4' := bcall hb3' hb4
    by_cases hok : tr = true ∧ 0 ≤ root ∧ root < n
    · obtain ⟨rfl, hr0, hr1⟩ := hok
      obtain ⟨r, rfl⟩ : ∃ r : Nat, root = r := ⟨root.toNat, by omega⟩
      have hrn : r < n := by omega
      have HSZ := Lib.hid (size_at HTR.out hrn)
      have HRC := Lib.hid (size_rec HTR.out hrn)
      have HSH := Lib.hid (tree_shp HTR.out).2.1
      have hm1 : 1 ≤ m := by rw [← HM.out, HSZ.out]; omega
      obtain ⟨b, off, rfl, hbl, hcs⟩ := (HT.out.later hb4').spot (by omega)
      obtain ⟨q0, q1, q2, q3, q4, q5⟩ := hcs r hrn
      have hrng := HSH.out.rng hrn
      obtain ⟨x, hx⟩ : ∃ x, f r = x := ⟨_, rfl⟩
      have HX := Lib.hid hx
      rw [hx] at q0 q1 q2 q3 q4 q5 hrng
      have HRC := Lib.hid (show m = 1 + (if 0 ≤ x.a then sizeI n f x.a else 0) + (if 0 ≤ x.b then sizeI n f x.b else 0) by rw [← HM.out, HRC.out, hx])
      clear hx hcs
      obtain ⟨sa, hsa⟩ : ∃ sa, (if 0 ≤ x.a then sizeI n f x.a else 0) = sa := ⟨_, rfl⟩
      obtain ⟨sb, hsb⟩ : ∃ sb, (if 0 ≤ x.b then sizeI n f x.b else 0) = sb := ⟨_, rfl⟩
      rw [hsa, hsb] at HRC
      have hle1 : sa ≤ n := by rw [← hsa]; split; exact size_le; exact Nat.zero_le _
      have hle2 : sb ≤ n := by rw [← hsb]; split; exact size_le; exact Nat.zero_le _
      have HSA := Lib.hid hsa
      have HSBB := Lib.hid hsb
      clear hsa hsb
      go_upto_if 50 with fail
      go_cut [10] from 14 to 75 (fun v wx => v = .int .i64 (1 + (sa : Nat)) ∧ Below w4.heap.size w4 wx)
      case first =>
        by_cases ha : 0 ≤ x.a
        · have e1 : sizeI n f x.a = sa := by rw [← HSA.out, if_pos ha]
          go_wp2_with (go_at_call 13; refine (checkSize_any (some ⟨b, off, none⟩) n cap f x.a _ (HT.out.later hb4') (block_below HK.out hb4')).mono ?_; rw [e1]; rintro e w5 ⟨rfl, hb5⟩)
          go_meet
          exact ⟨rfl, hb5⟩
        · have e1 : sa = 0 := by rw [← HSA.out, if_neg ha]
          subst e1
          go_wp2_with fail
          go_meet
          exact ⟨rfl, Below.refl _ _⟩
      case rest =>
      obtain ⟨rfl, hb4c⟩ := hcut
      obtain ⟨w4c, e5⟩ : ∃ w5 : World, w5 = wc := ⟨_, rfl⟩
      subst e5
      have q5 := rd_later q5 hb4c
      have hb4d := bcall hb4' hb4c
      go_upto_if 65 with fail
      go_cut [10] from 14 to 75 (fun v wx => v = .int .i64 (m : Nat) ∧ Below w4.heap.size w4 wx)
      case first =>
        by_cases hb : 0 ≤ x.b
        · have e1 : sizeI n f x.b = sb := by rw [← HSBB.out, if_pos hb]
          go_wp2_with (go_at_call 13; refine (checkSize_any (some ⟨b, off, none⟩) n cap f x.b _ (HT.out.later hb4d) (block_below HK.out hb4d)).mono ?_; rw [e1]; rintro e w5 ⟨rfl, hb5⟩)
          go_meet
          exact ⟨by rw [HRC.out]; simp only [Value.int.injEq, true_and]; omega, bcall hb4c hb5⟩
        · have e1 : sb = 0 := by rw [← HSBB.out, if_neg hb]
          subst e1
          go_wp2_with fail
          go_meet
          exact ⟨by rw [HRC.out]; simp only [Value.int.injEq, true_and]; omega, hb4c⟩
      case rest =>
      obtain ⟨rfl, hb45⟩ := hcut
      obtain ⟨w5, e5⟩ : ∃ w5 : World, w5 = wc := ⟨_, rfl⟩
      subst e5
      have hb5' := bcall hb4' hb45
      have hb35 := bcall hb4 hb45
      obtain ⟨ST, SB⟩ := sub_tree HTR.out hrn
      have HSL := Lib.hid (sub_last HTR.out hrn)
      rw [HM.out, HG.out] at ST SB HSL
      have HST := Lib.hid ST
      have HSB := Lib.hid SB
      clear ST SB q0 q1 q2 q3 q4 q5
      go_wp2_with fail
      refine (refTree_any A3 m c3 g _ (HR3.out.later hb35) (block_below HK.out hb5')).mono ?_
      rw [HST.out]
      rintro e w6 ⟨rfl, hb6⟩
      have hb6' := bcall hb5' hb6
      have hb36 := bcall hb35 hb6
      obtain ⟨k, hk⟩ : ∃ k, m = k + 1 := ⟨m - 1, by omega⟩
      obtain ⟨b3, off3, rfl, hbl3, hcs3⟩ := (HR3.out.later hb36).spot (by omega)
      obtain ⟨p0, p1, p2, p3, p4, p5⟩ := hcs3 k (by omega)
      have hgk : g k = shiftN x (begF n f r) := by
        have := HSL.out
        rw [hk, HX.out] at this
        exact this
      rw [hgk] at p0 p1 p2
      replace p0 : w6.cell? ⟨b3, off3 + k * 6, none⟩ = some (.int .i64 x.op) := p0
      replace p1 : w6.cell? ⟨b3, off3 + k * 6 + 1, none⟩ = some (.int .i64 x.n) := p1
      replace p2 : w6.cell? ⟨b3, off3 + k * 6 + 2, none⟩ = some (.string x.vr) := p2
      obtain ⟨q0, q1, q2⟩ : w6.cell? ⟨b, off + r * 6, none⟩ = some (.int .i64 x.op) ∧ w6.cell? ⟨b, off + r * 6 + 1, none⟩ = some (.int .i64 x.n) ∧ w6.cell? ⟨b, off + r * 6 + 2, none⟩ = some (.string x.vr) := by
        obtain ⟨b', off', e', _, hcs⟩ := (HT.out.later hb6').spot (by omega)
        simp only [Option.some.injEq, Addr.mk.injEq, and_true] at e'
        obtain ⟨rfl, rfl⟩ := e'
        obtain ⟨q0, q1, q2, _⟩ := hcs r hrn
        rw [HX.out] at q0 q1 q2
        exact ⟨q0, q1, q2⟩
      clear hcs3 hgk p3 p4 p5
      subst hk
      go_wp2_with fail
      go_quiet (fail)
      have hb7' := bdrewN hb6' nq
      have hb37 := bdrewN hb36 nq
      by_cases hi0 : inner < 0
      · go_wp2_with fail
        go_ret
        exact ⟨rfl, hb7'⟩
      · by_cases hi1 : (k : Int) + 1 ≤ inner
        · go_wp2_with fail
          go_ret
          exact ⟨rfl, hb7'⟩
        · obtain ⟨i, rfl⟩ : ∃ i : Nat, inner = i := ⟨inner.toNat, by omega⟩
          have hik : i < k + 1 := by omega
          have hk2 : (k : Int) = (r : Int) - (begF n f r : Nat) := by
            have e1 := HSZ.out
            rw [HM.out] at e1
            have := HSH.out.le r hrn
            omega
          have hin : begF n f r + i < n := by omega
          obtain ⟨e1, e2⟩ := sub_sub HTR.out hrn (i := i) (by rw [HM.out]; exact hik)
          rw [HM.out, HG.out] at e1 e2
          have hs0 := size_at HTR.out hin
          obtain ⟨s, hs⟩ : ∃ s, sizeI n f ((begF n f r + i : Nat) : Int) = s := ⟨_, rfl⟩
          have hsn : s ≤ n := hs ▸ size_le
          rw [hs] at e1 e2 hs0
          have HS := Lib.hid hs
          have HE1 := Lib.hid e1
          have HE2 := Lib.hid e2
          have HS0 := Lib.hid hs0
          have HK2 := Lib.hid hk2
          clear e1 e2 hs hs0 hk2 p0 p1 p2 q0 q1 q2
          go_wp2_with fail
          refine (checkSub_any (some ⟨b3, off3, none⟩) (k + 1) c3 g i _ (HR3.out.later hb37) hmc (block_below HK.out hb7')).mono ?_
          rintro e w8 ⟨v8, rfl, hb8, hown8⟩
          rw [HE1.out] at hown8
          obtain ⟨A8, c8, rfl, _⟩ := rowown_shape hown8
          have HR8 := Lib.hid (NodRd.as (show NodRd w8 w8.heap.size A8 s (subF (k + 1) g i) from rowown_rd hown8 (by omega)) HE2.out)
          have hb8' := bcall hb7' hb8
          clear hown8
          go_wp2_with fail
          refine (checkSub_any (some ⟨b, off, none⟩) n cap f _ _ (HT.out.later hb8') hl (block_below HK.out hb8')).mono ?_
          rw [show ((r : Int) - ((k : Int) + 1) + 1 + (i : Int)) = ((begF n f r + i : Nat) : Int) by have := HK2.out; omega, HS.out]
          rintro e w9 ⟨v9, rfl, hb9, hown9⟩
          obtain ⟨A9, c9, rfl, _⟩ := rowown_shape hown9
          have HR9 := Lib.hid (show NodRd w9 w9.heap.size A9 s (subF n f ((begF n f r + i : Nat) : Int)) from rowown_rd hown9 (by omega))
          have hb9' := bcall hb8' hb9
          clear hown9
          obtain ⟨s', rfl⟩ : ∃ s', s = s' + 1 := ⟨s - 1, by have := HS0.out; omega⟩
          go_wp2_with (go_at_call 20; refine (sameTreeLaw6_same A8 A9 (s' + 1) c8 c9 _ _ (HR8.out.later hb9) HR9.out).mono ?_; rintro e wa ⟨rfl, q, rfl⟩)
          go_ret
          exact ⟨rfl, bdrewN hb9' _⟩
    · have hm0 : m = 0 := by rw [← HM.out]; exact size_off (fun h => hok ⟨by rw [← HTR.out]; exact h.1, h.2⟩)
      subst hm0
      cases tr
      · go_wp2_with fail
        go_ret
        exact ⟨rfl, hb4'⟩
      · by_cases h0 : root < 0
        · go_wp2_with fail
          go_ret
          exact ⟨rfl, hb4'⟩
        · have h1 : (n : Int) ≤ root := by
            rcases Int.lt_or_le root n with h | h
            · exact absurd ⟨rfl, by omega, h⟩ hok
            · exact h
          go_wp2_with fail
          go_ret
          exact ⟨rfl, hb4'⟩
  · go_wp2_with fail
    go_ret
    exact ⟨rfl, hb1'⟩
set_option maxRecDepth 8000 in
theorem checkApart_main {H : Type} {enc : TypeId × Value → H} (W : World) (base : Nat) {v0 v1 v2 : Value} {d0 d1 d2 : DataW H} {p0 p1 p2 : List MemPlace} {X C S : Prop}
    (o0 : Value.okWide Tryd.prog W .any base 22 v0) (h0 : DataW.Trod enc Tryd.prog W 0 (fun _ => true) true 22 v0 d0 p0) (o1 : Value.okWide Tryd.prog W .any base 3 v1) (h1 : DataW.Trod enc Tryd.prog W 0 (fun _ => true) true 3 v1 d1 p1) (o2 : Value.okWide Tryd.prog W .any base 3 v2) (h2 : DataW.Trod enc Tryd.prog W 0 (fun _ => true) true 3 v2 d2 p2)
    (_ : X) (hz : ReachedAll Tryd.prog ([22, 3, 3] ++ (OpenSpec.ofChange Rows.checkApartSpec).bare.plain.varTypes Tryd.prog) ([d0, d1, d2] ++ [])) (_ : C)
    (h : laidMetH Tryd.prog Rows.checkApartRow.laid W) (_ : S) :
    Calls Tryd.prog 8 #[v0, v1, v2] W fun e W' => e = .returned (.bool true) ∧ Below W.heap.size W W' := by
  have hv0 := kwVar (laid := Rows.checkApartRow.laid) h 0 rfl
  obtain ⟨t0, f0, g0⟩ := var_block gKeywords hv0
  obtain ⟨fuel, hf⟩ := h0
  obtain ⟨a, len, cap, rfl⟩ := okWide_slice Tryd.underlying22 o0
  obtain ⟨A, n, c, f, e, hl, hA, hR, _⟩ := rd_nodes (y := (d0, p0)) (by simpa [Value.cells] using hf) (reach_cons hz).1
  obtain ⟨root, rfl⟩ := okWide_int Tryd.underlying3 o1
  obtain ⟨inner, rfl⟩ := okWide_int Tryd.underlying3 o2
  rw [e]
  exact checkApart_walk A n c f root inner W hl hR g0
end Go.Proofs.YtagcbljfaflhoaaDoor

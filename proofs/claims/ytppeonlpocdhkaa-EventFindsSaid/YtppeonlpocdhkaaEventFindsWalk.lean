/-
  The walk of the law EventFinds.
-/
import Derived.Test.YtppeonlpocdhkaaSchemaSame
import Derived.Test.YtppeonlpocdhkaaSchemaTwin
import Derived.Test.YtppeonlpocdhkaaSchemaSet
import Derived.BigRegion
import Derived.Deep.RegionHeld3
set_option linter.unusedSimpArgs false
namespace Go.Proofs.Ytppeonlpocdhkaa
open Go.RowKit Go.ChangeShapes Go.WideShapes Go.ChangeAt
attribute [local go_sem ↓] Go.wp_at_zero Go.wp_at_succ
set_option maxRecDepth 100000 in
set_option maxHeartbeats 2000000 in
theorem eventFinds_walk (A : Option Addr) (cap : Nat) (S : Sch) (t : Int) (nm : ByteArray) (w : World) (h : TypRd w w.heap.size A S) :
    Calls Try.prog 4 #[.agg #[.slice A S.n cap], .int .i64 t, .string nm] w fun e w' => e = .returned (.bool true) ∧ Below w.heap.size w w' := by
  have hn := h.1
  have HT := Lib.hid h
  clear h
  have hb1 := bnew (Below.refl w.heap.size w) (.cells #[.slice A S.n cap] 29)
  go_enter Try.func4, Try.ntmps4
  go_wp2_with fail
  refine (twin_any A cap S _ (HT.out.later hb1)).mono ?_
  rintro e w2 ⟨A2, c2, rfl, hb2, hown2⟩
  have HO2 := Lib.hid hown2
  clear hown2
  have hb3 := bnew (bcall hb1 hb2) (.cells #[.slice A2 S.n c2] 29)
  have hs3 : w.heap.size + 1 ≤ w2.heap.size := by have := hb2.size; simpa using this
  have HR2 := Lib.hid (HO2.out.rd.later (bnew (Below.refl _ _) (.cells #[.slice A2 S.n c2] 29)))
  have x3 : (w2.alloc (.cells #[.slice A2 S.n c2] 29)).cell? ⟨w.heap.size, 0, none⟩ = some (.slice A S.n cap) := by
    refine cell_alloc (((hb2.cell (p := ⟨w.heap.size, 0, none⟩) (by simp))).trans ?_) _
    simp [go_sem]
  have x7 : (w2.alloc (.cells #[.slice A2 S.n c2] 29)).cell? ⟨w2.heap.size, 0, none⟩ = some (.slice A2 S.n c2) := by simp [go_sem]
  go_wp2_with fail
  have hz3 : (w2.alloc (.cells #[.slice A2 S.n c2] 29)).heap.size = w2.heap.size + 1 := by simp
  generalize w2.alloc (.cells #[.slice A2 S.n c2] 29) = w3 at *
  refine (typeOf_any A cap S nm _ (HT.out.later hb3)).mono ?_
  rintro e w4 ⟨rfl, hb4⟩
  have x34 := (hb4.cell (p := ⟨w.heap.size, 0, none⟩) (by simp; omega)).trans x3
  have x74 := (hb4.cell (p := ⟨w2.heap.size, 0, none⟩) (by simp; omega)).trans x7
  have hz4 := hb4.size
  go_wp2_with fail
  refine (attrOf_any A cap S t nm _ (HT.out.later (bcall hb3 hb4))).mono ?_
  rintro e w5 ⟨rfl, hb5⟩
  have x35 := (hb5.cell (p := ⟨w.heap.size, 0, none⟩) (by simp; omega)).trans x34
  have x75 := (hb5.cell (p := ⟨w2.heap.size, 0, none⟩) (by simp; omega)).trans x74
  have hz5 := hb5.size
  have hb5' := bcall hb4 hb5
  go_wp2_with fail
  refine (refTypeOf_any A2 c2 S nm _ (HR2.out.later hb5')).mono ?_
  rintro e w6 ⟨rfl, hb6⟩
  have x36 := (hb6.cell (p := ⟨w.heap.size, 0, none⟩) (by simp; omega)).trans x35
  have x76 := (hb6.cell (p := ⟨w2.heap.size, 0, none⟩) (by simp; omega)).trans x75
  have hz6 := hb6.size
  have hb6' := bcall hb5' hb6
  go_wp2_with fail
  refine (refAttrOf_any A2 c2 S t nm _ (HR2.out.later hb6')).mono ?_
  rintro e w7 ⟨rfl, hb7⟩
  have x37 := (hb7.cell (p := ⟨w.heap.size, 0, none⟩) (by simp; omega)).trans x36
  have x77 := (hb7.cell (p := ⟨w2.heap.size, 0, none⟩) (by simp; omega)).trans x76
  have hz7 := hb7.size
  have hb7' := bcall hb6' hb7
  go_wp2_with fail
  refine (sameSchema_same A A2 cap c2 S _ (HT.out.later (bcall hb3 hb7')) (HR2.out.later hb7')).mono ?_
  rintro e w8 ⟨rfl, hb8⟩
  have x38 := (hb8.cell (p := ⟨w.heap.size, 0, none⟩) (by simp; omega)).trans x37
  have hz8 := hb8.size
  have hb8' := bcall hb3 (bcall hb7' hb8)
  clear x3 x34 x35 x36 x37 x7 x74 x75 x76 x77 hb2 hb4 hb5 hb5' hb6 hb6' hb7 hb7' hb8 hb3
  go_wp2_with fail
  refine (twin_any A cap S _ (HT.out.later hb8')).mono ?_
  rintro e w9 ⟨A9, c9, rfl, hb9, hown9⟩
  have HO9 := Lib.hid (hown9.below (bnew (Below.refl _ _) (.cells #[.slice A9 S.n c9] 29)))
  clear hown9
  have hb10 := bnew (bcall hb8' hb9) (.cells #[.slice A9 S.n c9] 29)
  have hz9 := hb9.size
  have x10 : (w9.alloc (.cells #[.slice A9 S.n c9] 29)).cell? ⟨w9.heap.size, 0, none⟩ = some (.slice A9 S.n c9) := by simp [go_sem]
  have hz10 : (w9.alloc (.cells #[.slice A9 S.n c9] 29)).heap.size = w9.heap.size + 1 := by simp
  go_wp2_with fail
  generalize w9.alloc (.cells #[.slice A9 S.n c9] 29) = w10 at *
  refine (typeOf_any A9 c9 S nm _ HO9.out.rd).mono ?_
  rintro e w11 ⟨rfl, hb11⟩
  have x11 := (hb11.cell (p := ⟨w9.heap.size, 0, none⟩) (by simp; omega)).trans x10
  have HO11 := Lib.hid (HO9.out.below hb11)
  have hz11 := hb11.size
  go_wp2_with fail
  refine (attrOf_any A9 c9 S t nm _ HO11.out.rd).mono ?_
  rintro e w12 ⟨rfl, hb12⟩
  have x12 := (hb12.cell (p := ⟨w9.heap.size, 0, none⟩) (by simp; omega)).trans x11
  have HO12 := Lib.hid ((HO11.out.below hb12).mono (B' := w.heap.size) (by omega))
  have hz12 := hb12.size
  have hb12' := bcall hb10 (bcall hb11 hb12)
  have hgb : w.heap.size ≤ w9.heap.size := by omega
  clear x10 x11 HO11 HO9 hb9 hb11 hb12 hb10 HO2 HR2 hz3 hz4 hz5 hz6 hz7 hz8 hz9 hz10 hz11 hz12 hs3
  generalize w9.heap.size = g10 at *
  go_wp2_with fail
  go_loopw [11] (fun i wr => ∃ (k : Nat) (S' : Sch), k ≤ S.n ∧ i = .int .i64 k ∧ S'.n = S.n ∧ S'.ln = S.ln ∧ Hid (TypOwn wr w.heap.size (.slice A9 S'.n c9) S') ∧ Hid (Below w.heap.size w wr) ∧ wr.cell? ⟨g10, 0, none⟩ = some (.slice A9 S.n c9)) (fun i _ => S.n - (intOf i).toNat)
  case atStart => exact ⟨0, S, Nat.zero_le _, rfl, rfl, rfl, HO12, Lib.hid hb12', x12⟩
  case round =>
    obtain ⟨k, S', hk, rfl, hSn, hSl, HO, HB, hx⟩ := hrel
    obtain ⟨W1, e1⟩ : ∃ W1 : World, W1 = wr := ⟨_, rfl⟩
    subst e1
    by_cases hlt : k < S.n
    · obtain ⟨g, rfl, hg, hgl, hnm, hset⟩ := HO.out.row (by omega)
      obtain ⟨n1, hn1⟩ : ∃ n1, S.n = n1 + 1 := ⟨S.n - 1, by omega⟩
      obtain ⟨y1, y2⟩ := hnm k (by omega)
      obtain ⟨y3, _⟩ := hnm n1 (by omega)
      have HO2 := Lib.hid (HO.out.setName (by omega) k (S'.nm n1)).drew
      have HB2 := Lib.hid (bset HB.out (p := ⟨g, k * 2, none⟩) hg (.string (S'.nm n1))).drew
      have hx2 : (W1.setCell ⟨g, k * 2, none⟩ (.string (S'.nm n1))).drew.cell? ⟨g10, 0, none⟩ = _ := cell_keep (w := W1) hx y1 (by simp) (.string (S'.nm n1))
      clear hset hnm
      rw [hn1] at hx hlt hk
      go_wp2_with fail
      go_region
      go_wp2_with fail
      generalize (W1.setCell ⟨g, k * 2, none⟩ (.string (S'.nm n1))).drew = W2 at *
      go_loopw [12] (fun i wr => ∃ (m : Nat) (S' : Sch), m ≤ S.ln k ∧ i = .int .i64 m ∧ S'.n = S.n ∧ S'.ln = S.ln ∧ Hid (TypOwn wr w.heap.size (.slice (some ⟨g, 0, none⟩) S'.n c9) S') ∧ Hid (Below w.heap.size w wr) ∧ wr.cell? ⟨g10, 0, none⟩ = some (.slice (some ⟨g, 0, none⟩) (n1 + 1) c9)) (fun i _ => S.ln k - (intOf i).toNat)
      case atStart => exact ⟨0, { S' with nm := upd S'.nm k (S'.nm n1) }, Nat.zero_le _, rfl, hSn, hSl, HO2, HB2, by rw [← hn1]; exact hx2⟩
      case round =>
        clear HO2 HB2 hx2 y1 y2 y3 HO HB hx
        obtain ⟨m, S2, hm, rfl, hSn2, hSl2, HO, HB, hx⟩ := hrel
        obtain ⟨W3, e3⟩ : ∃ W3 : World, W3 = wr := ⟨_, rfl⟩
        subst e3
        obtain ⟨aa, ac, z1, hl16, hat⟩ := HO.out.attrs (j := k) (by omega)
        rw [hSl2] at z1 hl16
        by_cases hlm : m < S.ln k
        · obtain ⟨g2, rfl, hg2, hgl2, hne, hcs, _⟩ := hat (by rw [hSl2]; omega)
          obtain ⟨n2, hn2⟩ : ∃ n2, S.ln k = n2 + 1 := ⟨S.ln k - 1, by omega⟩
          obtain ⟨y1, y2⟩ := hcs m (by rw [hSl2]; exact hlm)
          obtain ⟨y3, _⟩ := hcs n2 (by rw [hSl2]; omega)
          have HO2 := Lib.hid (HO.out.setAttr (j := k) (ac := ac) (by omega) (by rw [hSl2]; exact z1) (by rw [hSl2]; omega) m (S2.atr k n2)).drew
          have HB2 := Lib.hid (bset HB.out (p := ⟨g2, m, none⟩) hg2 (.string (S2.atr k n2))).drew
          have hx2 : (W3.setCell ⟨g2, m, none⟩ (.string (S2.atr k n2))).drew.cell? ⟨g10, 0, none⟩ = _ := cell_keep (w := W3) hx y1 (by simp) (.string (S2.atr k n2))
          clear hcs hat
          rw [hn2] at z1 hlm hm
          go_wp2_with fail
          go_region
          go_wp2_with fail
          go_roundw
          case rel => exact ⟨m + 1, { S2 with atr := upd S2.atr k (upd (S2.atr k) m (S2.atr k n2)) }, by omega, by go_num, hSn2, hSl2, HO2, HB2, hx2⟩
          case measure => simp [intOf]; omega
        · clear hat
          go_wp2_with fail
          go_roundw
          case rel => exact ⟨k + 1, S2, by omega, by go_num, hSn2, hSl2, HO, HB, by rw [hn1]; exact hx⟩
          case measure => simp [intOf]; omega
    · go_wp2_with fail
      rw [← hSn] at *
      obtain ⟨L, hL⟩ : ∃ L, S.ln = L := ⟨_, rfl⟩
      refine (twin_any A9 c9 S' _ HO.out.rd).mono ?_
      rintro e w13 ⟨A13, c13, rfl, hb13, hown13⟩
      have HS := Lib.hid (HO.out.rd.later (bnew hb13 (.cells #[.slice A13 S'.n c13] 29)))
      have HS13 := Lib.hid (hown13.rd.later (bnew (Below.refl _ _) (.cells #[.slice A13 S'.n c13] 29)))
      have HB13 := Lib.hid (bnew (bcall HB.out hb13) (.cells #[.slice A13 S'.n c13] 29))
      have hlt := (addr_of_cell hx).2
      have z10 := cell_alloc ((hb13.cell (p := ⟨g10, 0, none⟩) hlt).trans hx) (.cells #[.slice A13 S'.n c13] 29)
      have z13 : (w13.alloc (.cells #[.slice A13 S'.n c13] 29)).cell? ⟨w13.heap.size, 0, none⟩ = some (.slice A13 S'.n c13) := by simp [go_sem]
      go_wp2_with fail
      generalize w13.alloc (.cells #[.slice A13 S'.n c13] 29) = w14 at *
      generalize w13.heap.size = g13 at *
      go_region_held3 (fun w' => w'.cell? ⟨g10, 0, none⟩ = some (.slice A9 S'.n c9) ∧ w'.cell? ⟨g13, 0, none⟩ = some (.slice A13 S'.n c13) ∧ Below w14.heap.size w14 w')
        (first
          | exact ⟨z10, z13, (Below.refl _ _).drew⟩
          | (go_split_ands; exact ⟨(hbz.cell (p := ⟨g10, 0, none⟩) (addr_of_cell (v := .slice A9 S'.n c9) (by assumption)).2).trans (by assumption), (hbz.cell (p := ⟨g13, 0, none⟩) (addr_of_cell (v := .slice A13 S'.n c13) (by assumption)).2).trans (by assumption), bcall (by assumption) hbz⟩))
        (first
          | (go_at_call 7; go_split_ands; refine (typeOf_any A9 c9 S' nm _ (HS.out.later (by assumption))).mono ?_; rintro e wz ⟨rfl, hbz⟩)
          | (go_at_call 9; go_split_ands; refine (refTypeOf_any A13 c13 S' nm _ (HS13.out.later (by assumption))).mono ?_; rintro e wz ⟨rfl, hbz⟩)
          | (go_at_call 8; go_split_ands; refine (attrOf_any A9 c9 S' t nm _ (HS.out.later (by assumption))).mono ?_; rintro e wz ⟨rfl, hbz⟩)
          | (go_at_call 10; go_split_ands; refine (refAttrOf_any A13 c13 S' t nm _ (HS13.out.later (by assumption))).mono ?_; rintro e wz ⟨rfl, hbz⟩))
      go_split_ands
      go_wp2_with fail
      go_ret
      exact ⟨rfl, bcall HB13.out (by assumption)⟩
end Go.Proofs.Ytppeonlpocdhkaa

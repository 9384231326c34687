/-
  The walk of the law EventPrintsSchema.
-/
import Derived.Test.YtppeonlpocdhkaaDoorSchemaSame
import Derived.Test.YtppeonlpocdhkaaDoorSchemaTwin
import Derived.Test.YtppeonlpocdhkaaDoorSchemaSet
import Derived.Test.YtppeonlpocdhkaaDoorPrintSchema
import Derived.Test.YtppeonlpocdhkaaDoorKwVar
import Derived.BigRegion
import Derived.Deep.RegionHeld3
set_option linter.unusedSimpArgs false
namespace Go.Proofs.YtppeonlpocdhkaaDoor
open Go.RowKit Go.ChangeShapes Go.WideShapes Go.ChangeAt
attribute [local go_sem ↓] Go.wp_at_zero Go.wp_at_succ
/-- The letter that goes into name k. -/
def ltr (k : Nat) : ByteArray := ⟨#[UInt8.ofNat (97 + k % 26)]⟩
theorem ltr_size (k : Nat) : (ltr k).size = 1 := rfl
theorem run_ltr (k : Nat) (w : World) : (convert 37 9 (.slice (some ⟨w.heap.size, 0, none⟩) 1 1)).run Tryd.prog (w.alloc (.cells #[.int .u8 (97 + (k : Int) % 26)] 5)) = .ok (.string (ltr k)) (w.alloc (.cells #[.int .u8 (97 + (k : Int) % 26)] 5)) := by
  have hr : ByteRow (w.alloc (.cells #[.int .u8 (97 + (k : Int) % 26)] 5)) w.heap.size [UInt8.ofNat (97 + k % 26)] := by
    intro i c hi
    have hi0 : i = 0 := by
      have := (List.getElem?_eq_some_iff.1 hi).1
      simp at this
      exact this
    subst hi0
    simp only [List.getElem?_cons_zero, Option.some.injEq] at hi
    subst hi
    have e : ((UInt8.ofNat (97 + k % 26)).toNat : Int) = 97 + (k : Int) % 26 := by
      rw [UInt8.toNat_ofNat_of_lt' (by simp [UInt8.size]; omega)]
      omega
    rw [e]
    exact ⟨by simp [go_sem], by simp [go_sem]⟩
  exact run_string_row _ 37 9 5 Tryd.underlying37 Tryd.underlying5 Tryd.underlying9 hr rfl
theorem run_ltr_drew (k : Nat) (w : World) : (convert 37 9 (.slice (some ⟨w.heap.size, 0, none⟩) 1 1)).run Tryd.prog (w.alloc (.cells #[.int .u8 (97 + (k : Int) % 26)] 5)).drew = .ok (.string (ltr k)) (w.alloc (.cells #[.int .u8 (97 + (k : Int) % 26)] 5)).drew :=
  run_ltr k w.drew
set_option maxRecDepth 100000 in
set_option maxHeartbeats 2000000 in
theorem eventPrintsSchema_walk (A : Option Addr) (cap : Nat) (S : Sch) (w : World) (h : TypRd w w.heap.size A S) (hcap : Caps w A S) {tt : TypeId} {fr : Nat × Nat} (hkw : w.heap[0]? = some (.cells kwArr tt fr)) :
    Calls Tryd.prog 5 #[.agg #[.slice A S.n cap]] w fun e w' => e = .returned (.bool true) ∧ Below w.heap.size w w' := by
  have hn := h.1
  have HT := Lib.hid h
  have HK := Lib.hid hkw
  have HC := Lib.hid hcap
  have hb1 := bnew (Below.refl w.heap.size w) (.cells #[.slice A S.n cap] 25)
  have x1 : (w.alloc (.cells #[.slice A S.n cap] 25)).cell? ⟨w.heap.size, 0, none⟩ = some (.slice A S.n cap) := by simp [go_sem]
  have hz1 : w.heap.size < (w.alloc (.cells #[.slice A S.n cap] 25)).heap.size := by simp
  clear h hkw hcap
  go_enter Tryd.func5, Tryd.ntmps5
  go_wp2_with fail
  generalize w.alloc (.cells #[.slice A S.n cap] 25) = w1 at *
  refine (twin_any A cap S _ (HT.out.later hb1)).mono ?_
  rintro e w2 ⟨A2, c2, rfl, hb2, hown2⟩
  have HR2 := Lib.hid (hown2.rd.later (bnew (Below.refl _ _) (.cells #[.slice A2 S.n c2] 25)))
  have hb3 := bnew (bcall hb1 hb2) (.cells #[.slice A2 S.n c2] 25)
  have hz2 := hb2.size
  have x3 : (w2.alloc (.cells #[.slice A2 S.n c2] 25)).cell? ⟨w.heap.size, 0, none⟩ = some (.slice A S.n cap) := cell_alloc ((hb2.cell (p := ⟨w.heap.size, 0, none⟩) hz1).trans x1) _
  have x7 : (w2.alloc (.cells #[.slice A2 S.n c2] 25)).cell? ⟨w2.heap.size, 0, none⟩ = some (.slice A2 S.n c2) := by simp [go_sem]
  have hz3 : (w2.alloc (.cells #[.slice A2 S.n c2] 25)).heap.size = w2.heap.size + 1 := by simp
  clear hown2 x1
  go_wp2_with fail
  generalize w2.alloc (.cells #[.slice A2 S.n c2] 25) = w3 at *
  refine (printSchema_any A cap S _ (HT.out.later hb3) (HC.out.later HT.out hb3) (block_below HK.out hb3)).mono ?_
  rintro e w4 ⟨rfl, hb4⟩
  have x34 := (hb4.cell (p := ⟨w.heap.size, 0, none⟩) (show w.heap.size < w3.heap.size by omega)).trans x3
  have x74 := (hb4.cell (p := ⟨w2.heap.size, 0, none⟩) (show w2.heap.size < w3.heap.size by omega)).trans x7
  have hb4' := bcall hb3 hb4
  have hz4 := hb4.size
  clear x3 x7
  go_wp2_with fail
  refine (refPrintSchema_any A2 c2 S _ (HR2.out.later hb4) (block_below HK.out hb4')).mono ?_
  rintro e w5 ⟨rfl, hb5⟩
  have x35 := (hb5.cell (p := ⟨w.heap.size, 0, none⟩) (show w.heap.size < w4.heap.size by omega)).trans x34
  have x75 := (hb5.cell (p := ⟨w2.heap.size, 0, none⟩) (show w2.heap.size < w4.heap.size by omega)).trans x74
  have hb5' := bcall hb4' hb5
  have hz5 := hb5.size
  clear x34 x74
  go_wp2_with fail
  refine (sameSchema_same A A2 cap c2 S _ (HT.out.later hb5') (HR2.out.later (bcall hb4 hb5))).mono ?_
  rintro e w6 ⟨rfl, hb6⟩
  have x36 := (hb6.cell (p := ⟨w.heap.size, 0, none⟩) (show w.heap.size < w5.heap.size by omega)).trans x35
  have hb6' := bcall hb5' hb6
  have hz6 := hb6.size
  clear x35 x75 hb2 hb3 hb4 hb4' hb5 hb5' hb6 HR2
  go_wp2_with fail
  refine (twin_any A cap S _ (HT.out.later hb6')).mono ?_
  rintro e w7 ⟨A7, c7, rfl, hb7, hown7⟩
  have HO8 := Lib.hid (hown7.below (bnew (Below.refl _ _) (.cells #[.slice A7 S.n c7] 25)))
  clear hown7
  have hb8 := bnew (bcall hb6' hb7) (.cells #[.slice A7 S.n c7] 25)
  have hz7 := hb7.size
  have x8 : (w7.alloc (.cells #[.slice A7 S.n c7] 25)).cell? ⟨w7.heap.size, 0, none⟩ = some (.slice A7 S.n c7) := by simp [go_sem]
  have hz8 : (w7.alloc (.cells #[.slice A7 S.n c7] 25)).heap.size = w7.heap.size + 1 := by simp
  clear x36
  go_wp2_with fail
  generalize w7.alloc (.cells #[.slice A7 S.n c7] 25) = w8 at *
  refine (printSchema_any A7 c7 S _ HO8.out.rd HO8.out.caps (block_below HK.out hb8)).mono ?_
  rintro e w9 ⟨rfl, hb9⟩
  have x9 := (hb9.cell (p := ⟨w7.heap.size, 0, none⟩) (show w7.heap.size < w8.heap.size by omega)).trans x8
  have HO9 := Lib.hid ((HO8.out.below hb9).mono (B' := w.heap.size) (by omega))
  have hz9 := hb9.size
  have hb9' := bcall hb8 hb9
  have hgb : w.heap.size ≤ w7.heap.size := by omega
  clear x8 HO8 hb8 hb9 hb7 hb6' hz1 hz2 hz3 hz4 hz5 hz6 hz7 hz8 hz9
  generalize w7.heap.size = g8 at *
  go_wp2_with fail
  go_loopw [9] (fun i wr => ∃ (k : Nat) (S' : Sch), k ≤ S.n ∧ i = .int .i64 k ∧ S'.n = S.n ∧ S'.ln = S.ln ∧ Hid (TypOwn wr w.heap.size (.slice A7 S'.n c7) S') ∧ Hid (Below w.heap.size w wr) ∧ wr.cell? ⟨g8, 0, none⟩ = some (.slice A7 S.n c7)) (fun i _ => S.n - (intOf i).toNat)
  case atStart => exact ⟨0, S, Nat.zero_le _, rfl, rfl, rfl, HO9, Lib.hid hb9', x9⟩
  case round =>
    obtain ⟨k, S', hk, rfl, hSn, hSl, HO, HB, hx⟩ := hrel
    obtain ⟨W1, e1⟩ : ∃ W1 : World, W1 = wr := ⟨_, rfl⟩
    subst e1
    by_cases hlt : k < S.n
    · obtain ⟨g, rfl, hg, hgl, hnm, _⟩ := HO.out.row (by omega)
      obtain ⟨y1, y2⟩ := hnm k (by omega)
      have hcv := fun w => run_ltr k w
      have hz1 := ltr_size k
      clear hnm
      have HO2 := Lib.hid ((HO.out.setName (by omega) k (⟨#[90]⟩ ++ ltr k)).below (bnew (Below.refl _ _) (.cells #[.int .u8 (97 + (k : Int) % 26)] 5)))
      have HB2 := Lib.hid (bnew (bset HB.out (p := ⟨g, k * 2, none⟩) hg (.string (⟨#[90]⟩ ++ ltr k))) (.cells #[.int .u8 (97 + (k : Int) % 26)] 5))
      have hx2a : (W1.setCell ⟨g, k * 2, none⟩ (.string (⟨#[90]⟩ ++ ltr k))).cell? ⟨g8, 0, none⟩ = _ := cell_keep (w := W1) hx y1 (by simp) (.string (⟨#[90]⟩ ++ ltr k))
      have hx2 := cell_alloc hx2a (.cells #[.int .u8 (97 + (k : Int) % 26)] 5)
      clear hx2a
      go_wp2_with fail
      clear hcv hz1
      generalize (W1.setCell ⟨g, k * 2, none⟩ (.string (⟨#[90]⟩ ++ ltr k))).alloc (.cells #[.int .u8 (97 + (k : Int) % 26)] 5) = W2 at *
      go_loopw [10] (fun i wr => ∃ (m : Nat) (S' : Sch), m ≤ S.ln k ∧ i = .int .i64 m ∧ S'.n = S.n ∧ S'.ln = S.ln ∧ Hid (TypOwn wr w.heap.size (.slice (some ⟨g, 0, none⟩) S'.n c7) S') ∧ Hid (Below w.heap.size w wr) ∧ wr.cell? ⟨g8, 0, none⟩ = some (.slice (some ⟨g, 0, none⟩) S.n c7)) (fun i _ => S.ln k - (intOf i).toNat)
      case atStart => exact ⟨0, { S' with nm := upd S'.nm k (⟨#[90]⟩ ++ ltr k) }, Nat.zero_le _, rfl, hSn, hSl, HO2, HB2, hx2⟩
      case round =>
        clear HO2 HB2 hx2 y1 y2 HO HB hx
        obtain ⟨m, S2, hm, rfl, hSn2, hSl2, HO, HB, hx⟩ := hrel
        obtain ⟨W3, e3⟩ : ∃ W3 : World, W3 = wr := ⟨_, rfl⟩
        subst e3
        obtain ⟨aa, ac, z1, hl16, hat⟩ := HO.out.attrs (j := k) (by omega)
        rw [hSl2] at z1 hl16
        by_cases hlm : m < S.ln k
        · obtain ⟨g2, rfl, hg2, hgl2, hne, hcs, _⟩ := hat (by rw [hSl2]; omega)
          obtain ⟨y1, y2⟩ := hcs m (by rw [hSl2]; exact hlm)
          have hcv := fun w => run_ltr_drew m w
          have xA := fun o => cell_alloc hx o
          have zA := fun o => cell_alloc z1 o
          have yA := fun o => cell_alloc y1 o
          have fA := fun o => frozen_alloc hgl2 y2 o
          have hz1 := ltr_size m
          have HO2 := Lib.hid ((HO.out.setAttr (j := k) (ac := ac) (by omega) (by rw [hSl2]; exact z1) (by rw [hSl2]; omega) m (⟨#[122]⟩ ++ ltr m)).below (bnew (Below.refl _ _) (.cells #[.int .u8 (97 + (m : Int) % 26)] 5))).drew
          have HB2 := Lib.hid (bnew (bset HB.out (p := ⟨g2, m, none⟩) hg2 (.string (⟨#[122]⟩ ++ ltr m))) (.cells #[.int .u8 (97 + (m : Int) % 26)] 5)).drew
          have hx2a : (W3.setCell ⟨g2, m, none⟩ (.string (⟨#[122]⟩ ++ ltr m))).cell? ⟨g8, 0, none⟩ = _ := cell_keep (w := W3) hx y1 (by simp) (.string (⟨#[122]⟩ ++ ltr m))
          have hx2 := cell_alloc hx2a (.cells #[.int .u8 (97 + (m : Int) % 26)] 5)
          have HX2 := Lib.hid hx2
          clear hcs hat hx2a hx2
          go_wp2_with fail
          go_region
          go_wp2_with fail
          go_roundw
          case rel => exact ⟨m + 1, { S2 with atr := upd S2.atr k (upd (S2.atr k) m (⟨#[122]⟩ ++ ltr m)) }, by omega, by go_num, hSn2, hSl2, HO2, HB2, HX2.out⟩
          case measure => simp [intOf]; omega
        · clear hat
          go_wp2_with fail
          go_roundw
          case rel => exact ⟨k + 1, S2, by omega, by go_num, hSn2, hSl2, HO, HB, hx⟩
          case measure => simp [intOf]; omega
    · have hK1 := Lib.hid (block_below HK.out HB.out)
      go_wp2_with fail
      rw [← hSn] at *
      obtain ⟨L, hL⟩ : ∃ L, S.ln = L := ⟨_, rfl⟩
      clear hSl
      refine (printSchema_any A7 c7 S' _ HO.out.rd HO.out.caps hK1.out).mono ?_
      rintro e w10 ⟨rfl, hb10⟩
      have x10 := (hb10.cell (p := ⟨g8, 0, none⟩) (addr_of_cell hx).2).trans hx
      have HO10 := Lib.hid (HO.out.below hb10)
      have HB10 := Lib.hid (bcall HB.out hb10)
      clear hx
      go_wp2_with fail
      refine (twin_any A7 c7 S' _ HO10.out.rd).mono ?_
      rintro e w11 ⟨A11, c11, rfl, hb11, hown11⟩
      have HB11 := Lib.hid (bcall HB10.out hb11)
      have HR11 := Lib.hid hown11.rd
      clear hown11
      go_wp2_with fail
      refine (refPrintSchema_any A11 c11 S' _ HR11.out (block_below HK.out HB11.out)).mono ?_
      rintro e w12 ⟨rfl, hb12⟩
      go_wp2_with fail
      go_ret
      exact ⟨rfl, bcall HB11.out hb12⟩
set_option maxRecDepth 8000 in
theorem eventPrintsSchema_main {H : Type} {enc : TypeId × Value → H} (W : World) (base : Nat) {v0 : Value} {d0 : DataW H} {p0 : List MemPlace} {X C S : Prop}
    (o0 : Value.okWide Tryd.prog W .any base 25 v0) (h0 : DataW.Trod enc Tryd.prog W 0 (fun _ => true) true 25 v0 d0 p0)
    (_ : X) (hz : ReachedAll Tryd.prog ([25] ++ (OpenSpec.ofChange Rows.eventPrintsSchemaSpec).bare.plain.varTypes Tryd.prog) ([d0] ++ [])) (_ : C)
    (h : laidMetH Tryd.prog Rows.eventPrintsSchemaRow.laid W) (_ : S) :
    Calls Tryd.prog 5 #[v0] W fun e W' => e = .returned (.bool true) ∧ Below W.heap.size W W' := by
  have hv0 := kwVar (laid := Rows.eventPrintsSchemaRow.laid) h 0 rfl
  obtain ⟨t0, f0, g0⟩ := var_block gKeywords hv0
  obtain ⟨A, T, cap, rfl, hT, hC⟩ := open_schema2 o0 h0 (reach_cons hz).1
  exact eventPrintsSchema_walk A cap T W hT hC g0
end Go.Proofs.YtppeonlpocdhkaaDoor

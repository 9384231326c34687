/-
  Several texts in one: EventFileWalk, EventFileMain, TabCells.
-/
import Derived.Test.YtppeonlpocdhkaaDoorBacks
import Derived.Test.YtppeonlpocdhkaaDoorPrintSchema
import Derived.Test.YtppeonlpocdhkaaDoorPrintEvent
import Derived.Test.YtppeonlpocdhkaaDoorCheckEvent
import Derived.Test.YtppeonlpocdhkaaDoorSchemaSame
import Derived.Laws.StructEq
import Derived.Deep.CutRange
import Derived.BigQuiet
import Derived.Deep.QuietTactic
import Derived.Test.YtppeonlpocdhkaaDoorKwVar
import Derived.Test.YtppeonlpocdhkaaDoorPowVar
import Derived.Test.YtppeonlpocdhkaaDoorKit
set_option linter.unusedSimpArgs false
set_option linter.unusedVariables false
/-! ### The walk of the law EventFile. -/
namespace Go.Proofs.YtppeonlpocdhkaaDoor
open Go.RowKit Go.ChangeShapes Go.WideShapes Go.ChangeAt Go.Deep
/-- What ParseSchema makes of a print. -/
theorem parsed_print {S : Sch} (hS : schErr S = 0) {w w' : World} {e : Ending} (h : PsEnd w w' (schOut S) e) : ∃ A c, e = .returned (.tuple #[.agg #[.slice A S.n c], .int .i64 0, .int .i64 0]) ∧ Below w.heap.size w w' ∧ TypOwn w' w.heap.size (.slice A S.n c) S := by
  obtain ⟨A, c, rfl, hb, ho⟩ := h
  rw [print_back hS] at ho ⊢
  have h1 := ho.congr (tsR_eq S)
  have h2 : (schOf (tsR S S.n)).n = S.n := by simp [schOf, tsR]
  rw [h2] at h1
  have h3 : (tsR S S.n).length = S.n := tsR_length S S.n
  dsimp only
  rw [h3]
  exact ⟨A, c, rfl, hb, h1⟩
/-- What ParseEvent makes of an event's line. -/
theorem parsed_event {S : Sch} {ts id : Int} {k : Nat} {a : Nat → Int} (hE : evErr S ts k a = 0) (w0 : -9223372036854775808 ≤ ts ∧ ts ≤ 9223372036854775807) (w1 : 0 ≤ id ∧ id ≤ 18446744073709551615) (wa : ∀ j, j < 8 → -9223372036854775808 ≤ a j ∧ a j ≤ 9223372036854775807)
    {e : Ending} (h : EvEnd S (evText S ts id k a (S.ln k)) e) : e = .returned (.tuple #[.agg (evCells ts id k a), .int .i64 0, .int .i64 0]) := by
  obtain ⟨f, h1, h2⟩ := event_back hE w0 w1 wa
  unfold EvEnd at h
  rw [h1] at h
  dsimp only at h
  rw [h, ev_ext h2, show ((id.toNat : Nat) : Int) = id by omega]
  rfl
theorem line_size {S : Sch} {ts id : Int} {k : Nat} {a : Nat → Int} (hE : evErr S ts k a = 0) (w0 : -9223372036854775808 ≤ ts ∧ ts ≤ 9223372036854775807) (w1 : 0 ≤ id ∧ id ≤ 18446744073709551615) (wa : ∀ j, j < 8 → -9223372036854775808 ≤ a j ∧ a j ≤ 9223372036854775807) : (evText S ts id k a (S.ln k)).size ≤ 1048576 := by
  obtain ⟨hS, k', hk', hk⟩ := evErr_zero hE
  obtain rfl : k' = k := by omega
  obtain ⟨hn, _, hl8, _⟩ := (sch_zero hS).2.2 k' hk
  have := evText_size (S := S) (ts := ts) (id := id) (k := k') (a := a) (dec_size w0.1 w0.2) (decU_size w1.1 w1.2) (nameB_size hn) (fun j hj => dec_size (wa j hj).1 (wa j hj).2) (S.ln k') hl8
  omega
set_option maxRecDepth 100000 in
set_option maxHeartbeats 4000000 in
theorem eventFile_walk (A : Option Addr) (cap : Nat) (S : Sch) (lA : Option Addr) (lc ln : Nat) (f : Nat → Evt) (w : World) (h : TypRd w w.heap.size A S) (hcap : Caps w A S) (hl : EvtRd w w.heap.size lA ln f) (hwf : ∀ j, j < ln → EvtWf (f j)) (hv : ErrV w) (hp : Pow w) {tt : TypeId} {fr : Nat × Nat} (hkw : w.heap[0]? = some (.cells kwArr tt fr)) :
    Calls Tryd.prog 12 #[.agg #[.slice A S.n cap], .slice lA ln lc] w fun e w' => e = .returned (.bool true) ∧ Below w.heap.size w w' := by
  have hn := h.1
  have hln := hl.small
  have HT := Lib.hid h
  have HK := Lib.hid hkw
  have HV := Lib.hid hv
  have HC := Lib.hid hcap
  have HL := Lib.hid hl
  have HW := Lib.hid hwf
  have HP := Lib.hid hp
  have hb1 := bnew (Below.refl w.heap.size w) (.cells #[.slice A S.n cap] 25)
  have x1 : (w.alloc (.cells #[.slice A S.n cap] 25)).cell? ⟨w.heap.size, 0, none⟩ = some (.slice A S.n cap) := by simp [go_sem]
  have hz1 : w.heap.size < (w.alloc (.cells #[.slice A S.n cap] 25)).heap.size := by simp
  clear h hkw hv hcap hl hwf hp
  go_enter Tryd.func12, Tryd.ntmps12
  go_wp2_with fail
  generalize w.alloc _ = w1 at *
  refine (started_any _ (HV.out.later hb1) (block_below HK.out hb1)).mono ?_
  rintro e w2 ⟨rfl, hb12⟩
  have hb2 := bcall hb1 hb12
  have x2 := rd_later x1 hb12
  have hz2 : w.heap.size < w2.heap.size := Nat.lt_of_lt_of_le hz1 hb12.size
  clear x1
  go_wp2_with fail
  refine (printSchema_any A cap S _ (HT.out.later hb2) (HC.out.later HT.out hb2) (block_below HK.out hb2)).mono ?_
  rintro e w3 ⟨rfl, hb23⟩
  have hb3 := bcall hb2 hb23
  have x3 := rd_later x2 hb23
  have hz3 : w.heap.size < w3.heap.size := Nat.lt_of_lt_of_le hz2 hb23.size
  clear x2
  go_wp2_with fail
  refine (checkSchema_any A cap S _ (HT.out.later hb3) (block_below HK.out hb3)).mono ?_
  rintro e w4 ⟨rfl, hb34⟩
  have hb4 := bcall hb3 hb34
  have x4 := rd_later x3 hb34
  have hz4 : w.heap.size < w4.heap.size := Nat.lt_of_lt_of_le hz3 hb34.size
  clear x3
  by_cases hS : schErr S = 0
  · rw [hS]
    go_wp2_with fail
    refine (parseSchema_any (schOut S) _ (block_below HK.out hb4)).mono ?_
    intro e w5 hend
    obtain ⟨A5, c5, rfl, hb45, ho5⟩ := parsed_print hS hend
    clear hend
    have hb5 := bcall hb4 hb45
    have hb6 := bnew hb5 (.cells #[.slice A5 S.n c5] 25)
    have HT6 := Lib.hid (ho5.rd.later (bnew (Below.refl _ _) (.cells #[.slice A5 S.n c5] 25)))
    have x6 := cell_alloc (rd_later x4 hb45) (.cells #[.slice A5 S.n c5] 25)
    have t6 : (w5.alloc (.cells #[.slice A5 S.n c5] 25)).cell? ⟨w5.heap.size, 0, none⟩ = some (.slice A5 S.n c5) := by simp [go_sem]
    clear ho5 x4
    generalize schOut S = text at *
    obtain ⟨tb, htb⟩ : ∃ tb, w5.heap.size = tb := ⟨_, rfl⟩
    go_upto_region 8 with fail
    generalize w5.alloc _ = w6 at *
    rw [htb] at t6
    go_wp2_with fail
    refine (sameSchema_same A A5 cap c5 S _ (HT.out.later hb6) HT6.out).mono ?_
    rintro e w7 ⟨rfl, hb67⟩
    have hb7 := bcall hb6 hb67
    have x7 := rd_later x6 hb67
    have t7 := rd_later t6 hb67
    have HT7 := Lib.hid (HT6.out.later hb67)
    have HS := Lib.hid hS
    clear x6 t6 hS
    go_wp2_with fail
    go_loopw [11, 12, 13, 14, 15, 16] (fun i _ _ _ _ _ wr => ∃ k : Nat, k ≤ ln ∧ i = .int .i64 k ∧ Below w7.heap.size w7 wr) (fun i _ _ _ _ _ _ => ln - (intOf i).toNat)
    case atStart => exact ⟨0, Nat.zero_le _, rfl, Below.refl _ _⟩
    case round =>
      obtain ⟨k, hk, rfl, hbr⟩ := hrel
      obtain ⟨w8, e8⟩ : ∃ w8 : World, w8 = wr := ⟨_, rfl⟩
      subst e8
      by_cases hlt : k < ln
      · have hb8 := bcall hb7 hbr
        obtain ⟨lb, lo, rfl, hlb, hcs⟩ := (HL.out.later hb8).spot (by omega)
        obtain ⟨c0, c1, c2, c3, c4, c5', c6, c7, c8, c9, c10⟩ := hcs k hlt
        obtain ⟨wf0, wf1, _, wfa⟩ := HW.out k hlt
        have WF := Lib.hid (And.intro wf0 (And.intro wf1 wfa))
        have x8 := rd_later x7 hbr
        have t8 := rd_later t7 hbr
        clear hcs wf0 wf1 wfa
        generalize f k = ev at *
        have HD8 : Hid (TypRd w8.drew w8.drew.heap.size A S) := Lib.hid (HT.out.later (hb8.drew))
        have hb8d : Below w.heap.size w w8.drew := hb8.drew
        go_upto_region 13 with fail
        go_cut [12, 13] from 53 to 100 (fun l g wx => l = .string (evOut S ev.ts ev.id ev.ty ev.a) ∧ g = .int .i64 (evErr S ev.ts ev.ty ev.a) ∧ Below w8.heap.size w8 wx)
        case first =>
          go_region_with (go_at_call 23; refine (printEvent_any A cap S ev.ts ev.id ev.ty ev.a _ HD8.out (block_below HK.out hb8d) (HP.out.later hb8d) WF.out.1 WF.out.2.1 WF.out.2.2).mono ?_; rintro e w9 ⟨rfl, hb89⟩)
          all_goals
            go_wp2_with fail
            go_meet
            exact ⟨rfl, rfl, bcall (Below.refl _ _).drew hb89⟩
        case rest =>
        obtain ⟨rfl, rfl, hb89⟩ := hcut
        obtain ⟨w9, e9⟩ : ∃ w9 : World, w9 = wc := ⟨_, rfl⟩
        subst e9
        have hb9 := bcall hb8 hb89
        have d0 := rd_later c0 hb89
        have d1 := rd_later c1 hb89
        have d2 := rd_later c2 hb89
        have d3 := rd_later c3 hb89
        have d4 := rd_later c4 hb89
        have d5 := rd_later c5' hb89
        have d6 := rd_later c6 hb89
        have d7 := rd_later c7 hb89
        have d8 := rd_later c8 hb89
        have d9 := rd_later c9 hb89
        have d10 := rd_later c10 hb89
        have x9 := rd_later x8 hb89
        have t9 := rd_later t8 hb89
        clear c0 c1 c2 c3 c4 c5' c6 c7 c8 c9 c10 x8 t8 HD8
        have HD9 : Hid (TypRd w9.drew w9.drew.heap.size A S) := Lib.hid (HT.out.later (hb9.drew))
        have hb9d : Below w.heap.size w w9.drew := hb9.drew
        go_upto_region 14 with fail
        go_cut [75] from 53 to 100 (fun b wx => b = .bool false ∧ Below w9.heap.size w9 wx)
        case first =>
          go_region_with (go_at_call 16; refine (checkEvent_any A cap S ev.ts ev.id ev.ty ev.a _ HD9.out (block_below HK.out hb9d)).mono ?_; rintro e w10 ⟨rfl, hb910⟩)
          all_goals
            go_wp2_with fail
            go_meet
            exact ⟨by simp, bcall (Below.refl _ _).drew hb910⟩
        case rest =>
        obtain ⟨rfl, hb910⟩ := hcut
        obtain ⟨w10, e10⟩ : ∃ w10 : World, w10 = wc := ⟨_, rfl⟩
        subst e10
        have hb10 := bcall hb9 hb910
        have hbr10 := bcall hbr (bcall hb89 hb910)
        have g0 := rd_later d0 hb910
        have g1 := rd_later d1 hb910
        have g2 := rd_later d2 hb910
        have g3 := rd_later d3 hb910
        have g4 := rd_later d4 hb910
        have g5 := rd_later d5 hb910
        have g6 := rd_later d6 hb910
        have g7 := rd_later d7 hb910
        have g8 := rd_later d8 hb910
        have g9 := rd_later d9 hb910
        have g10 := rd_later d10 hb910
        have t10 := rd_later t9 hb910
        clear d0 d1 d2 d3 d4 d5 d6 d7 d8 d9 d10 x9 t9 HD9
        by_cases hE : evErr S ev.ts ev.ty ev.a = 0
        · obtain ⟨_, ty, hty, hty2⟩ := evErr_zero hE
          rw [hty] at hE g2
          have HO := Lib.hid (evOut_ok (id := ev.id) hE)
          have HSZ := Lib.hid (line_size hE WF.out.1 WF.out.2.1 WF.out.2.2)
          have HE := Lib.hid hE
          rw [hty, HO.out, hE]
          clear hE
          go_wp2_with fail
          refine (parseEvent_any (evText S ev.ts ev.id ty ev.a (S.ln ty)) HSZ.out A5 c5 S _ (HT7.out.later hbr10) (HV.out.later hb10) (block_below HK.out hb10)).mono ?_
          rintro e w11 ⟨hend, hb1011⟩
          have he := parsed_event HE.out WF.out.1 WF.out.2.1 WF.out.2.2 hend
          unfold evCells at he
          subst he
          clear hend HO HSZ
          generalize evText S ev.ts ev.id ty ev.a (S.ln ty) = line at *
          have k0 := rd_later g0 hb1011
          have k1 := rd_later g1 hb1011
          have k2 := rd_later g2 hb1011
          have k3 := rd_later g3 hb1011
          have k4 := rd_later g4 hb1011
          have k5 := rd_later g5 hb1011
          have k6 := rd_later g6 hb1011
          have k7 := rd_later g7 hb1011
          have k8 := rd_later g8 hb1011
          have k9 := rd_later g9 hb1011
          have k10 := rd_later g10 hb1011
          have hb12' := bnew (bcall hbr10 hb1011) (.cells #[.int .i64 ev.ts, .int .u64 ev.id, .int .i64 (ty : Nat), .int .i64 (ev.a 0), .int .i64 (ev.a 1), .int .i64 (ev.a 2), .int .i64 (ev.a 3), .int .i64 (ev.a 4), .int .i64 (ev.a 5), .int .i64 (ev.a 6), .int .i64 (ev.a 7)] 29)
          have m0 := cell_alloc k0 (.cells #[.int .i64 ev.ts, .int .u64 ev.id, .int .i64 (ty : Nat), .int .i64 (ev.a 0), .int .i64 (ev.a 1), .int .i64 (ev.a 2), .int .i64 (ev.a 3), .int .i64 (ev.a 4), .int .i64 (ev.a 5), .int .i64 (ev.a 6), .int .i64 (ev.a 7)] 29)
          have m1 := cell_alloc k1 (.cells #[.int .i64 ev.ts, .int .u64 ev.id, .int .i64 (ty : Nat), .int .i64 (ev.a 0), .int .i64 (ev.a 1), .int .i64 (ev.a 2), .int .i64 (ev.a 3), .int .i64 (ev.a 4), .int .i64 (ev.a 5), .int .i64 (ev.a 6), .int .i64 (ev.a 7)] 29)
          have m2 := cell_alloc k2 (.cells #[.int .i64 ev.ts, .int .u64 ev.id, .int .i64 (ty : Nat), .int .i64 (ev.a 0), .int .i64 (ev.a 1), .int .i64 (ev.a 2), .int .i64 (ev.a 3), .int .i64 (ev.a 4), .int .i64 (ev.a 5), .int .i64 (ev.a 6), .int .i64 (ev.a 7)] 29)
          have m3 := cell_alloc k3 (.cells #[.int .i64 ev.ts, .int .u64 ev.id, .int .i64 (ty : Nat), .int .i64 (ev.a 0), .int .i64 (ev.a 1), .int .i64 (ev.a 2), .int .i64 (ev.a 3), .int .i64 (ev.a 4), .int .i64 (ev.a 5), .int .i64 (ev.a 6), .int .i64 (ev.a 7)] 29)
          have m4 := cell_alloc k4 (.cells #[.int .i64 ev.ts, .int .u64 ev.id, .int .i64 (ty : Nat), .int .i64 (ev.a 0), .int .i64 (ev.a 1), .int .i64 (ev.a 2), .int .i64 (ev.a 3), .int .i64 (ev.a 4), .int .i64 (ev.a 5), .int .i64 (ev.a 6), .int .i64 (ev.a 7)] 29)
          have m5 := cell_alloc k5 (.cells #[.int .i64 ev.ts, .int .u64 ev.id, .int .i64 (ty : Nat), .int .i64 (ev.a 0), .int .i64 (ev.a 1), .int .i64 (ev.a 2), .int .i64 (ev.a 3), .int .i64 (ev.a 4), .int .i64 (ev.a 5), .int .i64 (ev.a 6), .int .i64 (ev.a 7)] 29)
          have m6 := cell_alloc k6 (.cells #[.int .i64 ev.ts, .int .u64 ev.id, .int .i64 (ty : Nat), .int .i64 (ev.a 0), .int .i64 (ev.a 1), .int .i64 (ev.a 2), .int .i64 (ev.a 3), .int .i64 (ev.a 4), .int .i64 (ev.a 5), .int .i64 (ev.a 6), .int .i64 (ev.a 7)] 29)
          have m7 := cell_alloc k7 (.cells #[.int .i64 ev.ts, .int .u64 ev.id, .int .i64 (ty : Nat), .int .i64 (ev.a 0), .int .i64 (ev.a 1), .int .i64 (ev.a 2), .int .i64 (ev.a 3), .int .i64 (ev.a 4), .int .i64 (ev.a 5), .int .i64 (ev.a 6), .int .i64 (ev.a 7)] 29)
          have m8 := cell_alloc k8 (.cells #[.int .i64 ev.ts, .int .u64 ev.id, .int .i64 (ty : Nat), .int .i64 (ev.a 0), .int .i64 (ev.a 1), .int .i64 (ev.a 2), .int .i64 (ev.a 3), .int .i64 (ev.a 4), .int .i64 (ev.a 5), .int .i64 (ev.a 6), .int .i64 (ev.a 7)] 29)
          have m9 := cell_alloc k9 (.cells #[.int .i64 ev.ts, .int .u64 ev.id, .int .i64 (ty : Nat), .int .i64 (ev.a 0), .int .i64 (ev.a 1), .int .i64 (ev.a 2), .int .i64 (ev.a 3), .int .i64 (ev.a 4), .int .i64 (ev.a 5), .int .i64 (ev.a 6), .int .i64 (ev.a 7)] 29)
          have m10 := cell_alloc k10 (.cells #[.int .i64 ev.ts, .int .u64 ev.id, .int .i64 (ty : Nat), .int .i64 (ev.a 0), .int .i64 (ev.a 1), .int .i64 (ev.a 2), .int .i64 (ev.a 3), .int .i64 (ev.a 4), .int .i64 (ev.a 5), .int .i64 (ev.a 6), .int .i64 (ev.a 7)] 29)
          have E12 := blk_new w11 #[.int .i64 ev.ts, .int .u64 ev.id, .int .i64 (ty : Nat), .int .i64 (ev.a 0), .int .i64 (ev.a 1), .int .i64 (ev.a 2), .int .i64 (ev.a 3), .int .i64 (ev.a 4), .int .i64 (ev.a 5), .int .i64 (ev.a 6), .int .i64 (ev.a 7)] 29
          have y0 := blk_cell (j := 0) (v := .int .i64 ev.ts) E12 rfl
          have y1 := blk_cell (j := 1) (v := .int .u64 ev.id) E12 rfl
          have y2 := blk_cell (j := 2) (v := .int .i64 (ty : Nat)) E12 rfl
          have y3 := blk_cell (j := 3) (v := .int .i64 (ev.a 0)) E12 rfl
          have y4 := blk_cell (j := 4) (v := .int .i64 (ev.a 1)) E12 rfl
          have y5 := blk_cell (j := 5) (v := .int .i64 (ev.a 2)) E12 rfl
          have y6 := blk_cell (j := 6) (v := .int .i64 (ev.a 3)) E12 rfl
          have y7 := blk_cell (j := 7) (v := .int .i64 (ev.a 4)) E12 rfl
          have y8 := blk_cell (j := 8) (v := .int .i64 (ev.a 5)) E12 rfl
          have y9 := blk_cell (j := 9) (v := .int .i64 (ev.a 6)) E12 rfl
          have y10 := blk_cell (j := 10) (v := .int .i64 (ev.a 7)) E12 rfl
          have hq := fun w => arr8_same ev.a w
          clear g0 g1 g2 g3 g4 g5 g6 g7 g8 g9 g10 k0 k1 k2 k3 k4 k5 k6 k7 k8 k9 k10 E12
          go_upto_region 20 with fail
          generalize w11.alloc _ = w12 at *
          go_quiet (fail)
          have hbr13 := bdrewN hb12' nq
          clear m0 m1 m2 m3 m4 m5 m6 m7 m8 m9 m10 y0 y1 y2 y3 y4 y5 y6 y7 y8 y9 y10 hq
          go_wp2_with fail
          go_roundw
          case rel => exact ⟨k + 1, hlt, by go_num, hbr13⟩
          case measure => simp [intOf]; omega
        · have hcc : (evErr S ev.ts ev.ty ev.a != 0) = true := by rw [bne_iff_ne]; exact hE
          rw [evOut_bad hE]
          generalize evErr S ev.ts ev.ty ev.a = ec at *
          go_wp2_with fail
          go_roundw
          case rel => exact ⟨k + 1, hlt, by go_num, hbr10⟩
          case measure => simp [intOf]; omega
      · go_wp2_with fail
        go_ret
        exact ⟨rfl, bcall hb7 hbr⟩
  · have hcc : (schErr S != 0) = true := by rw [bne_iff_ne]; exact hS
    rw [schOut_bad hS]
    generalize schErr S = sc at *
    go_wp2_with fail
    go_ret
    exact ⟨ret_bool (by simp), hb4⟩
end Go.Proofs.YtppeonlpocdhkaaDoor

/-! ### The law EventFile, its arguments opened. -/
namespace Go.Proofs.YtppeonlpocdhkaaDoor
open Go.RowKit Go.ChangeShapes Go.WideShapes Go.ChangeAt
set_option maxRecDepth 8000 in
set_option maxHeartbeats 2000000 in
theorem eventFile_main {H : Type} {enc : TypeId × Value → H} (W : World) (base : Nat) {v0 v1 : Value} {d0 d1 : DataW H} {p0 p1 : List MemPlace} {X C S : Prop}
    (o0 : Value.okWide Tryd.prog W .any base 25 v0) (h0 : DataW.Trod enc Tryd.prog W 0 (fun _ => true) true 25 v0 d0 p0)
    (o1 : Value.okWide Tryd.prog W .any base 56 v1) (h1 : DataW.Trod enc Tryd.prog W 0 (fun _ => true) true 56 v1 d1 p1)
    (_ : X) (hz : ReachedAll Tryd.prog ([25, 56] ++ (OpenSpec.ofChange Rows.eventFileSpec).bare.plain.varTypes Tryd.prog) ([d0, d1] ++ [])) (_ : C)
    (h : laidMetH Tryd.prog Rows.eventFileRow.laid W) (_ : S) :
    Calls Tryd.prog 12 #[v0, v1] W fun e W' => e = .returned (.bool true) ∧ Below W.heap.size W W' := by
  have hv0 := kwVar (laid := Rows.eventFileRow.laid) h 5 rfl
  have hv1 := errVar (laid := Rows.eventFileRow.laid) h 3 rfl
  have hv2 := powVar (laid := Rows.eventFileRow.laid) h 2 rfl
  obtain ⟨t0, f0, g0⟩ := var_block gKeywords hv0
  obtain ⟨A, T, cap, rfl, hT, hC⟩ := open_schema2 o0 h0 (reach_cons hz).1
  obtain ⟨a, len, c1, rfl⟩ := okWide_slice Tryd.underlying56 o1
  obtain ⟨fuel, hf⟩ := h1
  obtain ⟨lA, n, lc, f, e, _, _, hR, hW⟩ := rd_events (y := (d1, p1)) (by simpa [Value.cells] using hf) (reach_cons (reach_cons hz).2).1
  injection e with e1 e2 e3
  subst e1 e2 e3
  exact eventFile_walk A cap T _ _ _ f W hT hC hR hW hv1 hv2 g0
end Go.Proofs.YtppeonlpocdhkaaDoor

/-! ### What a listed table's cells are: for the witness' world. -/
namespace Go.Proofs.YtppeonlpocdhkaaDoor
def tabCells (d : DataW Unit) : Array Value :=
  match d with
  | .agg l => (l.map fun x => match x with | .lit (.int k z) => Value.int k z | .lit (.string s) => Value.string ⟨s.toArray⟩ | _ => undef).toArray
  | _ => #[]
end Go.Proofs.YtppeonlpocdhkaaDoor

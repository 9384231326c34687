/-
  A pattern's items: plain, and the walks of check.item, check.items.
-/
import Derived.Test.YtagcbljfaflhoaaDoorHas
import Derived.Test.YtagcbljfaflhoaaDoorSchemaErr
import Derived.Test.YtagcbljfaflhoaaDoorByName
import Derived.Test.YtagcbljfaflhoaaDoorRowSet
set_option linter.unusedSimpArgs false
set_option linter.unusedVariables false
namespace Go.Proofs.YtagcbljfaflhoaaDoor
open Go.RowKit Go.ChangeShapes Go.WideShapes Go.ChangeAt Go.Deep Go.Joins
/-- A flaw. -/
structure Flw where
  code : Int
  part : Int
  index : Int
  sub : Int
def flwArr (x : Flw) : Array Value := #[.int .i64 x.code, .int .i64 x.part, .int .i64 x.index, .int .i64 x.sub]
def knownB (S : Sch) (x : Itm) : Bool := allB (fun j => decide (0 ≤ typeI S (x.ty j))) x.tn
def onceB (x : Itm) : Bool := allB (fun j => !twiceB x.ty j) x.tn
/-- What is wrong with an item by itself. -/
def itemE (S : Sch) (x : Itm) : Int := if knownB S x = false then 61 else if onceB x = false then 62 else if 1 ≤ x.lo ∧ x.lo ≤ x.hi ∧ x.hi ≤ 4 then 0 else 63
def badI (S : Sch) (it : Nat → Itm) (i : Nat) : Int := if itemE S (it i) ≠ 0 then itemE S (it i) else if itemI i it (it i).vr = -1 then 0 else 64
/-- What is wrong with the pattern. -/
def itemsF (S : Sch) (Q : Qry) : Flw := if 10 < Q.n then ⟨60, 1, 10, 0⟩ else
  if firstI (fun i => badI S Q.it i != 0) Q.n = -1 then (if allB (fun i => (Q.it i).neg) Q.n = true then ⟨65, 1, 0, 0⟩ else ⟨0, 0, 0, 0⟩)
  else ⟨badI S Q.it (firstI (fun i => badI S Q.it i != 0) Q.n).toNat, 1, firstI (fun i => badI S Q.it i != 0) Q.n, 0⟩
theorem itemsF_many {S : Sch} {Q : Qry} (h : 10 < Q.n) : itemsF S Q = ⟨60, 1, 10, 0⟩ := by rw [itemsF, if_pos h]
theorem itemsF_hit {S : Sch} {Q : Qry} {k : Nat} (h : ¬ 10 < Q.n) (hk : k < Q.n) (hb : badI S Q.it k ≠ 0) (hn : ∀ j, j < k → (badI S Q.it j != 0) = false) : itemsF S Q = ⟨badI S Q.it k, 1, k, 0⟩ := by
  have e := firstI_hit (p := fun i => badI S Q.it i != 0) hk (by rw [bne_iff_ne]; exact hb) hn
  rw [itemsF, if_neg h, e, if_neg (by omega)]
  rfl
theorem itemsF_end {S : Sch} {Q : Qry} (h : ¬ 10 < Q.n) (hn : ∀ j, j < Q.n → (badI S Q.it j != 0) = false) : itemsF S Q = if allB (fun i => (Q.it i).neg) Q.n = true then ⟨65, 1, 0, 0⟩ else ⟨0, 0, 0, 0⟩ := by
  rw [itemsF, if_neg h, firstI_none hn, if_pos rfl]
set_option maxRecDepth 100000 in
set_option maxHeartbeats 2000000 in
theorem item_any (A : Option Addr) (cap : Nat) (S : Sch) (x : Itm) (a : Option Addr) (c : Nat) (w : World) (hS : TypRd w w.heap.size A S) (h : TxtRd w w.heap.size a x.tn x.ty) (hc : x.tn ≤ c) :
    Calls Tryd.prog 85 #[.agg #[.slice A S.n cap], .agg (itmArr x (.slice a x.tn c))] w fun e w' => e = .returned (.int .i64 (itemE S x)) ∧ Below w.heap.size w w' := by
  obtain ⟨ng, tn, ty, vr, lo, hi⟩ := x
  show Calls _ _ #[.agg #[.slice A S.n cap], .agg #[.bool ng, .slice a tn c, .string vr, .int .i64 lo, .int .i64 hi]] w _
  have hn : tn * 16 ≤ 140737488351232 := h.1
  have hc : tn ≤ c := hc
  have hb0 := bnew (bnew (Below.refl w.heap.size w) (.cells #[.slice A S.n cap] 34)) (.cells #[.bool ng, .slice a tn c, .string vr, .int .i64 lo, .int .i64 hi] 80)
  have s0 := blk_alloc (blk_new w #[.slice A S.n cap] 34) (.cells #[.bool ng, .slice a tn c, .string vr, .int .i64 lo, .int .i64 hi] 80)
  have i0 := blk_new (w.alloc (.cells #[.slice A S.n cap] 34)) #[.bool ng, .slice a tn c, .string vr, .int .i64 lo, .int .i64 hi] 80
  rw [World.size_alloc] at i0
  have S0 := Lib.hid s0
  have I0 := Lib.hid i0
  have HT := Lib.hid h
  have HS := Lib.hid hS
  clear h hS s0 i0
  go_enter Tryd.func85, Tryd.ntmps85
  go_upto_region 1 with fail
  generalize (w.alloc _).alloc _ = w0 at *
  have t1 := blk_cell I0.out (j := 1) rfl
  go_wp2_with fail
  clear t1
  go_loopw [14] (fun i wr => ∃ k : Nat, k ≤ tn ∧ i = .int .i64 k ∧ Hid (∀ j, j < k → decide (0 ≤ typeI S (ty j)) = true) ∧ Below w0.heap.size w0 wr) (fun i _ => tn - (intOf i).toNat)
  case atStart => exact ⟨0, Nat.zero_le _, rfl, Lib.hid (yes_zero (p := fun j => decide (0 ≤ typeI S (ty j)))), Below.refl _ _⟩
  case round =>
    obtain ⟨k, hk, rfl, HN, hb⟩ := hrel
    obtain ⟨W1, e1⟩ : ∃ W1 : World, W1 = wr := ⟨_, rfl⟩
    subst e1
    have hbk := bcall hb0 hb
    by_cases hlt : k < tn
    · obtain ⟨b, off, rfl, hbl, hcs⟩ := RowRd.spot1 (HT.out.below hbk) (by omega)
      have d1 := hcs k hlt
      have S1 := Lib.hid (blk_below S0.out hb)
      have HS1 := Lib.hid (HS.out.later hbk)
      have x1 := blk_cell S1.out (j := 0) rfl
      obtain ⟨tI, htI⟩ : ∃ tI, typeI S (ty k) = tI := ⟨_, rfl⟩
      have HTI := Lib.hid htI
      clear hcs htI
      go_wp2_with fail
      refine (typeOf_any A cap S (ty k) _ HS1.out).mono ?_
      rw [HTI.out]
      rintro e w5 ⟨rfl, hb5⟩
      by_cases hneg : tI < 0
      · have HE := Lib.hid (show itemE S ⟨ng, tn, ty, vr, lo, hi⟩ = 61 by rw [itemE, if_pos (show knownB S ⟨ng, tn, ty, vr, lo, hi⟩ = false from all_no (p := fun j => decide (0 ≤ typeI S (ty j))) hlt (by show decide _ = false; rw [HTI.out]; exact decide_eq_false (by omega)))])
        go_wp2_with fail
        go_ret
        exact ⟨by rw [HE.out]; rfl, bcall hbk hb5⟩
      · have HY := Lib.hid (yes_step (p := fun j => decide (0 ≤ typeI S (ty j))) HN.out (by show decide _ = true; rw [HTI.out]; exact decide_eq_true (by omega)))
        go_wp2_with fail
        go_roundw
        case rel => exact ⟨k + 1, by omega, by go_num, HY, bcall hb hb5⟩
        case measure => simp [intOf]; omega
    · obtain rfl : k = tn := by omega
      have HKN := Lib.hid (show knownB S ⟨ng, k, ty, vr, lo, hi⟩ = true from all_yes HN.out)
      have I1 := Lib.hid (blk_below I0.out hb)
      have t1 := blk_cell I1.out (j := 1) rfl
      have t3 := blk_cell I1.out (j := 3) rfl
      have t4 := blk_cell I1.out (j := 4) rfl
      have HT1 := Lib.hid (HT.out.below hbk)
      clear HN
      go_wp2_with fail
      go_loop [26] (fun i => ∃ m : Nat, m ≤ k ∧ i = .int .i64 m ∧ Hid (∀ j, j < m → (!twiceB ty j) = true)) (fun i => k - (intOf i).toNat)
      case atStart => exact ⟨0, Nat.zero_le _, rfl, Lib.hid (yes_zero (p := fun j => !twiceB ty j))⟩
      case round =>
        obtain ⟨m, hm, rfl, HN⟩ := hrel
        by_cases hlt2 : m < k
        · obtain ⟨b, off, rfl, hbl, hcs⟩ := RowRd.spot1 HT1.out (by omega)
          have d1 := hcs m hlt2
          have HCS := Lib.hid hcs
          clear hcs
          go_wp2_with fail
          go_loop [36] (fun i => ∃ p : Nat, p ≤ m ∧ i = .int .i64 p ∧ Hid (∀ j, j < p → ((ty j).toList == (ty m).toList) = false)) (fun i => m - (intOf i).toNat)
          case atStart => exact ⟨0, Nat.zero_le _, rfl, Lib.hid none_zero⟩
          case round =>
            obtain ⟨p, hp, rfl, HP⟩ := hrel
            by_cases hlt3 : p < m
            · have d2 := HCS.out p (by omega)
              cases he : ((ty p).toList == (ty m).toList)
              · have HY := Lib.hid (none_step (p := fun j => (ty j).toList == (ty m).toList) HP.out he)
                go_wp2_with fail
                go_round
                case rel => exact ⟨p + 1, by omega, by go_num, HY⟩
                case measure => simp [intOf]; omega
              · have HE := Lib.hid (show itemE S ⟨ng, k, ty, vr, lo, hi⟩ = 62 by rw [itemE, HKN.out, if_neg (by decide), if_pos (show onceB ⟨ng, k, ty, vr, lo, hi⟩ = false from all_no (p := fun j => !twiceB ty j) hlt2 (by show (!twiceB ty m) = false; rw [show twiceB ty m = true from inB_hit hlt3 he]; rfl))])
                go_wp2_with fail
                go_ret
                exact ⟨by rw [HE.out]; rfl, hbk⟩
            · obtain rfl : p = m := by omega
              have HY := Lib.hid (yes_step (p := fun j => !twiceB ty j) HN.out (by show (!twiceB ty p) = true; rw [show twiceB ty p = false from inB_none HP.out]; rfl))
              go_wp2_with fail
              go_round
              case rel => exact ⟨p + 1, by omega, by go_num, HY⟩
              case measure => simp [intOf]; omega
        · obtain rfl : m = k := by omega
          have HON := Lib.hid (show onceB ⟨ng, m, ty, vr, lo, hi⟩ = true from all_yes HN.out)
          by_cases h1 : lo < 1
          · have HE := Lib.hid (show itemE S ⟨ng, m, ty, vr, lo, hi⟩ = 63 by rw [itemE, HKN.out, HON.out, if_neg (by decide), if_neg (by decide), if_neg (by show ¬ (1 ≤ lo ∧ lo ≤ hi ∧ hi ≤ 4); omega)])
            go_wp2_with fail
            go_ret
            exact ⟨by rw [HE.out]; rfl, hbk⟩
          · by_cases h2 : hi < lo
            · have HE := Lib.hid (show itemE S ⟨ng, m, ty, vr, lo, hi⟩ = 63 by rw [itemE, HKN.out, HON.out, if_neg (by decide), if_neg (by decide), if_neg (by show ¬ (1 ≤ lo ∧ lo ≤ hi ∧ hi ≤ 4); omega)])
              go_wp2_with fail
              go_ret
              exact ⟨by rw [HE.out]; rfl, hbk⟩
            · by_cases h3 : 4 < hi
              · have HE := Lib.hid (show itemE S ⟨ng, m, ty, vr, lo, hi⟩ = 63 by rw [itemE, HKN.out, HON.out, if_neg (by decide), if_neg (by decide), if_neg (by show ¬ (1 ≤ lo ∧ lo ≤ hi ∧ hi ≤ 4); omega)])
                go_wp2_with fail
                go_ret
                exact ⟨by rw [HE.out]; rfl, hbk⟩
              · have HE := Lib.hid (show itemE S ⟨ng, m, ty, vr, lo, hi⟩ = 0 by rw [itemE, HKN.out, HON.out, if_neg (by decide), if_neg (by decide), if_pos (show (1 ≤ lo ∧ lo ≤ hi ∧ hi ≤ 4) by omega)])
                go_wp2_with fail
                go_ret
                exact ⟨by rw [HE.out]; rfl, hbk⟩
set_option maxRecDepth 100000 in
set_option maxHeartbeats 4000000 in
theorem items_any (A : Option Addr) (cap : Nat) (S : Sch) (V : QryV) (Q : Qry) (w : World) (hS : TypRd w w.heap.size A S) (h : QryRd w w.heap.size V Q) (hwf : QryWf Q) :
    Calls Tryd.prog 55 #[.agg #[.slice A S.n cap], .agg (qryArr V Q)] w fun e w' => e = .returned (.agg (flwArr (itemsF S Q))) ∧ Below w.heap.size w w' := by
  obtain ⟨aI, cI, aW, cW, aR, cR⟩ := V
  show Calls _ _ #[.agg #[.slice A S.n cap], .agg #[.slice aI Q.n cI, .int .i64 Q.mode, .int .i64 Q.after, .slice aW Q.wn cW, .int .i64 Q.within, .string Q.by_, .slice aR Q.m cR]] w _
  have hnI := h.rI.small
  have hb0 := bnew (bnew (bnew (Below.refl w.heap.size w) (.cells #[.slice A S.n cap] 34)) (.cells #[.slice aI Q.n cI, .int .i64 Q.mode, .int .i64 Q.after, .slice aW Q.wn cW, .int .i64 Q.within, .string Q.by_, .slice aR Q.m cR] 40)) (.cells #[.int .i64 0, .int .i64 0, .int .i64 0, .int .i64 0] 47)
  have s0 := blk_alloc (blk_alloc (blk_new w #[.slice A S.n cap] 34) (.cells #[.slice aI Q.n cI, .int .i64 Q.mode, .int .i64 Q.after, .slice aW Q.wn cW, .int .i64 Q.within, .string Q.by_, .slice aR Q.m cR] 40)) (.cells #[.int .i64 0, .int .i64 0, .int .i64 0, .int .i64 0] 47)
  have q0 := blk_alloc (blk_new (w.alloc (.cells #[.slice A S.n cap] 34)) #[.slice aI Q.n cI, .int .i64 Q.mode, .int .i64 Q.after, .slice aW Q.wn cW, .int .i64 Q.within, .string Q.by_, .slice aR Q.m cR] 40) (.cells #[.int .i64 0, .int .i64 0, .int .i64 0, .int .i64 0] 47)
  have r0 := blk_new ((w.alloc (.cells #[.slice A S.n cap] 34)).alloc (.cells #[.slice aI Q.n cI, .int .i64 Q.mode, .int .i64 Q.after, .slice aW Q.wn cW, .int .i64 Q.within, .string Q.by_, .slice aR Q.m cR] 40)) #[.int .i64 0, .int .i64 0, .int .i64 0, .int .i64 0] 47
  have hz0 : w.heap.size + 2 < (((w.alloc (.cells #[.slice A S.n cap] 34)).alloc (.cells #[.slice aI Q.n cI, .int .i64 Q.mode, .int .i64 Q.after, .slice aW Q.wn cW, .int .i64 Q.within, .string Q.by_, .slice aR Q.m cR] 40)).alloc (.cells #[.int .i64 0, .int .i64 0, .int .i64 0, .int .i64 0] 47)).heap.size := by simp
  rw [World.size_alloc] at q0
  rw [World.size_alloc, World.size_alloc] at r0
  have S0 := Lib.hid s0
  have B0 := Lib.hid q0
  have R0 := Lib.hid r0
  have HQ := Lib.hid h
  have HS := Lib.hid hS
  have HWF := Lib.hid hwf.it
  clear h hS s0 q0 r0 hwf
  go_enter Tryd.func55, Tryd.ntmps55
  go_upto_region 1 with fail
  generalize ((w.alloc _).alloc _).alloc _ = w0 at *
  have x0 := blk_cell B0.out (j := 0) rfl
  by_cases h10 : 10 < Q.n
  · have HE := Lib.hid (itemsF_many (S := S) h10)
    go_wp2_with (refine wpList_store_row rfl 47 _ _ rfl (w.heap.size + 2) #[.int .i64 60, .int .i64 1, .int .i64 10, .int .i64 0] rfl rfl 47 _ (R0.out) (by kernel_rfl) rfl (by simp [Value.oneCell']) ?_)
    (try simp only [Exit.inBlock, Exit.then])
    have BF := Lib.hid (row_set (R0.out) #[.int .i64 60, .int .i64 1, .int .i64 10, .int .i64 0])
    have hbf := below_setRow (cs := #[.int .i64 60, .int .i64 1, .int .i64 10, .int .i64 0]) (hb0) (show w.heap.size ≤ w.heap.size + 2 by omega)
    generalize World.setRow _ _ _ = wf at *
    refine bodyPost_ret (v := .agg #[.int .i64 60, .int .i64 1, .int .i64 10, .int .i64 0]) ?_ rfl ?_
    · exact results_cell_row Tryd.results55 _ _ (w.heap.size + 2) 47 _ (0, 0) _ rfl BF.out Tryd.underlying47 rfl (by kernel_rfl)
    · exact ⟨by rw [HE.out]; rfl, hbf⟩
  · have HM := Lib.hid (World.ownsMap_made w0 Tryd.prog 9 (plainElem (H := Unit) Tryd.prog 3))
    have hb3 := bnew (Below.refl w0.heap.size w0) (.map #[] 0)
    have B3 := Lib.hid (blk_alloc B0.out (.map #[] 0))
    have hmm := @run_makeMap Tryd.prog
    go_upto_region 5 with fail
    generalize w0.alloc _ = w3 at *
    have y0 := blk_cell B3.out (j := 0) rfl
    clear x0
    go_wp2_with fail
    clear y0
    go_loopw [21, 6] (fun i p wr => ∃ (k q : Nat) (D : DataW Unit), k ≤ Q.n ∧ i = .int .i64 k ∧ p = .int .i64 q ∧ (q ≤ k ∧ Hid (q = 0 ↔ ∀ j, j < k → (Q.it j).neg = true)) ∧ Hid (∀ j, j < k → (badI S Q.it j != 0) = false) ∧ Hid (NmOwn wr w0.heap.size k D) ∧ Hid (NmMap Q.it k D) ∧ Below w0.heap.size w0 wr) (fun i _ _ => Q.n - (intOf i).toNat)
    case atStart => exact ⟨0, 0, _, Nat.zero_le _, rfl, rfl, ⟨Nat.le_refl _, Lib.hid ⟨fun _ => yes_zero (p := fun j => (Q.it j).neg), fun _ => rfl⟩⟩, Lib.hid none_zero, HM, Lib.hid (nm_zero Q.it), hb3⟩
    case round =>
      obtain ⟨k, q, D, hk, rfl, rfl, ⟨hq, HP⟩, HN, HO, HD, hb⟩ := hrel
      obtain ⟨W1, e1⟩ : ∃ W1 : World, W1 = wr := ⟨_, rfl⟩
      subst e1
      have hbk := bcall hb0 hb
      have R1 := Lib.hid (blk_below R0.out hb)
      by_cases hlt : k < Q.n
      · obtain ⟨b, off, eI, hbl, hcs⟩ := (HQ.out.later hbk).rI.spot (by omega)
        have eI : aI = some ⟨b, off, none⟩ := eI
        subst eI
        obtain ⟨g0, ⟨ta, tc, g1, htc, _, hty⟩, g2, g3, g4⟩ := hcs k hlt
        have hlen := (HWF.out k hlt).vr
        obtain ⟨x, hx⟩ : ∃ x, Q.it k = x := ⟨_, rfl⟩
        rw [hx] at g0 g1 g2 g3 g4 hty htc hlen
        obtain ⟨ng, tn, ty, vr, lo, hi⟩ := x
        have I4 := Lib.hid (blk_new W1 #[.bool ng, .slice ta tn tc, .string vr, .int .i64 lo, .int .i64 hi] 80)
        have hb4 := bnew (Below.refl W1.heap.size W1) (.cells #[.bool ng, .slice ta tn tc, .string vr, .int .i64 lo, .int .i64 hi] 80)
        have HO4 : Hid ((W1.alloc (.cells #[.bool ng, .slice ta tn tc, .string vr, .int .i64 lo, .int .i64 hi] 80)).ownsMap Tryd.prog 9 (plainElem (H := Unit) Tryd.prog 3) w0.heap.size k D) := Lib.hid (HO.out.alloc _)
        have HTY := Lib.hid (RowRd.later hty hb4)
        have S4 := blk_below S0.out (bcall hb hb4)
        have p0 := blk_cell S4 (j := 0) rfl
        have HX := Lib.hid hx
        have hw1 := hb.size
        have hmlt : w0.heap.size < W1.heap.size := HO.out.lt
        have hz4 : W1.heap.size < (W1.alloc (.cells #[.bool ng, .slice ta tn tc, .string vr, .int .i64 lo, .int .i64 hi] 80)).heap.size := by simp
        clear hcs hx hty S4
        go_upto_region 8 with fail
        generalize W1.alloc _ = w4 at *
        clear g0 g1 g2 g3 g4
        go_wp2_with (refine wpList_load_row rfl 80 _ rfl W1.heap.size rfl 80 _ (0, 0) _ I4.out Tryd.underlying80 rfl (by kernel_rfl) ?_)
        refine (item_any A cap S ⟨ng, tn, ty, vr, lo, hi⟩ ta tc _ (HS.out.later (bcall hbk hb4)) HTY.out htc).mono ?_
        rintro e w5 ⟨rfl, hb5⟩
        have hb5' := bcall hb4 hb5
        have I5 := Lib.hid (blk_below I4.out hb5)
        have R5 := Lib.hid (blk_below R1.out hb5')
        have hz5 := hb5.size
        have HO5 : Hid (w5.ownsMap Tryd.prog 9 (plainElem (H := Unit) Tryd.prog 3) w0.heap.size k D) := Lib.hid (HO4.out.kept (row := none) ⟨hb5.os, hb5.tape, hb5.output, hb5.size, fun i hi _ => hb5.block i hi⟩ (by simp))
        obtain ⟨er, her⟩ : ∃ er, itemE S ⟨ng, tn, ty, vr, lo, hi⟩ = er := ⟨_, rfl⟩
        rw [her]
        have HER := Lib.hid (show itemE S (Q.it k) = er by rw [HX.out]; exact her)
        clear her
        by_cases he : er = 0
        · subst he
          have t2 := blk_cell I5.out (j := 2) rfl
          have t0 := blk_cell I5.out (j := 0) rfl
          have HVR := Lib.hid (show (Q.it k).vr = vr by rw [HX.out])
          have HNG := Lib.hid (show (Q.it k).neg = ng by rw [HX.out])
          cases hh : Maps.has D (.string vr.data.toList)
          · have hfree : itemI k Q.it vr = -1 := by
              rcases itemI_or k Q.it vr with e | ⟨j, _, e⟩
              · exact e
              · rw [(HD.out.some vr j e).1] at hh; cases hh
            have HB := Lib.hid (none_step (p := fun j => badI S Q.it j != 0) HN.out (by show (badI S Q.it k != 0) = false; rw [badI, HER.out, if_neg (by decide), HVR.out, if_pos hfree]; rfl))
            have HE := nm_new HD.out (by rw [HVR.out]; exact hh)
            rw [HVR.out] at HE
            have HE := Lib.hid HE
            clear hfree
            cases ng
            all_goals
              go_wp2_with (first
                | (at_lookup; refine wpList_lookup_own_ok_int _ rfl _ _ 81 rfl 9 3 .i64 lawTxt Tryd.underlying81 Tryd.underlying3 (zeroInt _) w0.heap.size k D rfl HO5.out _ _ rfl (Go.WideMaps.keyOf_string_mk Tryd.underlying9 hlen) ?_; intro c hat hwc; rw [hh])
                | (at_mapUpdate; go_loud (refine wpList_mapUpdate_own _ rfl _ _ _ 81 rfl 9 3 lawTxt Tryd.underlying81 _ w0.heap.size k _ rfl HO5.out (by unfold maxLen; omega) _ _ _ rfl rfl (Go.WideMaps.keyOf_string_mk Tryd.underlying9 hlen) _ [] (plainElem_int Tryd.underlying3 (WalkArith.wf_i64 (by omega))) ?_; intro w6 hown6 hgrow6); have t06 := blk_cell (blk_grown I5.out hgrow6 (by simp; omega)) (j := 0) rfl))
              have hb6 := (bcall hb hb5').grown hgrow6 (by omega) (fun j hj => by cases hj; exact Nat.le_refl _)
              go_roundw
            case rel => exact ⟨k + 1, q + 1, _, by omega, by go_num, by go_num, ⟨by omega, Lib.hid ⟨fun h => by omega, fun h => by have := h k (by omega); rw [HNG.out] at this; cases this⟩⟩, HB, Lib.hid hown6, HE, hb6⟩
            case measure => simp [intOf]; omega
            case rel => exact ⟨k + 1, q, _, by omega, by go_num, rfl, ⟨by omega, Lib.hid ⟨fun h => yes_step (p := fun j => (Q.it j).neg) (HP.out.1 h) HNG.out, fun h => HP.out.2 (fun j hj => h j (by omega))⟩⟩, HB, Lib.hid hown6, HE, hb6⟩
            case measure => simp [intOf]; omega
          · have hbad : badI S Q.it k = 64 := by
              rw [badI, HER.out, if_neg (by decide), HVR.out, if_neg]
              intro e
              rw [HD.out.none vr e] at hh
              cases hh
            have HE := Lib.hid (show itemsF S Q = ⟨64, 1, k, 0⟩ by rw [itemsF_hit h10 hlt (by rw [hbad]; decide) HN.out, hbad])
            clear hbad
            go_upto_region 13 with (at_lookup; refine wpList_lookup_own_ok_int _ rfl _ _ 81 rfl 9 3 .i64 lawTxt Tryd.underlying81 Tryd.underlying3 (zeroInt _) w0.heap.size k D rfl HO5.out _ _ rfl (Go.WideMaps.keyOf_string_mk Tryd.underlying9 hlen) ?_; intro c hat hwc; rw [hh])
            go_wp2_with (refine wpList_store_row rfl 47 _ _ rfl (w.heap.size + 2) #[.int .i64 64, .int .i64 1, .int .i64 (k : Nat), .int .i64 0] rfl rfl 47 _ (R5.out) (by kernel_rfl) rfl (by simp [Value.oneCell']) ?_)
            (try simp only [Exit.inBlock, Exit.then])
            have BF := Lib.hid (row_set (R5.out) #[.int .i64 64, .int .i64 1, .int .i64 (k : Nat), .int .i64 0])
            have hbf := below_setRow (cs := #[.int .i64 64, .int .i64 1, .int .i64 (k : Nat), .int .i64 0]) (bcall hbk hb5') (show w.heap.size ≤ w.heap.size + 2 by omega)
            generalize World.setRow _ _ _ = wf at *
            refine bodyPost_ret (v := .agg #[.int .i64 64, .int .i64 1, .int .i64 (k : Nat), .int .i64 0]) ?_ rfl ?_
            · exact results_cell_row Tryd.results55 _ _ (w.heap.size + 2) 47 _ (0, 0) _ rfl BF.out Tryd.underlying47 rfl (by kernel_rfl)
            · exact ⟨by rw [HE.out]; rfl, hbf⟩
        · have he' : (er == 0) = false := by rw [beq_eq_false_iff_ne]; exact he
          have hne : (er != 0) = true := by rw [bne_iff_ne]; exact he
          have HE := Lib.hid (show itemsF S Q = ⟨er, 1, k, 0⟩ by
            have hbad : badI S Q.it k = er := by rw [badI, HER.out, if_pos he]
            rw [itemsF_hit h10 hlt (by rw [hbad]; exact he) HN.out, hbad])
          go_wp2_with (refine wpList_store_row rfl 47 _ _ rfl (w.heap.size + 2) #[.int .i64 er, .int .i64 1, .int .i64 (k : Nat), .int .i64 0] rfl rfl 47 _ (R5.out) (by kernel_rfl) rfl (by simp [Value.oneCell']) ?_)
          (try simp only [Exit.inBlock, Exit.then])
          have BF := Lib.hid (row_set (R5.out) #[.int .i64 er, .int .i64 1, .int .i64 (k : Nat), .int .i64 0])
          have hbf := below_setRow (cs := #[.int .i64 er, .int .i64 1, .int .i64 (k : Nat), .int .i64 0]) (bcall hbk hb5') (show w.heap.size ≤ w.heap.size + 2 by omega)
          generalize World.setRow _ _ _ = wf at *
          refine bodyPost_ret (v := .agg #[.int .i64 er, .int .i64 1, .int .i64 (k : Nat), .int .i64 0]) ?_ rfl ?_
          · exact results_cell_row Tryd.results55 _ _ (w.heap.size + 2) 47 _ (0, 0) _ rfl BF.out Tryd.underlying47 rfl (by kernel_rfl)
          · exact ⟨by rw [HE.out]; rfl, hbf⟩
      · obtain rfl : k = Q.n := by omega
        have HE0 := Lib.hid (itemsF_end h10 HN.out)
        by_cases hq0 : q = 0
        · subst hq0
          have HE := Lib.hid (show itemsF S Q = ⟨65, 1, 0, 0⟩ by rw [HE0.out, if_pos (all_yes (HP.out.1 rfl))])
          go_wp2_with (refine wpList_store_row rfl 47 _ _ rfl (w.heap.size + 2) #[.int .i64 65, .int .i64 1, .int .i64 0, .int .i64 0] rfl rfl 47 _ (R1.out) (by kernel_rfl) rfl (by simp [Value.oneCell']) ?_)
          (try simp only [Exit.inBlock, Exit.then])
          have BF := Lib.hid (row_set (R1.out) #[.int .i64 65, .int .i64 1, .int .i64 0, .int .i64 0])
          have hbf := below_setRow (cs := #[.int .i64 65, .int .i64 1, .int .i64 0, .int .i64 0]) (hbk) (show w.heap.size ≤ w.heap.size + 2 by omega)
          generalize World.setRow _ _ _ = wf at *
          refine bodyPost_ret (v := .agg #[.int .i64 65, .int .i64 1, .int .i64 0, .int .i64 0]) ?_ rfl ?_
          · exact results_cell_row Tryd.results55 _ _ (w.heap.size + 2) 47 _ (0, 0) _ rfl BF.out Tryd.underlying47 rfl (by kernel_rfl)
          · exact ⟨by rw [HE.out]; rfl, hbf⟩
        · have hq1 : ((q : Int) == 0) = false := by rw [beq_eq_false_iff_ne]; omega
          have HE := Lib.hid (show itemsF S Q = ⟨0, 0, 0, 0⟩ by rw [HE0.out, if_neg (fun h => hq0 (HP.out.2 (fun j hj => of_all h hj)))])
          go_wp2_with (refine wpList_store_row rfl 47 _ _ rfl (w.heap.size + 2) #[.int .i64 0, .int .i64 0, .int .i64 0, .int .i64 0] rfl rfl 47 _ (R1.out) (by kernel_rfl) rfl (by simp [Value.oneCell']) ?_)
          (try simp only [Exit.inBlock, Exit.then])
          have BF := Lib.hid (row_set (R1.out) #[.int .i64 0, .int .i64 0, .int .i64 0, .int .i64 0])
          have hbf := below_setRow (cs := #[.int .i64 0, .int .i64 0, .int .i64 0, .int .i64 0]) (hbk) (show w.heap.size ≤ w.heap.size + 2 by omega)
          generalize World.setRow _ _ _ = wf at *
          refine bodyPost_ret (v := .agg #[.int .i64 0, .int .i64 0, .int .i64 0, .int .i64 0]) ?_ rfl ?_
          · exact results_cell_row Tryd.results55 _ _ (w.heap.size + 2) 47 _ (0, 0) _ rfl BF.out Tryd.underlying47 rfl (by kernel_rfl)
          · exact ⟨by rw [HE.out]; rfl, hbf⟩
end Go.Proofs.YtagcbljfaflhoaaDoor

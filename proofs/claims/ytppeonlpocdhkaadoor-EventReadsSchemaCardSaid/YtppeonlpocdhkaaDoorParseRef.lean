/-
  The walk of ParseSchema: the reference's.
-/
import Derived.Test.YtppeonlpocdhkaaDoorDefRef
set_option linter.unusedSimpArgs false
set_option linter.unusedVariables false
namespace Go.Proofs.YtppeonlpocdhkaaDoor
open Go.RowKit Go.ChangeShapes Go.WideShapes Go.ChangeAt Go.Deep Go.Joins
theorem schOf_more (ts : TList) (nm : ByteArray) (al : List ByteArray) : (schOf (ts ++ [(nm, al)])).n = ts.length + 1 ∧ (schOf (ts ++ [(nm, al)])).nm ts.length = nm ∧ (schOf (ts ++ [(nm, al)])).ln ts.length = al.length ∧ (∀ j, (schOf (ts ++ [(nm, al)])).atr ts.length j = gA al j) ∧
    SchEq (schOf ts) ⟨ts.length, (schOf (ts ++ [(nm, al)])).nm, (schOf (ts ++ [(nm, al)])).ln, (schOf (ts ++ [(nm, al)])).atr⟩ := by
  refine ⟨by simp [schOf], by simp [schOf, nmOf], by simp [schOf, atsOf], fun j => by simp [schOf, atsOf, gA], rfl, fun i hi => ?_⟩
  have h1 : i < ts.length := hi
  simp only [schOf, nmOf, atsOf, List.getD_eq_getElem?_getD, List.getElem?_append_left h1]
  exact ⟨trivial, trivial, fun _ _ => trivial⟩
/-- A type more, with its attributes. -/
theorem more_types {W1 w : World} {base n0 : Nat} {ov tv : Value} {ts : TList} {nm : ByteArray} {al : List ByteArray} (h : TypOwn W1 base ov (schOf ts)) (hl : ts.length ≤ 16) (hal : al.length ≤ 8) (hb : Below W1.heap.size W1 w) (hn0 : W1.heap.size ≤ n0) (hbase : base ≤ n0)
    (ht : w.ownsRow n0 9 1 tv al.length (strCells (gA al) al.length)) (o : Obj) :
    ∃ xs, (w.alloc o).ownsRow base 40 2 ov ts.length xs ∧ ∀ (w1 : World) (g cap : Nat) (u : Value) (p : Addr), w1.ownsRow base 40 2 (.slice (some ⟨g, 0, none⟩) (ts.length + 1) cap) (ts.length + 1) (xs ++ [.string nm, tv]) → (w.alloc o).grownBy w1 ov.ownBlock → p.block < base →
      TypOwn (w1.setCell p u) base (.slice (some ⟨g, 0, none⟩) (ts.length + 1) cap) (schOf (ts ++ [(nm, al)])) := by
  obtain ⟨e1, e2, e3, e4, e5⟩ := schOf_more ts nm al
  obtain ⟨_, sl, h1, h2, h3⟩ := h.congr e5
  refine ⟨_, (own_below h1 hb).alloc o, fun w1 g cap u p hown hg hp => ?_⟩
  have ht' : w.ownsRow n0 9 1 tv ((schOf (ts ++ [(nm, al)])).ln ts.length) (strCells ((schOf (ts ++ [(nm, al)])).atr ts.length) ((schOf (ts ++ [(nm, al)])).ln ts.length)) := by
    rw [e3, strCells_congr (fun j _ => e4 j)]
    exact ht
  have hown' : w1.ownsRow base 40 2 (.slice (some ⟨g, 0, none⟩) (ts.length + 1) cap) (ts.length + 1) (rowCells (schOf (ts ++ [(nm, al)])).nm sl ts.length ++ [.string ((schOf (ts ++ [(nm, al)])).nm ts.length), tv]) := by
    rw [e2]
    exact hown
  have := TypOwn.more (k := ts.length) (nm := (schOf (ts ++ [(nm, al)])).nm) (ln := (schOf (ts ++ [(nm, al)])).ln) (at_ := (schOf (ts ++ [(nm, al)])).atr) (sl := sl) (by omega) (by rw [e3]; omega) h1 h2 h3 hb hn0 hbase ht' o hown' hg hp (u := u)
  rw [← e1] at this ⊢
  exact this
set_option maxRecDepth 100000 in
set_option maxHeartbeats 4000000 in
theorem refParseSchema_any (s : ByteArray) (w : World) {tt : TypeId} {fr : Nat × Nat} (hkw : w.heap[0]? = some (.cells kwArr tt fr)) :
    Calls Tryd.prog 22 #[.string s] w fun e w' => PsEnd w w' s e := by
  have HK := Lib.hid hkw
  clear hkw
  by_cases hlong : 4096 < s.size
  · have HP := Lib.hid (parseRes_long hlong)
    go_enter Tryd.func22, Tryd.ntmps22
    go_wp2_with fail
    refine bodyPost_ret (v := .tuple #[.agg #[.slice none 0 0], .int .i64 20, .int .i64 4096]) ?_ rfl ?_
    · simp [results, Tryd.results22, go_sem]
    · exact ps_bad (p := 4096) HP.out (bnew (Below.refl _ _) _)
  have HP := Lib.hid (parseRes_rest hlong)
  have hmax : s.size ≤ 4096 := by omega
  have hb1 : Below w.heap.size w (w.alloc (.cells #[.slice none 0 0] 25)) := bnew (Below.refl _ _) _
  have R1 : Hid ((w.alloc (.cells #[.slice none 0 0] 25)).heap[w.heap.size]? = some (.cells #[.slice none 0 0] 25 (0, 0))) := Lib.hid (blk_new w _ _)
  have hz1 : w.heap.size + 1 ≤ (w.alloc (.cells #[.slice none 0 0] 25)).heap.size := by rw [World.size_alloc]; omega
  go_enter Tryd.func22, Tryd.ntmps22
  go_wp2_with fail
  generalize w.alloc _ = w1 at *
  refine (cut_walk s hmax _).mono ?_
  rintro e w2 ⟨lA, lc, rfl, hb12, hown⟩
  obtain ⟨L, hL⟩ : ∃ L, cutFrom s 0 = L := ⟨_, rfl⟩
  have hll : L.length ≤ 4096 := by
    have := cut_len s 0
    rw [hL] at this
    omega
  have HA : Hid (AllOk s L) := Lib.hid (by rw [← hL]; exact allok_cut s)
  rw [hL] at hown HP
  rw [hL]
  clear hL
  have hb2 := bcall hb1 hb12
  have R2 := Lib.hid (blk_below R1.out hb12)
  have HP2 : Hid (PRd w2 lA L) := Lib.hid (rowown_rd hown (by omega))
  have hz2 : w.heap.size + 1 ≤ w2.heap.size := Nat.le_trans hz1 hb12.size
  have hb3 : Below w.heap.size w (w2.alloc (.cells #[.slice none 0 0] 25)) := bnew hb2 _
  have S3 : Hid ((w2.alloc (.cells #[.slice none 0 0] 25)).heap[w2.heap.size]? = some (.cells #[.slice none 0 0] 25 (0, 0))) := Lib.hid (blk_new w2 _ _)
  have R3 : Hid ((w2.alloc (.cells #[.slice none 0 0] 25)).heap[w.heap.size]? = some (.cells #[.slice none 0 0] 25 (0, 0))) := Lib.hid (blk_alloc R2.out _)
  have B3 : Below w2.heap.size w2 (w2.alloc (.cells #[.slice none 0 0] 25)) := bnew (Below.refl _ _) _
  have hz3 : w2.heap.size + 1 ≤ (w2.alloc (.cells #[.slice none 0 0] 25)).heap.size := by rw [World.size_alloc]; omega
  clear hown
  go_wp2_with fail
  generalize w2.alloc _ = w3 at *
  obtain ⟨M, hM⟩ : ∃ M, w2.heap.size = M := ⟨_, rfl⟩
  rw [hM] at S3 B3 hz2 hz3
  rw [hM]
  have HPM : Hid (RowRd w2 M lA L.length 3 24 (pC L)) := Lib.hid (by rw [← hM]; exact HP2.out)
  obtain ⟨i0, hi0, iz0, iz1, iz2⟩ := info_parts infoType
  go_loopw [7, 8, 9, 10] (fun v _ _ _ wr => ∃ (n : Nat) (ts : TList) (A : Option Addr) (c : Nat), v = .int .i64 n ∧ n ≤ L.length ∧ ts.length ≤ 16 ∧ Hid (gfin s ⟨0, []⟩ L = gfin s ⟨0, ts⟩ (L.drop n)) ∧ Below M w2 wr ∧ M + 1 ≤ wr.heap.size ∧ Below w.heap.size w wr ∧
    Hid (wr.heap[M]? = some (.cells #[.slice A ts.length c] 25 (0, 0))) ∧ Hid (wr.heap[w.heap.size]? = some (.cells #[.slice none 0 0] 25 (0, 0))) ∧ Hid (TypOwn wr (M + 1) (.slice A ts.length c) (schOf ts))) (fun v _ _ _ _ => L.length - (intOf v).toNat)
  case atStart => exact ⟨0, [], none, 0, rfl, Nat.zero_le _, by simp, Lib.hid rfl, B3, hz3, hb3, S3, R3, Lib.hid ⟨by show 0 * 40 ≤ _; omega, fun _ => .slice none 0 0, World.ownsRow_nil _ _ _ _, fun j hj => absurd (show j < 0 from hj) (Nat.not_lt_zero _), fun i j _ hj => absurd (show j < 0 from hj) (Nat.not_lt_zero _)⟩⟩
  case round =>
    obtain ⟨n, ts, A, c, rfl, hn, hts, HG, hbM, hz, hb, S, R, HO⟩ := hrel
    by_cases hlt : n < L.length
    · have HPr : Hid (PRd wr lA L) := Lib.hid ((RowRd.below HPM.out hbM).more (Nat.le_of_succ_le hz))
      have HKr := Lib.hid (block_below HK.out hb)
      have HT : Hid (TypRd wr wr.heap.size A (schOf ts)) := Lib.hid (TypOwn.rd HO.out)
      have s0 := blk_cell (j := 0) (v := .slice A ts.length c) S.out rfl
      go_wp2_with fail
      refine (definition_any s hmax lA lc L n A c ts _ HPr.out HA.out hll hlt HT.out hts HKr.out).mono ?_
      rintro e w5 ⟨hb5, hcase⟩
      have hz5 := hb5.size
      rcases hcase with ⟨c0, k, nm, aA, an, ac, hc, rfl, hg⟩ | ⟨k, nm, al, aA, ac, rfl, hik, hkl, h16, hal, ho, hg⟩
      · have hb6 : Below w.heap.size w (w5.alloc (.cells #[.string nm, .slice aA an ac] 40)) := bnew (bcall hb hb5) _
        have HP6 : Hid (PRd (w5.alloc (.cells #[.string nm, .slice aA an ac] 40)) lA L) := Lib.hid ((RowRd.later HPr.out hb5).later (bnew (Below.refl _ _) _))
        have R6 : Hid ((w5.alloc (.cells #[.string nm, .slice aA an ac] 40)).heap[w.heap.size]? = some (.cells #[.slice none 0 0] 25 (0, 0))) := Lib.hid (blk_alloc (blk_below R.out hb5) _)
        have hcc : (c0 != 0) = true := by rw [bne_iff_ne]; exact hc
        have HGG : Hid (parseRes s = ⟨c0, placeN s L k, []⟩) := Lib.hid (by rw [HP.out, HG.out, hg])
        clear hg s0
        go_wp2_with fail
        generalize w5.alloc _ = w6 at *
        refine (placeAt_any s hmax lA lc L k _ HP6.out hll).mono ?_
        rintro e w7 ⟨rfl, hb67⟩
        have R7 := Lib.hid (blk_below R6.out hb67)
        have r0 := blk_cell (j := 0) (v := .slice none 0 0) R7.out rfl
        have f0 := blk_free R7.out 0
        have e1 : (w7.setCell ⟨w.heap.size, 0, none⟩ (.slice none 0 0)).cell? ⟨w.heap.size, 0, none⟩ = some (.slice none 0 0) := blk_cell (blk_set R7.out 0 (.slice none 0 0)) rfl
        have hbE : Below w.heap.size w (w7.setCell ⟨w.heap.size, 0, none⟩ (.slice none 0 0)) := (bcall hb6 hb67).setCell (Nat.le_refl _) _
        generalize placeN s L k = pn at *
        go_wp2_with fail
        refine bodyPost_ret (v := .tuple #[.agg #[.slice none 0 0], .int .i64 c0, .int .i64 pn]) ?_ rfl ?_
        · simp [results, Tryd.results22, go_sem, e1]
        · exact ps_bad (p := pn) HGG.out hbE
      · have HGG := Lib.hid (HG.out.trans hg)
        have hb6 : Below wr.heap.size wr (w5.alloc (.cells #[.string nm, .slice aA al.length ac] 40)) := bnew hb5 _
        obtain ⟨xs, hxs, hmk⟩ := more_types (nm := nm) HO.out hts hal hb6 (Nat.le_refl _) hz (ho.alloc (.cells #[.string nm, .slice aA al.length ac] 40)) (.cells #[.string nm, .slice aA al.length ac] 40)
        have HXS := Lib.hid hxs
        have HMK := Lib.hid hmk
        have hneM := rowown_ne hxs (show M < M + 1 by omega)
        have hneR := rowown_ne hxs (show w.heap.size < M + 1 by omega)
        have S6 : Hid ((w5.alloc (.cells #[.string nm, .slice aA al.length ac] 40)).heap[M]? = some (.cells #[.slice A ts.length c] 25 (0, 0))) := Lib.hid (blk_alloc (blk_below S.out hb5) _)
        have R6 : Hid ((w5.alloc (.cells #[.string nm, .slice aA al.length ac] 40)).heap[w.heap.size]? = some (.cells #[.slice none 0 0] 25 (0, 0))) := Lib.hid (blk_alloc (blk_below R.out hb5) _)
        have T6 : Hid ((w5.alloc (.cells #[.string nm, .slice aA al.length ac] 40)).heap[w5.heap.size]? = some (.cells #[.string nm, .slice aA al.length ac] 40 (0, 0))) := Lib.hid (blk_new w5 _ _)
        have hz6 : wr.heap.size + 1 ≤ (w5.alloc (.cells #[.string nm, .slice aA al.length ac] 40)).heap.size := by rw [World.size_alloc]; omega
        have s6 := blk_cell (j := 0) (v := .slice A ts.length c) S6.out rfl
        have t60 := blk_cell (j := 0) (v := .string nm) T6.out rfl
        have t61 := blk_cell (j := 1) (v := .slice aA al.length ac) T6.out rfl
        clear hg s0 hxs hmk ho
        have hneM' := Lib.hid hneM
        have hneR' := Lib.hid hneR
        clear hneM hneR
        have hM6 : M < ((w5.alloc (.cells #[.string nm, .slice aA al.length ac] 40)).alloc (.cells #[.string nm, .slice aA al.length ac] 40)).heap.size := by rw [World.size_alloc]; omega
        have hM5 : M < (w5.alloc (.cells #[.string nm, .slice aA al.length ac] 40)).heap.size := by omega
        go_wp2_with (at_builtin; go_loud (refine wpList_append_lies _ rfl _ _ _ rfl (M + 1) 40 i0 _ 2 40 Tryd.underlying23 hi0 iz0 iz1 iz2 rfl (by omega) (.slice A ts.length c) ts.length xs rfl HXS.out ⟨w5.heap.size + 1, 0, none⟩ 1 1 [.string nm, .slice aA al.length ac] rfl rfl (World.news_of_block (cs := #[.string nm, .slice aA al.length ac]) (t := 40) (fr := (0, 0)) (by have h := heap_alloc_new (w5.alloc (.cells #[.string nm, .slice aA al.length ac] 40)) (.cells #[.string nm, .slice aA al.length ac] 40); rw [World.size_alloc] at h; exact h)) (by simp [Value.oneCell']) (by omega) (by unfold maxLen; omega) (by omega) (by simp; omega) (w5.heap.size + 1 + 1) (by simp) ?_; intro gg gcap w9 hown9 hgrow hat hlt9; have t0 := (hgrow.cell_far ⟨M, 0, none⟩ hM6 (Ne.symm hneM'.out)).trans (cell_alloc s6 _); have t1 := (hgrow.frozen_far ⟨M, 0, none⟩ hM6 (Ne.symm hneM'.out)).trans (frozen_alloc (p := ⟨M, 0, none⟩) hM5 (blk_free S6.out 0) _)))
        have hS9 := blk_set (blk_grown (blk_alloc S6.out (.cells #[.string nm, .slice aA al.length ac] 40)) hgrow hneM'.out) 0 (.slice (some ⟨gg, 0, none⟩) (ts.length + 1) gcap)
        have hR9 := blk_other (p := ⟨M, 0, none⟩) (blk_grown (blk_alloc R6.out (.cells #[.string nm, .slice aA al.length ac] 40)) hgrow hneR'.out) (show M ≠ w.heap.size by omega) (.slice (some ⟨gg, 0, none⟩) (ts.length + 1) gcap)
        have hO9 := HMK.out w9 gg gcap (.slice (some ⟨gg, 0, none⟩) (ts.length + 1) gcap) ⟨M, 0, none⟩ hown9 hgrow (Nat.lt_succ_self M)
        have hb6m : Below (M + 1) wr (w5.alloc (.cells #[.string nm, .slice aA al.length ac] 40)) := hb6.mono hz
        have hb7m : Below (M + 1) wr ((w5.alloc (.cells #[.string nm, .slice aA al.length ac] 40)).alloc (.cells #[.string nm, .slice aA al.length ac] 40)) := hb6m.alloc (by omega) _
        have hb9 : Below (M + 1) wr w9 := hb7m.grown hgrow (by omega) (fun y hy => (HXS.out.lt y hy).1)
        have hb9M : Below M w2 (w9.setCell ⟨M, 0, none⟩ (.slice (some ⟨gg, 0, none⟩) (ts.length + 1) gcap)) := (hbM.trans (hb9.mono (Nat.le_succ M))).setCell (Nat.le_refl _) _
        have hb9w : Below w.heap.size w (w9.setCell ⟨M, 0, none⟩ (.slice (some ⟨gg, 0, none⟩) (ts.length + 1) gcap)) := (hb.trans (hb9.mono (show w.heap.size ≤ M + 1 by omega))).setCell (show w.heap.size ≤ M by omega) _
        have hz9 : M + 1 ≤ (w9.setCell ⟨M, 0, none⟩ (.slice (some ⟨gg, 0, none⟩) (ts.length + 1) gcap)).heap.size := by
          rw [World.size_setCell]
          have := hb9.size
          omega
        have hls : (ts ++ [(nm, al)]).length = ts.length + 1 := by simp
        have hl16 : (ts ++ [(nm, al)]).length ≤ 16 := by omega
        go_roundw
        case rel => exact ⟨k, ts ++ [(nm, al)], some ⟨gg, 0, none⟩, gcap, rfl, hkl, hl16, HGG, hb9M, hz9, hb9w, Lib.hid (by rw [hls]; exact hS9), Lib.hid hR9, Lib.hid (by rw [hls]; exact hO9)⟩
        case measure => simp [intOf]; omega
    · obtain rfl : n = L.length := by omega
      have hdr : L.drop L.length = [] := List.drop_length
      have HGE : Hid (parseRes s = gend s ⟨0, ts⟩) := Lib.hid (by rw [HP.out, HG.out, hdr]; rfl)
      have s0 := blk_cell (j := 0) (v := .slice A ts.length c) S.out rfl
      have r0 := blk_cell (j := 0) (v := .slice none 0 0) R.out rfl
      have f0 := blk_free R.out 0
      by_cases h0 : ts.length = 0
      · have HGG : Hid (parseRes s = ⟨23, s.size, []⟩) := by
          refine Lib.hid ?_
          rw [HGE.out, gend, if_neg (by simp), if_pos h0]
        have e1 : (wr.setCell ⟨w.heap.size, 0, none⟩ (.slice none 0 0)).cell? ⟨w.heap.size, 0, none⟩ = some (.slice none 0 0) := blk_cell (blk_set R.out 0 (.slice none 0 0)) rfl
        have hbE : Below w.heap.size w (wr.setCell ⟨w.heap.size, 0, none⟩ (.slice none 0 0)) := hb.setCell (Nat.le_refl _) _
        rw [h0] at s0
        go_wp2_with fail
        refine bodyPost_ret (v := .tuple #[.agg #[.slice none 0 0], .int .i64 23, .int .i64 s.size]) ?_ rfl ?_
        · simp [results, Tryd.results22, go_sem, e1]
        · exact ps_bad (p := s.size) HGG.out hbE
      · have HGG : Hid (parseRes s = ⟨0, 0, ts⟩) := by
          refine Lib.hid ?_
          rw [HGE.out, gend, if_neg (by simp), if_neg h0]
        have hl0 : ((ts.length : Int) == 0) = false := by rw [beq_eq_false_iff_ne]; omega
        have e1 : (wr.setCell ⟨w.heap.size, 0, none⟩ (.slice A ts.length c)).cell? ⟨w.heap.size, 0, none⟩ = some (.slice A ts.length c) := blk_cell (blk_set R.out 0 (.slice A ts.length c)) rfl
        have hbE : Below w.heap.size w (wr.setCell ⟨w.heap.size, 0, none⟩ (.slice A ts.length c)) := hb.setCell (Nat.le_refl _) _
        have OW := Lib.hid (typ_out R.out (HO.out.mono (show w.heap.size ≤ M + 1 by omega)) (.slice A ts.length c))
        go_wp2_with fail
        refine bodyPost_ret (v := .tuple #[.agg #[.slice A ts.length c], .int .i64 0, .int .i64 0]) ?_ rfl ?_
        · simp [results, Tryd.results22, go_sem, e1]
        · exact ps_ok HGG.out rfl hbE OW.out
end Go.Proofs.YtppeonlpocdhkaaDoor

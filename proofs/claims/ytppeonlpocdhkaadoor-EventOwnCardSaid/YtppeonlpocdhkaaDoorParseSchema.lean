/-
  The walk of ParseSchema: the program's.
-/
import Derived.Test.YtppeonlpocdhkaaDoorReaderWord
import Derived.Lib.OthersKept
import Derived.Outline
set_option linter.unusedSimpArgs false
set_option linter.unusedVariables false
namespace Go.Proofs.YtppeonlpocdhkaaDoor
open Go.RowKit Go.ChangeShapes Go.WideShapes Go.ChangeAt Go.Deep Go.Joins
/-- What has been read up to p says what the whole says: bg: where a word has begun; cm: within a comment. -/
def PInv (s : ByteArray) (st : Gst) (p : Nat) (b : Int) (cm : Bool) : Prop :=
  (cm = true ∧ b = -1 ∧ gfin s ⟨0, []⟩ (cutFrom s 0) = gfin s st (cutFrom s (skipC s p))) ∨ (cm = false ∧ b = -1 ∧ gfin s ⟨0, []⟩ (cutFrom s 0) = gfin s st (cutFrom s p)) ∨
  (cm = false ∧ ∃ k : Nat, b = k ∧ k < p ∧ gfin s ⟨0, []⟩ (cutFrom s 0) = gfin s st (⟨k, skipW s p, true⟩ :: cutFrom s (skipW s p)))
theorem iter_row {w : World} {B k n sz p : Nat} {e : TypeId} {v : Value} {xs : List Value} {s : ByteArray} (h : w.ownsRow B e sz v n xs) (hk : w.heap[k]? = some (Obj.stringIter s p)) (q : Nat) : (w.iterAt k s q).ownsRow B e sz v n xs := by
  refine h.kept (row := some k) ⟨rfl, rfl, rfl, by rw [Lib.iterAt_size]; exact Nat.le_refl _, fun i _ hi => Lib.iterAt_other w k i s q (fun e => hi (by rw [e]))⟩ (Or.inr fun hv => ?_)
  obtain ⟨c, fz, h1⟩ := Lib.ownsRow_kind h k hv
  rw [hk] at h1
  cases h1
theorem iter_rdr {w : World} {B R k p : Nat} {want code pos : Int} {v : Value} {ts : TList} {s : ByteArray} (h : RdrAt w B R want v ts code pos) (hk : w.heap[k]? = some (Obj.stringIter s p)) (q : Nat) : RdrAt (w.iterAt k s q) B R want v ts code pos := by
  have hR : R ≠ k := fun e => by
    subst e
    rw [h.heap] at hk
    cases hk
  refine ⟨h.hB, (Lib.iterAt_other w k R s q hR).trans h.heap, ?_⟩
  obtain ⟨hn, sl, h1, h2, h3⟩ := h.own
  exact ⟨hn, sl, iter_row h1 hk q, fun j hj => ⟨(h2 j hj).1, iter_row (h2 j hj).2 hk q⟩, h3⟩
theorem extract_size {s : ByteArray} {a b : Nat} (h : a < b) (h2 : b ≤ s.size) : 0 < (s.extract a b).size := by
  rw [ByteArray.size_extract]
  omega
/-- What the call ends with. -/
def PsEnd (w w' : World) (s : ByteArray) (e : Ending) : Prop :=
  ∃ A c, e = .returned (.tuple #[.agg #[.slice A (parseRes s).ts.length c], .int .i64 (parseRes s).code, .int .i64 (parseRes s).pos]) ∧ Below w.heap.size w w' ∧ TypOwn w' w.heap.size (.slice A (schOf (parseRes s).ts).n c) (schOf (parseRes s).ts)
theorem ps_bad {w w' : World} {s : ByteArray} {c : Int} {p : Nat} (h : parseRes s = ⟨c, p, []⟩) (hb : Below w.heap.size w w') : PsEnd w w' s (.returned (.tuple #[.agg #[.slice none 0 0], .int .i64 c, .int .i64 p])) := by
  refine ⟨none, 0, by rw [h]; rfl, hb, ?_⟩
  rw [h]
  exact ⟨by show 0 * 40 ≤ _; omega, fun _ => .slice none 0 0, World.ownsRow_nil _ _ _ _, fun j hj => absurd (show j < 0 from hj) (Nat.not_lt_zero _), fun i j _ hj => absurd (show j < 0 from hj) (Nat.not_lt_zero _)⟩
theorem typ_out {W : World} {b : Nat} {v : Value} {S : Sch} {cs : Array Value} {fr : Nat × Nat} (hb : W.heap[b]? = some (.cells cs 25 fr)) (h : TypOwn W b v S) (u : Value) : TypOwn (W.setCell ⟨b, 0, none⟩ u) b v S := by
  obtain ⟨hn, sl, h1, h2, h3⟩ := h
  exact ⟨hn, sl, own_blk h1 hb (by decide) 0 u, fun i hi => ⟨(h2 i hi).1, own_blk (h2 i hi).2 hb (by decide) 0 u⟩, h3⟩
theorem ps_ok {w w' : World} {s : ByteArray} {ts : TList} {A : Option Addr} {n c : Nat} (h : parseRes s = ⟨0, 0, ts⟩) (hn : n = ts.length) (hb : Below w.heap.size w w') (ho : TypOwn w' w.heap.size (.slice A n c) (schOf ts)) : PsEnd w w' s (.returned (.tuple #[.agg #[.slice A n c], .int .i64 0, .int .i64 0])) := by
  subst hn
  refine ⟨A, c, by rw [h]; rfl, hb, ?_⟩
  rw [h]
  exact ho
theorem wordI_high {n : Int} (h : 128 ≤ n) : wordI n = false := by
  simp only [wordI, ltrI, digI, Bool.or_eq_false_iff, Bool.and_eq_false_iff, decide_eq_false_iff_not, beq_eq_false_iff_ne]
  omega
theorem kw_below {w w1 W : World} {k : Nat} {cs : Array Value} {tt : TypeId} {fr : Nat × Nat} (h : w.heap[k]? = some (.cells cs tt fr)) (h1 : Below w.heap.size w w1) (h2 : Below (w.heap.size + 1) w1 W) : W.heap[k]? = some (.cells cs tt fr) :=
  blk_below h (h1.trans (h2.mono (Nat.le_succ _)))
theorem err_cells {w1 W : World} {b : Nat} {cs : Array Value} {T : TypeId} {fr : Nat × Nat} (h : w1.heap[b]? = some (.cells cs T fr)) (h2 : Below (b + 1) w1 W) : W.heap[b]? = some (.cells cs T fr) := (h2.block b (Nat.lt_succ_self b)).trans h
set_option maxRecDepth 100000 in
set_option maxHeartbeats 4000000 in
theorem parseSchema_any (s : ByteArray) (w : World) {tt : TypeId} {fr : Nat × Nat} (hkw : w.heap[0]? = some (.cells kwArr tt fr)) :
    Calls Tryd.prog 21 #[.string s] w fun e w' => PsEnd w w' s e := by
  have HK := Lib.hid hkw
  clear hkw
  by_cases hlong : 4096 < s.size
  · have HP := Lib.hid (parseRes_long hlong)
    go_enter Tryd.func21, Tryd.ntmps21
    go_wp2_with fail
    refine bodyPost_ret (v := .tuple #[.agg #[.slice none 0 0], .int .i64 20, .int .i64 4096]) ?_ rfl ?_
    · simp [results, Tryd.results21, go_sem]
    · exact ps_bad (p := 4096) HP.out (bnew (Below.refl _ _) _)
  · have HP := Lib.hid (parseRes_rest hlong)
    have hmax : s.size ≤ 4096 := by omega
    have hb1 : Below w.heap.size w (((w.alloc (.cells #[.slice none 0 0] 25)).alloc (.cells #[.int .i64 0, .slice none 0 0, .int .i64 0, .int .i64 0] 74)).iter s 0) := bnew (bnew (bnew (Below.refl w.heap.size w) (.cells #[.slice none 0 0] 25)) (.cells #[.int .i64 0, .slice none 0 0, .int .i64 0, .int .i64 0] 74)) (.stringIter s 0)
    have k1 : (((w.alloc (.cells #[.slice none 0 0] 25)).alloc (.cells #[.int .i64 0, .slice none 0 0, .int .i64 0, .int .i64 0] 74)).iter s 0).heap[w.heap.size + 2]? = some (Obj.stringIter s 0) := by
      have h := World.iter_heap ((w.alloc (.cells #[.slice none 0 0] 25)).alloc (.cells #[.int .i64 0, .slice none 0 0, .int .i64 0, .int .i64 0] 74)) s 0
      simp only [World.size_alloc] at h
      exact h
    have r1 : RdrAt (((w.alloc (.cells #[.slice none 0 0] 25)).alloc (.cells #[.int .i64 0, .slice none 0 0, .int .i64 0, .int .i64 0] 74)).iter s 0) (w.heap.size + 1) (w.heap.size + 1) ((0 : Nat) : Int) (.slice none 0 0) [] 0 0 := by
      refine ⟨Nat.le_refl _, ?_, ⟨by show 0 * 40 ≤ _; omega, fun _ => .slice none 0 0, World.ownsRow_nil _ _ _ _, fun j hj => absurd (show j < 0 from hj) (Nat.not_lt_zero _), fun i j _ hj => absurd (show j < 0 from hj) (Nat.not_lt_zero _)⟩⟩
      have h := blk_alloc (blk_new (w.alloc (.cells #[.slice none 0 0] 25)) #[.int .i64 0, .slice none 0 0, .int .i64 0, .int .i64 0] 74) (.stringIter s 0)
      simp only [World.size_alloc] at h
      exact h
    have p1 : (((w.alloc (.cells #[.slice none 0 0] 25)).alloc (.cells #[.int .i64 0, .slice none 0 0, .int .i64 0, .int .i64 0] 74)).iter s 0).heap[w.heap.size]? = some (.cells #[.slice none 0 0] 25 (0, 0)) := blk_alloc (blk_alloc (blk_new w #[.slice none 0 0] 25) (.cells #[.int .i64 0, .slice none 0 0, .int .i64 0, .int .i64 0] 74)) (.stringIter s 0)
    have hz1 : (((w.alloc (.cells #[.slice none 0 0] 25)).alloc (.cells #[.int .i64 0, .slice none 0 0, .int .i64 0, .int .i64 0] 74)).iter s 0).heap.size = w.heap.size + 3 := by
      have h : (((w.alloc (.cells #[.slice none 0 0] 25)).alloc (.cells #[.int .i64 0, .slice none 0 0, .int .i64 0, .int .i64 0] 74)).iter s 0).heap.size = ((w.alloc (.cells #[.slice none 0 0] 25)).alloc (.cells #[.int .i64 0, .slice none 0 0, .int .i64 0, .int .i64 0] 74)).heap.size + 1 := World.size_alloc _ _
      rw [h, World.size_alloc, World.size_alloc]
    have P1 := Lib.hid p1
    have R1 := Lib.hid r1
    have K1 := Lib.hid k1
    clear p1 r1 k1 hlong
    go_enter Tryd.func21, Tryd.ntmps21
    go_wp2_with fail
    generalize ((w.alloc _).alloc _).iter s 0 = w1 at *
    go_loopw [6, 7] (fun b cm wr => ∃ (p : Nat) (st : Gst) (v : Value) (q bi : Int) (cb : Bool), b = .int .i64 bi ∧ cm = .bool cb ∧ p ≤ s.size ∧ Hid (GOk st) ∧ Hid (PInv s st p bi cb) ∧ Hid (RdrAt wr (w.heap.size + 1) (w.heap.size + 1) st.want v st.ts 0 q) ∧ Hid (wr.heap[w.heap.size + 2]? = some (Obj.stringIter s p)) ∧ Below (w.heap.size + 1) w1 wr) (fun _ _ wr => s.size - wr.iterPos (w.heap.size + 2))
    case atStart => exact ⟨0, ⟨0, []⟩, .slice none 0 0, 0, -1, false, rfl, rfl, Nat.zero_le _, Lib.hid gok_zero, Lib.hid (Or.inr (Or.inl ⟨rfl, rfl, rfl⟩)), R1, K1, Below.refl _ _⟩
    case round =>
      obtain ⟨p, st, v, q, bi, cb, rfl, rfl, hp, HG, HI, HR, HKI, hb⟩ := hrel
      obtain ⟨W1, e1⟩ : ∃ W1 : World, W1 = wr := ⟨_, rfl⟩
      subst e1
      by_cases hlt : p < s.size
      · by_cases hasc : s[p].toNat < 128
        · have hnx := fun ty => Lib.run_next_ascii_at (P := Tryd.prog) W1 (w.heap.size + 2) s p ty HKI.out hlt hasc
          have R2 := Lib.hid (iter_rdr HR.out HKI.out (p + 1))
          have K2 := Lib.hid (Lib.iterAt_heap W1 (w.heap.size + 2) s p (p + 1) HKI.out)
          have hb2 := Lib.below_iterAt hb (show w.heap.size + 1 ≤ w.heap.size + 2 by omega) s (p + 1)
          have hms : s.size - World.iterPos (W1.iterAt (w.heap.size + 2) s (p + 1)) (w.heap.size + 2) < s.size - W1.iterPos (w.heap.size + 2) := by
            have e1 : World.iterPos (W1.iterAt (w.heap.size + 2) s (p + 1)) (w.heap.size + 2) = p + 1 := by unfold World.iterPos; rw [K2.out]
            have e2 : W1.iterPos (w.heap.size + 2) = p := by unfold World.iterPos; rw [HKI.out]
            omega
          cases cb
          · have HW := Lib.hid (wordByte_any s[p].toNat (W1.iterAt (w.heap.size + 2) s (p + 1)))
            have hbi : bi = -1 ∨ ∃ k : Nat, bi = k ∧ k < p := by
              rcases HI.out with ⟨h, _⟩ | ⟨_, h, _⟩ | ⟨_, k, h, h2, _⟩
              · cases h
              · exact Or.inl h
              · exact Or.inr ⟨k, h, h2⟩
            cases hw : wordI s[p].toNat
            · have hsw : (((s[p].toNat : Nat) : Int) == 32) = true ∨ (((s[p].toNat : Nat) : Int) == 32) = false ∧ (((s[p].toNat : Nat) : Int) == 9) = true ∨ (((s[p].toNat : Nat) : Int) == 32) = false ∧ (((s[p].toNat : Nat) : Int) == 9) = false ∧ (((s[p].toNat : Nat) : Int) == 10) = true ∨ (((s[p].toNat : Nat) : Int) == 32) = false ∧ (((s[p].toNat : Nat) : Int) == 9) = false ∧ (((s[p].toNat : Nat) : Int) == 10) = false ∧ (((s[p].toNat : Nat) : Int) == 13) = true ∨ (((s[p].toNat : Nat) : Int) == 32) = false ∧ (((s[p].toNat : Nat) : Int) == 9) = false ∧ (((s[p].toNat : Nat) : Int) == 10) = false ∧ (((s[p].toNat : Nat) : Int) == 13) = false ∧ (((s[p].toNat : Nat) : Int) == 35) = true ∨ (((s[p].toNat : Nat) : Int) == 32) = false ∧ (((s[p].toNat : Nat) : Int) == 9) = false ∧ (((s[p].toNat : Nat) : Int) == 10) = false ∧ (((s[p].toNat : Nat) : Int) == 13) = false ∧ (((s[p].toNat : Nat) : Int) == 35) = false := by
                simp only [beq_eq_false_iff_ne, beq_iff_eq]
                omega
              rcases hbi with rfl | ⟨k, rfl, hk⟩
              · have HI3 : Hid (gfin s ⟨0, []⟩ (cutFrom s 0) = gfin s st (cutFrom s p)) := by
                  rcases HI.out with ⟨h, _⟩ | ⟨_, _, h⟩ | ⟨_, k, h, _⟩
                  · cases h
                  · exact Lib.hid h
                  · omega
                have E2 := Lib.hid (err_cells P1.out hb2)
                obtain ⟨y0, y1, y2, y3⟩ := R2.out.cells
                go_wp2_with fail
                refine HW.out.mono ?_
                rintro e w3 ⟨rfl, rfl⟩
                rw [hw]
                rcases hsw with h1 | ⟨h1, h2⟩ | ⟨h1, h2, h3⟩ | ⟨h1, h2, h3, h4⟩ | ⟨h1, h2, h3, h4, h5⟩ | ⟨h1, h2, h3, h4, h5⟩
                iterate 4
                  · go_wp2_with fail
                    refine ⟨⟨p + 1, st, v, q, -1, false, rfl, rfl, hlt, HG, Lib.hid (Or.inr (Or.inl ⟨rfl, rfl, by
                      rw [HI3.out, cut_blank hlt]
                      simp only [blankI, Bool.or_eq_true, beq_iff_eq]
                      try simp only [beq_iff_eq] at h1
                      try simp only [beq_iff_eq] at h2
                      try simp only [beq_iff_eq] at h3
                      try simp only [beq_iff_eq] at h4
                      omega⟩)), R2, K2, hb2⟩, hms⟩
                · go_wp2_with fail
                  refine ⟨⟨p + 1, st, v, q, -1, true, rfl, rfl, hlt, HG, Lib.hid (Or.inl ⟨rfl, rfl, by
                    rw [HI3.out, cut_note hlt (by rw [beq_iff_eq] at h5; omega)]⟩), R2, K2, hb2⟩, hms⟩
                · have HM : Hid (gfin s ⟨0, []⟩ (cutFrom s 0) = gfin s st (⟨p, p + 1, false⟩ :: cutFrom s (p + 1))) := by
                    refine Lib.hid ?_
                    rw [HI3.out, cut_mark hlt ?_ ?_ hw]
                    · simp only [beq_eq_false_iff_ne] at h1 h2 h3 h4
                      simp only [blankI, Bool.or_eq_false_iff, beq_eq_false_iff_ne]
                      omega
                    · simp only [beq_eq_false_iff_ne] at h5
                      omega
                  have HGM : Hid (gstep s st ⟨p, p + 1, false⟩ = gmark st s[p].toNat) := by
                    refine Lib.hid ?_
                    rw [gstep_mark rfl]
                    exact congrArg (gmark st) (byteAt_eq hlt)
                  go_wp2_with fail
                  refine (mark_any (w.heap.size + 1) (w.heap.size + 1) st.want s[p].toNat q p v st.ts _ R2.out).mono ?_
                  rintro e w5 ⟨rfl, hs5, ho⟩
                  have ho : Outc w5 (w.heap.size + 1) (w.heap.size + 1) (gmark st s[p].toNat) q p := ho
                  have hb5 := hb2.trans hs5.1
                  have K5 := Lib.hid (hs5.2 _ _ _ K2.out)
                  have hms5 : s.size - World.iterPos w5 (w.heap.size + 2) < s.size - W1.iterPos (w.heap.size + 2) := by
                    have e1 : World.iterPos w5 (w.heap.size + 2) = p + 1 := by unfold World.iterPos; rw [K5.out]
                    have e2 : W1.iterPos (w.heap.size + 2) = p := by unfold World.iterPos; rw [HKI.out]
                    omega
                  have E5 := Lib.hid (err_cells P1.out hb5)
                  rcases ho with ⟨hg0, v5, h5⟩ | ⟨hg0, want5, v5, ts5, h5⟩
                  · have HG5 := Lib.hid (gmark_gok HG.out hg0)
                    have HI5 : Hid (gfin s ⟨0, []⟩ (cutFrom s 0) = gfin s (gmark st s[p].toNat).2 (cutFrom s (p + 1))) := by
                      refine Lib.hid ?_
                      rw [HM.out]
                      exact gfin_ok (by rw [HGM.out]; exact Prod.ext hg0 rfl)
                    generalize gmark st s[p].toNat = gm at *
                    obtain ⟨y0, y1, y2, y3⟩ := h5.cells
                    have R5 := Lib.hid h5
                    clear h5
                    go_wp2_with fail
                    exact ⟨⟨p + 1, gm.2, v5, q, -1, false, rfl, rfl, hlt, HG5, Lib.hid (Or.inr (Or.inl ⟨rfl, rfl, HI5.out⟩)), R5, K5, hb5⟩, hms5⟩
                  · have HP5 : Hid (parseRes s = ⟨(gmark st s[p].toNat).1, p, []⟩) := by
                      refine Lib.hid ?_
                      rw [HP.out, HM.out]
                      exact gfin_bad (st' := (gmark st s[p].toNat).2) (by rw [HGM.out]) hg0
                    generalize gmark st s[p].toNat = gm at *
                    obtain ⟨y0, y1, y2, y3⟩ := h5.cells
                    have z2 := blk_cell (j := 2) (blk_other (p := ⟨w.heap.size, 0, none⟩) h5.heap (show w.heap.size ≠ w.heap.size + 1 by omega) (.slice none 0 0)) rfl
                    have z3 := blk_cell (j := 3) (blk_other (p := ⟨w.heap.size, 0, none⟩) h5.heap (show w.heap.size ≠ w.heap.size + 1 by omega) (.slice none 0 0)) rfl
                    have e0 := blk_cell (j := 0) E5.out rfl
                    have ef := blk_free E5.out 0
                    have e1 : ((w5.setCell ⟨w.heap.size, 0, none⟩ (.slice none 0 0)).drew).cell? ⟨w.heap.size, 0, none⟩ = some (.slice none 0 0) := blk_cell (blk_set E5.out 0 (.slice none 0 0)) rfl
                    have hbE : Below w.heap.size w ((w5.setCell ⟨w.heap.size, 0, none⟩ (.slice none 0 0)).drew) := ((hb1.trans (hb5.mono (Nat.le_succ _))).setCell (Nat.le_refl _) _).drew
                    clear h5
                    go_wp2_with fail
                    go_region
                    go_wp2_with fail
                    refine bodyPost_ret (v := .tuple #[.agg #[.slice none 0 0], .int .i64 gm.1, .int .i64 p]) ?_ rfl ?_
                    · simp [results, Tryd.results21, go_sem, e1]
                    · exact ps_bad (p := p) HP5.out hbE
              · have HI3 : Hid (gfin s ⟨0, []⟩ (cutFrom s 0) = gfin s st (⟨k, p, true⟩ :: cutFrom s p)) := by
                  rcases HI.out with ⟨h, _⟩ | ⟨_, h, _⟩ | ⟨_, k', h, _, h2⟩
                  · cases h
                  · omega
                  · obtain rfl : k = k' := by omega
                    rw [skipW_off hlt hw] at h2
                    exact Lib.hid h2
                have HGS := Lib.hid (gstep_word (s := s) (st := st) (p := ⟨k, p, true⟩) rfl)
                go_wp2_with fail
                refine HW.out.mono ?_
                rintro e w3 ⟨rfl, rfl⟩
                rw [hw]
                go_wp2_with fail
                refine (word_any (w.heap.size + 1) (w.heap.size + 1) st HG.out q k v (s.extract k p) _ R2.out (extract_size hk (Nat.le_of_lt hlt)) (by have := hb2.size; omega) (kw_below HK.out hb1 hb2)).mono ?_
                rintro e w3 ⟨rfl, hs3, ho⟩
                have hb3 := hb2.trans hs3.1
                have K3 := Lib.hid (hs3.2 _ _ _ K2.out)
                have hms3 : s.size - World.iterPos w3 (w.heap.size + 2) < s.size - W1.iterPos (w.heap.size + 2) := by
                  have e1 : World.iterPos w3 (w.heap.size + 2) = p + 1 := by unfold World.iterPos; rw [K3.out]
                  have e2 : W1.iterPos (w.heap.size + 2) = p := by unfold World.iterPos; rw [HKI.out]
                  omega
                have E3 := Lib.hid (err_cells P1.out hb3)
                rcases ho with ⟨hg0, v3, h3⟩ | ⟨hg0, want3, v3, ts3, h3⟩
                · have HG3 := Lib.hid (gword_gok HG.out hg0)
                  have HI4 : Hid (gfin s ⟨0, []⟩ (cutFrom s 0) = gfin s (gword st (s.extract k p)).2 (cutFrom s p)) := by
                    refine Lib.hid ?_
                    rw [HI3.out]
                    exact gfin_ok (by rw [HGS.out]; exact Prod.ext hg0 rfl)
                  generalize gword st (s.extract k p) = gr at *
                  obtain ⟨y0, y1, y2, y3⟩ := h3.cells
                  have R3 := Lib.hid h3
                  clear h3
                  rcases hsw with h1 | ⟨h1, h2⟩ | ⟨h1, h2, h3⟩ | ⟨h1, h2, h3, h4⟩ | ⟨h1, h2, h3, h4, h5⟩ | ⟨h1, h2, h3, h4, h5⟩
                  iterate 4
                    · go_wp2_with fail
                      refine ⟨⟨p + 1, gr.2, v3, q, -1, false, rfl, rfl, hlt, HG3, Lib.hid (Or.inr (Or.inl ⟨rfl, rfl, by
                        rw [HI4.out, cut_blank hlt]
                        simp only [blankI, Bool.or_eq_true, beq_iff_eq]
                        try simp only [beq_iff_eq] at h1
                        try simp only [beq_iff_eq] at h2
                        try simp only [beq_iff_eq] at h3
                        try simp only [beq_iff_eq] at h4
                        omega⟩)), R3, K3, hb3⟩, hms3⟩
                  · go_wp2_with fail
                    refine ⟨⟨p + 1, gr.2, v3, q, -1, true, rfl, rfl, hlt, HG3, Lib.hid (Or.inl ⟨rfl, rfl, by
                      rw [HI4.out, cut_note hlt (by rw [beq_iff_eq] at h5; omega)]⟩), R3, K3, hb3⟩, hms3⟩
                  · have HM : Hid (gfin s ⟨0, []⟩ (cutFrom s 0) = gfin s gr.2 (⟨p, p + 1, false⟩ :: cutFrom s (p + 1))) := by
                      refine Lib.hid ?_
                      rw [HI4.out, cut_mark hlt ?_ ?_ hw]
                      · simp only [beq_eq_false_iff_ne] at h1 h2 h3 h4
                        simp only [blankI, Bool.or_eq_false_iff, beq_eq_false_iff_ne]
                        omega
                      · simp only [beq_eq_false_iff_ne] at h5
                        omega
                    have HGM : Hid (gstep s gr.2 ⟨p, p + 1, false⟩ = gmark gr.2 s[p].toNat) := by
                      refine Lib.hid ?_
                      rw [gstep_mark rfl]
                      exact congrArg (gmark gr.2) (byteAt_eq hlt)
                    go_wp2_with fail
                    refine (mark_any (w.heap.size + 1) (w.heap.size + 1) gr.2.want s[p].toNat q p v3 gr.2.ts _ R3.out).mono ?_
                    rintro e w5 ⟨rfl, hs5, ho⟩
                    have ho : Outc w5 (w.heap.size + 1) (w.heap.size + 1) (gmark gr.2 s[p].toNat) q p := ho
                    have hb5 := hb3.trans hs5.1
                    have K5 := Lib.hid (hs5.2 _ _ _ K3.out)
                    have hms5 : s.size - World.iterPos w5 (w.heap.size + 2) < s.size - W1.iterPos (w.heap.size + 2) := by
                      have e1 : World.iterPos w5 (w.heap.size + 2) = p + 1 := by unfold World.iterPos; rw [K5.out]
                      have e2 : W1.iterPos (w.heap.size + 2) = p := by unfold World.iterPos; rw [HKI.out]
                      omega
                    have E5 := Lib.hid (err_cells P1.out hb5)
                    rcases ho with ⟨hg0, v5, h5⟩ | ⟨hg0, want5, v5, ts5, h5⟩
                    · have HG5 := Lib.hid (gmark_gok HG3.out hg0)
                      have HI5 : Hid (gfin s ⟨0, []⟩ (cutFrom s 0) = gfin s (gmark gr.2 s[p].toNat).2 (cutFrom s (p + 1))) := by
                        refine Lib.hid ?_
                        rw [HM.out]
                        exact gfin_ok (by rw [HGM.out]; exact Prod.ext hg0 rfl)
                      generalize gmark gr.2 s[p].toNat = gm at *
                      obtain ⟨y0, y1, y2, y3⟩ := h5.cells
                      have R5 := Lib.hid h5
                      clear h5
                      go_wp2_with fail
                      exact ⟨⟨p + 1, gm.2, v5, q, -1, false, rfl, rfl, hlt, HG5, Lib.hid (Or.inr (Or.inl ⟨rfl, rfl, HI5.out⟩)), R5, K5, hb5⟩, hms5⟩
                    · have HP5 : Hid (parseRes s = ⟨(gmark gr.2 s[p].toNat).1, p, []⟩) := by
                        refine Lib.hid ?_
                        rw [HP.out, HM.out]
                        exact gfin_bad (st' := (gmark gr.2 s[p].toNat).2) (by rw [HGM.out]) hg0
                      generalize gmark gr.2 s[p].toNat = gm at *
                      obtain ⟨y0, y1, y2, y3⟩ := h5.cells
                      have z2 := blk_cell (j := 2) (blk_other (p := ⟨w.heap.size, 0, none⟩) h5.heap (show w.heap.size ≠ w.heap.size + 1 by omega) (.slice none 0 0)) rfl
                      have z3 := blk_cell (j := 3) (blk_other (p := ⟨w.heap.size, 0, none⟩) h5.heap (show w.heap.size ≠ w.heap.size + 1 by omega) (.slice none 0 0)) rfl
                      have e0 := blk_cell (j := 0) E5.out rfl
                      have ef := blk_free E5.out 0
                      have e1 : ((w5.setCell ⟨w.heap.size, 0, none⟩ (.slice none 0 0)).drew).cell? ⟨w.heap.size, 0, none⟩ = some (.slice none 0 0) := blk_cell (blk_set E5.out 0 (.slice none 0 0)) rfl
                      have hbE : Below w.heap.size w ((w5.setCell ⟨w.heap.size, 0, none⟩ (.slice none 0 0)).drew) := ((hb1.trans (hb5.mono (Nat.le_succ _))).setCell (Nat.le_refl _) _).drew
                      clear h5
                      go_wp2_with fail
                      go_region
                      go_wp2_with fail
                      refine bodyPost_ret (v := .tuple #[.agg #[.slice none 0 0], .int .i64 gm.1, .int .i64 p]) ?_ rfl ?_
                      · simp [results, Tryd.results21, go_sem, e1]
                      · exact ps_bad (p := p) HP5.out hbE
                · have HP4 : Hid (parseRes s = ⟨(gword st (s.extract k p)).1, k, []⟩) := by
                    refine Lib.hid ?_
                    rw [HP.out, HI3.out]
                    exact gfin_bad (st' := (gword st (s.extract k p)).2) (by rw [HGS.out]) hg0
                  generalize gword st (s.extract k p) = gr at *
                  obtain ⟨y0, y1, y2, y3⟩ := h3.cells
                  have z2 := blk_cell (j := 2) (blk_other (p := ⟨w.heap.size, 0, none⟩) h3.heap (show w.heap.size ≠ w.heap.size + 1 by omega) (.slice none 0 0)) rfl
                  have z3 := blk_cell (j := 3) (blk_other (p := ⟨w.heap.size, 0, none⟩) h3.heap (show w.heap.size ≠ w.heap.size + 1 by omega) (.slice none 0 0)) rfl
                  have e0 := blk_cell (j := 0) E3.out rfl
                  have ef := blk_free E3.out 0
                  have e1 : ((w3.setCell ⟨w.heap.size, 0, none⟩ (.slice none 0 0)).drew).cell? ⟨w.heap.size, 0, none⟩ = some (.slice none 0 0) := blk_cell (blk_set E3.out 0 (.slice none 0 0)) rfl
                  have hbE : Below w.heap.size w ((w3.setCell ⟨w.heap.size, 0, none⟩ (.slice none 0 0)).drew) := ((hb1.trans (hb3.mono (Nat.le_succ _))).setCell (Nat.le_refl _) _).drew
                  clear h3
                  go_wp2_with fail
                  go_region
                  go_wp2_with fail
                  refine bodyPost_ret (v := .tuple #[.agg #[.slice none 0 0], .int .i64 gr.1, .int .i64 k]) ?_ rfl ?_
                  · simp [results, Tryd.results21, go_sem, e1]
                  · exact ps_bad (p := k) HP4.out hbE
            · rcases hbi with rfl | ⟨k, rfl, hk⟩
              · have HI2 : Hid (PInv s st (p + 1) p false) := by
                  refine Lib.hid (Or.inr (Or.inr ⟨rfl, p, rfl, Nat.lt_succ_self p, ?_⟩))
                  rcases HI.out with ⟨h, _⟩ | ⟨_, _, h⟩ | ⟨_, k, h, _⟩
                  · cases h
                  · rw [h, cut_word hlt hw]
                  · omega
                go_wp2_with fail
                refine HW.out.mono ?_
                rintro e w3 ⟨rfl, rfl⟩
                rw [hw]
                go_wp2_with fail
                exact ⟨⟨p + 1, st, v, q, _, false, rfl, rfl, hlt, HG, HI2, R2, K2, hb2⟩, hms⟩
              · have HI2 : Hid (PInv s st (p + 1) k false) := by
                  refine Lib.hid (Or.inr (Or.inr ⟨rfl, k, rfl, by omega, ?_⟩))
                  rcases HI.out with ⟨h, _⟩ | ⟨_, h, _⟩ | ⟨_, k', h, _, h2⟩
                  · cases h
                  · omega
                  · obtain rfl : k = k' := by omega
                    rw [h2, skipW_on hlt hw]
                go_wp2_with fail
                refine HW.out.mono ?_
                rintro e w3 ⟨rfl, rfl⟩
                rw [hw]
                go_wp2_with fail
                exact ⟨⟨p + 1, st, v, q, _, false, rfl, rfl, hlt, HG, HI2, R2, K2, hb2⟩, hms⟩
          · have HI2 : Hid (PInv s st (p + 1) bi (((s[p].toNat : Int) != 10))) := by
              rcases HI.out with ⟨_, rfl, h⟩ | ⟨h, _⟩ | ⟨h, _⟩
              · by_cases h10 : s[p].toNat = 10
                · refine Lib.hid (Or.inr (Or.inl ⟨by rw [h10]; rfl, rfl, ?_⟩))
                  rw [h, skipC_off hlt h10, cut_blank hlt (by rw [h10]; rfl)]
                · refine Lib.hid (Or.inl ⟨by rw [bne_iff_ne]; omega, rfl, ?_⟩)
                  rw [h, skipC_on hlt h10]
              · cases h
              · cases h
            go_wp2_with fail
            exact ⟨⟨p + 1, st, v, q, bi, _, rfl, rfl, hlt, HG, HI2, R2, K2, hb2⟩, hms⟩
        · have hge : 128 ≤ s[p].toNat := by omega
          obtain ⟨hd1, hd2⟩ := decode_high s p hlt hge
          obtain ⟨hd4, hd5⟩ := decode_bytes s p hlt hge
          have hnb : blankI s[p].toNat = false := by
            simp only [blankI, Bool.or_eq_false_iff, beq_eq_false_iff_ne]
            omega
          have hn35 : s[p].toNat ≠ 35 := by omega
          have hnw : wordI s[p].toNat = false := wordI_high (by omega)
          have hw : wordI (Utf8.decode s p).1 = false := wordI_high (by omega)
          have hnx := fun ty => Lib.run_next_any_at (P := Tryd.prog) W1 (w.heap.size + 2) s p ty HKI.out hlt
          have R2 := Lib.hid (iter_rdr HR.out HKI.out (p + (Utf8.decode s p).2))
          have K2 := Lib.hid (Lib.iterAt_heap W1 (w.heap.size + 2) s p (p + (Utf8.decode s p).2) HKI.out)
          have hb2 := Lib.below_iterAt hb (show w.heap.size + 1 ≤ w.heap.size + 2 by omega) s (p + (Utf8.decode s p).2)
          have hms : s.size - World.iterPos (W1.iterAt (w.heap.size + 2) s (p + (Utf8.decode s p).2)) (w.heap.size + 2) < s.size - W1.iterPos (w.heap.size + 2) := by
            have e1 : World.iterPos (W1.iterAt (w.heap.size + 2) s (p + (Utf8.decode s p).2)) (w.heap.size + 2) = p + (Utf8.decode s p).2 := by unfold World.iterPos; rw [K2.out]
            have e2 : W1.iterPos (w.heap.size + 2) = p := by unfold World.iterPos; rw [HKI.out]
            omega
          cases cb
          · have HW := Lib.hid (wordByte_any ((Utf8.decode s p).1 : Nat) (W1.iterAt (w.heap.size + 2) s (p + (Utf8.decode s p).2)))
            have hbi : bi = -1 ∨ ∃ k : Nat, bi = k ∧ k < p := by
              rcases HI.out with ⟨h, _⟩ | ⟨_, h, _⟩ | ⟨_, k, h, h2, _⟩
              · cases h
              · exact Or.inl h
              · exact Or.inr ⟨k, h, h2⟩
            have h1 : ((((Utf8.decode s p).1 : Nat) : Int) == 32) = false := by rw [beq_eq_false_iff_ne]; omega
            have h2 : ((((Utf8.decode s p).1 : Nat) : Int) == 9) = false := by rw [beq_eq_false_iff_ne]; omega
            have h3 : ((((Utf8.decode s p).1 : Nat) : Int) == 10) = false := by rw [beq_eq_false_iff_ne]; omega
            have h4 : ((((Utf8.decode s p).1 : Nat) : Int) == 13) = false := by rw [beq_eq_false_iff_ne]; omega
            have h5 : ((((Utf8.decode s p).1 : Nat) : Int) == 35) = false := by rw [beq_eq_false_iff_ne]; omega
            rcases hbi with rfl | ⟨k, rfl, hk⟩
            · have HI3 : Hid (gfin s ⟨0, []⟩ (cutFrom s 0) = gfin s st (cutFrom s p)) := by
                rcases HI.out with ⟨h, _⟩ | ⟨_, _, h⟩ | ⟨_, k, h, _⟩
                · cases h
                · exact Lib.hid h
                · omega
              have E2 := Lib.hid (err_cells P1.out hb2)
              obtain ⟨y0, y1, y2, y3⟩ := R2.out.cells
              go_wp2_with fail
              refine HW.out.mono ?_
              rintro e w3 ⟨rfl, rfl⟩
              rw [hw]
              have HP5 : Hid (parseRes s = ⟨21, p, []⟩) := by
                refine Lib.hid ?_
                rw [HP.out, HI3.out, cut_mark hlt hnb hn35 hnw]
                refine gfin_bad (st' := st) (c := 21) ?_ (by decide)
                rw [gstep_mark rfl]
                show gmark st (byteAt s p) = _
                rw [byteAt_eq hlt]
                exact gmark_bad (by omega) (by omega) (by omega)
              have HGM : Hid (gmark st (Utf8.decode s p).1 = (21, st)) := Lib.hid (gmark_bad (by omega) (by omega) (by omega))
              go_wp2_with fail
              refine (mark_any (w.heap.size + 1) (w.heap.size + 1) st.want (Utf8.decode s p).1 q p v st.ts _ R2.out).mono ?_
              rintro e w5 ⟨rfl, hs5, ho⟩
              have ho : Outc w5 (w.heap.size + 1) (w.heap.size + 1) (gmark st (Utf8.decode s p).1) q p := ho
              have hb5 := hb2.trans hs5.1
              have E5 := Lib.hid (err_cells P1.out hb5)
              rw [HGM.out] at ho
              rcases ho with ⟨hg0, v5, h5⟩ | ⟨hg0, want5, v5, ts5, h5⟩
              · cases hg0
              · have h5 : RdrAt w5 (w.heap.size + 1) (w.heap.size + 1) want5 v5 ts5 21 p := h5
                obtain ⟨y0, y1, y2, y3⟩ := h5.cells
                have z2 := blk_cell (j := 2) (blk_other (p := ⟨w.heap.size, 0, none⟩) h5.heap (show w.heap.size ≠ w.heap.size + 1 by omega) (.slice none 0 0)) rfl
                have z3 := blk_cell (j := 3) (blk_other (p := ⟨w.heap.size, 0, none⟩) h5.heap (show w.heap.size ≠ w.heap.size + 1 by omega) (.slice none 0 0)) rfl
                have e0 := blk_cell (j := 0) E5.out rfl
                have ef := blk_free E5.out 0
                have e1 : ((w5.setCell ⟨w.heap.size, 0, none⟩ (.slice none 0 0)).drew).cell? ⟨w.heap.size, 0, none⟩ = some (.slice none 0 0) := blk_cell (blk_set E5.out 0 (.slice none 0 0)) rfl
                have hbE : Below w.heap.size w ((w5.setCell ⟨w.heap.size, 0, none⟩ (.slice none 0 0)).drew) := ((hb1.trans (hb5.mono (Nat.le_succ _))).setCell (Nat.le_refl _) _).drew
                clear h5
                go_wp2_with fail
                go_region
                go_wp2_with fail
                refine bodyPost_ret (v := .tuple #[.agg #[.slice none 0 0], .int .i64 21, .int .i64 p]) ?_ rfl ?_
                · simp [results, Tryd.results21, go_sem, e1]
                · exact ps_bad (p := p) HP5.out hbE
            · have HI3 : Hid (gfin s ⟨0, []⟩ (cutFrom s 0) = gfin s st (⟨k, p, true⟩ :: cutFrom s p)) := by
                rcases HI.out with ⟨h, _⟩ | ⟨_, h, _⟩ | ⟨_, k', h, _, h2⟩
                · cases h
                · omega
                · obtain rfl : k = k' := by omega
                  rw [skipW_off hlt hnw] at h2
                  exact Lib.hid h2
              have HGS := Lib.hid (gstep_word (s := s) (st := st) (p := ⟨k, p, true⟩) rfl)
              go_wp2_with fail
              refine HW.out.mono ?_
              rintro e w3 ⟨rfl, rfl⟩
              rw [hw]
              go_wp2_with fail
              refine (word_any (w.heap.size + 1) (w.heap.size + 1) st HG.out q k v (s.extract k p) _ R2.out (extract_size hk (Nat.le_of_lt hlt)) (by have := hb2.size; omega) (kw_below HK.out hb1 hb2)).mono ?_
              rintro e w3 ⟨rfl, hs3, ho⟩
              have hb3 := hb2.trans hs3.1
              have K3 := Lib.hid (hs3.2 _ _ _ K2.out)
              have hms3 : s.size - World.iterPos w3 (w.heap.size + 2) < s.size - W1.iterPos (w.heap.size + 2) := by
                have e1 : World.iterPos w3 (w.heap.size + 2) = p + (Utf8.decode s p).2 := by unfold World.iterPos; rw [K3.out]
                have e2 : W1.iterPos (w.heap.size + 2) = p := by unfold World.iterPos; rw [HKI.out]
                omega
              have E3 := Lib.hid (err_cells P1.out hb3)
              rcases ho with ⟨hg0, v3, h3⟩ | ⟨hg0, want3, v3, ts3, h3⟩
              · have HG3 := Lib.hid (gword_gok HG.out hg0)
                have HI4 : Hid (gfin s ⟨0, []⟩ (cutFrom s 0) = gfin s (gword st (s.extract k p)).2 (cutFrom s p)) := by
                  refine Lib.hid ?_
                  rw [HI3.out]
                  exact gfin_ok (by rw [HGS.out]; exact Prod.ext hg0 rfl)
                generalize gword st (s.extract k p) = gr at *
                obtain ⟨y0, y1, y2, y3⟩ := h3.cells
                have R3 := Lib.hid h3
                clear h3
                have HP5 : Hid (parseRes s = ⟨21, p, []⟩) := by
                  refine Lib.hid ?_
                  rw [HP.out, HI4.out, cut_mark hlt hnb hn35 hnw]
                  refine gfin_bad (st' := gr.2) (c := 21) ?_ (by decide)
                  rw [gstep_mark rfl]
                  show gmark gr.2 (byteAt s p) = _
                  rw [byteAt_eq hlt]
                  exact gmark_bad (by omega) (by omega) (by omega)
                have HGM : Hid (gmark gr.2 (Utf8.decode s p).1 = (21, gr.2)) := Lib.hid (gmark_bad (by omega) (by omega) (by omega))
                go_wp2_with fail
                refine (mark_any (w.heap.size + 1) (w.heap.size + 1) gr.2.want (Utf8.decode s p).1 q p v3 gr.2.ts _ R3.out).mono ?_
                rintro e w5 ⟨rfl, hs5, ho⟩
                have ho : Outc w5 (w.heap.size + 1) (w.heap.size + 1) (gmark gr.2 (Utf8.decode s p).1) q p := ho
                have hb5 := hb3.trans hs5.1
                have E5 := Lib.hid (err_cells P1.out hb5)
                rw [HGM.out] at ho
                rcases ho with ⟨hg0, v5, h5⟩ | ⟨hg0, want5, v5, ts5, h5⟩
                · cases hg0
                · have h5 : RdrAt w5 (w.heap.size + 1) (w.heap.size + 1) want5 v5 ts5 21 p := h5
                  obtain ⟨y0, y1, y2, y3⟩ := h5.cells
                  have z2 := blk_cell (j := 2) (blk_other (p := ⟨w.heap.size, 0, none⟩) h5.heap (show w.heap.size ≠ w.heap.size + 1 by omega) (.slice none 0 0)) rfl
                  have z3 := blk_cell (j := 3) (blk_other (p := ⟨w.heap.size, 0, none⟩) h5.heap (show w.heap.size ≠ w.heap.size + 1 by omega) (.slice none 0 0)) rfl
                  have e0 := blk_cell (j := 0) E5.out rfl
                  have ef := blk_free E5.out 0
                  have e1 : ((w5.setCell ⟨w.heap.size, 0, none⟩ (.slice none 0 0)).drew).cell? ⟨w.heap.size, 0, none⟩ = some (.slice none 0 0) := blk_cell (blk_set E5.out 0 (.slice none 0 0)) rfl
                  have hbE : Below w.heap.size w ((w5.setCell ⟨w.heap.size, 0, none⟩ (.slice none 0 0)).drew) := ((hb1.trans (hb5.mono (Nat.le_succ _))).setCell (Nat.le_refl _) _).drew
                  clear h5
                  go_wp2_with fail
                  go_region
                  go_wp2_with fail
                  refine bodyPost_ret (v := .tuple #[.agg #[.slice none 0 0], .int .i64 21, .int .i64 p]) ?_ rfl ?_
                  · simp [results, Tryd.results21, go_sem, e1]
                  · exact ps_bad (p := p) HP5.out hbE
              · have HP4 : Hid (parseRes s = ⟨(gword st (s.extract k p)).1, k, []⟩) := by
                  refine Lib.hid ?_
                  rw [HP.out, HI3.out]
                  exact gfin_bad (st' := (gword st (s.extract k p)).2) (by rw [HGS.out]) hg0
                generalize gword st (s.extract k p) = gr at *
                obtain ⟨y0, y1, y2, y3⟩ := h3.cells
                have z2 := blk_cell (j := 2) (blk_other (p := ⟨w.heap.size, 0, none⟩) h3.heap (show w.heap.size ≠ w.heap.size + 1 by omega) (.slice none 0 0)) rfl
                have z3 := blk_cell (j := 3) (blk_other (p := ⟨w.heap.size, 0, none⟩) h3.heap (show w.heap.size ≠ w.heap.size + 1 by omega) (.slice none 0 0)) rfl
                have e0 := blk_cell (j := 0) E3.out rfl
                have ef := blk_free E3.out 0
                have e1 : ((w3.setCell ⟨w.heap.size, 0, none⟩ (.slice none 0 0)).drew).cell? ⟨w.heap.size, 0, none⟩ = some (.slice none 0 0) := blk_cell (blk_set E3.out 0 (.slice none 0 0)) rfl
                have hbE : Below w.heap.size w ((w3.setCell ⟨w.heap.size, 0, none⟩ (.slice none 0 0)).drew) := ((hb1.trans (hb3.mono (Nat.le_succ _))).setCell (Nat.le_refl _) _).drew
                clear h3
                go_wp2_with fail
                go_region
                go_wp2_with fail
                refine bodyPost_ret (v := .tuple #[.agg #[.slice none 0 0], .int .i64 gr.1, .int .i64 k]) ?_ rfl ?_
                · simp [results, Tryd.results21, go_sem, e1]
                · exact ps_bad (p := k) HP4.out hbE
          · have HI2 : Hid (PInv s st (p + (Utf8.decode s p).2) bi (((((Utf8.decode s p).1 : Nat) : Int) != 10))) := by
              rcases HI.out with ⟨_, rfl, h⟩ | ⟨h, _⟩ | ⟨h, _⟩
              · refine Lib.hid (Or.inl ⟨by rw [bne_iff_ne]; omega, rfl, ?_⟩)
                rw [h]
                refine congrArg (fun k => gfin s st (cutFrom s k)) (skipC_run _ fun i hi1 hi2 => ?_)
                obtain ⟨hs, hb⟩ := hd5 i hi1 hi2
                exact ⟨hs, by omega⟩
              · cases h
              · cases h
            go_wp2_with fail
            exact ⟨⟨p + (Utf8.decode s p).2, st, v, q, bi, _, rfl, rfl, hd4, HG, HI2, R2, K2, hb2⟩, hms⟩
      · obtain rfl : p = s.size := by omega
        have hnx := fun ty => Lib.run_next_end_at (P := Tryd.prog) W1 (w.heap.size + 2) s s.size ty HKI.out hlt
        have hcase : (bi = -1 ∧ gfin s ⟨0, []⟩ (cutFrom s 0) = gend s st) ∨ ∃ k : Nat, bi = k ∧ k < s.size ∧ gfin s ⟨0, []⟩ (cutFrom s 0) = gfin s st [⟨k, s.size, true⟩] := by
          rcases HI.out with ⟨_, h1, h⟩ | ⟨_, h1, h⟩ | ⟨_, k, h1, h2, h⟩
          · refine Or.inl ⟨h1, ?_⟩
            rw [h, skipC_out hlt, cut_end hlt, gfin]
          · refine Or.inl ⟨h1, ?_⟩
            rw [h, cut_end hlt, gfin]
          · refine Or.inr ⟨k, h1, h2, ?_⟩
            rw [h, skipW_out hlt, cut_end hlt]
        rcases hcase with ⟨rfl, HEQ⟩ | ⟨k, rfl, hk, HEQ⟩
        · have HE : Hid (parseRes s = gend s st) := Lib.hid (HP.out.trans HEQ)
          clear HEQ
          have E6 := Lib.hid (err_cells P1.out hb)
          obtain ⟨A6, c6, hv6⟩ := HR.out.own.shape
          have hv6 : v = .slice A6 st.ts.length c6 := hv6
          subst hv6
          obtain ⟨y0, y1, y2, y3⟩ := HR.out.cells
          by_cases hwt : st.want = 0
          · by_cases hln : st.ts.length = 0
            · have HP6 : Hid (parseRes s = ⟨23, s.size, []⟩) := by
                refine Lib.hid ?_
                rw [HE.out]
                unfold gend
                rw [if_neg (by omega), if_pos hln]
              have hw0 : ((st.want : Int) != 0) = false := by rw [hwt]; rfl
              have hl0 : ((st.ts.length : Int) == 0) = true := by rw [hln]; rfl
              go_wp2_with fail
              refine (refuse_any (w.heap.size + 1) (w.heap.size + 1) st.want 0 q 23 s.size _ _ _ HR.out).mono ?_
              rintro e w7 ⟨rfl, hs7, h7⟩
              have hb7 := hb.trans hs7.1
              have E7 := Lib.hid (err_cells P1.out hb7)
              obtain ⟨y0, y1, y2, y3⟩ := h7.cells
              have z2 := blk_cell (j := 2) (blk_other (p := ⟨w.heap.size, 0, none⟩) h7.heap (show w.heap.size ≠ w.heap.size + 1 by omega) (.slice none 0 0)) rfl
              have z3 := blk_cell (j := 3) (blk_other (p := ⟨w.heap.size, 0, none⟩) h7.heap (show w.heap.size ≠ w.heap.size + 1 by omega) (.slice none 0 0)) rfl
              have e0 := blk_cell (j := 0) E7.out rfl
              have ef := blk_free E7.out 0
              have e1 : ((w7.setCell ⟨w.heap.size, 0, none⟩ (.slice none 0 0)).drew).cell? ⟨w.heap.size, 0, none⟩ = some (.slice none 0 0) := blk_cell (blk_set E7.out 0 (.slice none 0 0)) rfl
              have hbE : Below w.heap.size w ((w7.setCell ⟨w.heap.size, 0, none⟩ (.slice none 0 0)).drew) := ((hb1.trans (hb7.mono (Nat.le_succ _))).setCell (Nat.le_refl _) _).drew
              clear h7
              go_wp2_with fail
              go_region
              go_wp2_with fail
              refine bodyPost_ret (v := .tuple #[.agg #[.slice none 0 0], .int .i64 23, .int .i64 s.size]) ?_ rfl ?_
              · simp [results, Tryd.results21, go_sem, e1]
              · exact ps_bad (p := s.size) HP6.out hbE
            · have HP6 : Hid (parseRes s = ⟨0, 0, st.ts⟩) := by
                refine Lib.hid ?_
                rw [HE.out]
                unfold gend
                rw [if_neg (by omega), if_neg hln]
              have hw0 : ((st.want : Int) != 0) = false := by rw [hwt]; rfl
              have hl0 : ((st.ts.length : Int) == 0) = false := by rw [beq_eq_false_iff_ne]; omega
              have e0 := blk_cell (j := 0) E6.out rfl
              have ef := blk_free E6.out 0
              have e1 : (W1.setCell ⟨w.heap.size, 0, none⟩ (.slice A6 st.ts.length c6)).cell? ⟨w.heap.size, 0, none⟩ = some (.slice A6 st.ts.length c6) := blk_cell (blk_set E6.out 0 _) rfl
              have hbE : Below w.heap.size w (W1.setCell ⟨w.heap.size, 0, none⟩ (.slice A6 st.ts.length c6)) := (hb1.trans (hb.mono (Nat.le_succ _))).setCell (Nat.le_refl _) _
              have OW := Lib.hid (typ_out E6.out (HR.out.own.mono (Nat.le_succ _)) (.slice A6 st.ts.length c6))
              go_wp2_with fail
              refine bodyPost_ret (v := .tuple #[.agg #[.slice A6 st.ts.length c6], .int .i64 0, .int .i64 0]) ?_ rfl ?_
              · simp [results, Tryd.results21, go_sem, e1]
              · exact ps_ok HP6.out rfl hbE OW.out
          · have HP6 : Hid (parseRes s = ⟨21, s.size, []⟩) := by
              refine Lib.hid ?_
              rw [HE.out]
              unfold gend
              rw [if_pos hwt]
            have hw0 : ((st.want : Int) != 0) = true := by rw [bne_iff_ne]; omega
            go_wp2_with fail
            refine (refuse_any (w.heap.size + 1) (w.heap.size + 1) st.want 0 q 21 s.size _ _ _ HR.out).mono ?_
            rintro e w7 ⟨rfl, hs7, h7⟩
            have hb7 := hb.trans hs7.1
            have E7 := Lib.hid (err_cells P1.out hb7)
            obtain ⟨y0, y1, y2, y3⟩ := h7.cells
            have z2 := blk_cell (j := 2) (blk_other (p := ⟨w.heap.size, 0, none⟩) h7.heap (show w.heap.size ≠ w.heap.size + 1 by omega) (.slice none 0 0)) rfl
            have z3 := blk_cell (j := 3) (blk_other (p := ⟨w.heap.size, 0, none⟩) h7.heap (show w.heap.size ≠ w.heap.size + 1 by omega) (.slice none 0 0)) rfl
            have e0 := blk_cell (j := 0) E7.out rfl
            have ef := blk_free E7.out 0
            have e1 : ((w7.setCell ⟨w.heap.size, 0, none⟩ (.slice none 0 0)).drew).cell? ⟨w.heap.size, 0, none⟩ = some (.slice none 0 0) := blk_cell (blk_set E7.out 0 (.slice none 0 0)) rfl
            have hbE : Below w.heap.size w ((w7.setCell ⟨w.heap.size, 0, none⟩ (.slice none 0 0)).drew) := ((hb1.trans (hb7.mono (Nat.le_succ _))).setCell (Nat.le_refl _) _).drew
            clear h7
            go_wp2_with fail
            go_region
            go_wp2_with fail
            refine bodyPost_ret (v := .tuple #[.agg #[.slice none 0 0], .int .i64 21, .int .i64 s.size]) ?_ rfl ?_
            · simp [results, Tryd.results21, go_sem, e1]
            · exact ps_bad (p := s.size) HP6.out hbE
        · have HEH := Lib.hid HEQ
          clear HEQ
          have HGS := Lib.hid (gstep_word (s := s) (st := st) (p := ⟨k, s.size, true⟩) rfl)
          go_wp2_with fail
          refine (word_any (w.heap.size + 1) (w.heap.size + 1) st HG.out q k v (s.extract k s.size) _ HR.out (extract_size hk (Nat.le_refl _)) (by have := hb.size; omega) (kw_below HK.out hb1 hb)).mono ?_
          rintro e w3 ⟨rfl, hs3, ho⟩
          have hb3 := hb.trans hs3.1
          have E3 := Lib.hid (err_cells P1.out hb3)
          rcases ho with ⟨hg0, v3, h3⟩ | ⟨hg0, want3, v3, ts3, h3⟩
          · have HI4 : Hid (parseRes s = gend s (gword st (s.extract k s.size)).2) := by
              refine Lib.hid ?_
              rw [HP.out, HEH.out, gfin_ok (st' := (gword st (s.extract k s.size)).2) (by rw [HGS.out]; exact Prod.ext hg0 rfl), gfin]
            generalize gword st (s.extract k s.size) = gr at *
            have R3 := Lib.hid h3
            clear h3
            have E6 := Lib.hid (err_cells P1.out hb3)
            obtain ⟨A6, c6, hv6⟩ := R3.out.own.shape
            have hv6 : v3 = .slice A6 gr.2.ts.length c6 := hv6
            subst hv6
            obtain ⟨y0, y1, y2, y3⟩ := R3.out.cells
            by_cases hwt : gr.2.want = 0
            · by_cases hln : gr.2.ts.length = 0
              · have HP6 : Hid (parseRes s = ⟨23, s.size, []⟩) := by
                  refine Lib.hid ?_
                  rw [HI4.out]
                  unfold gend
                  rw [if_neg (by omega), if_pos hln]
                have hw0 : ((gr.2.want : Int) != 0) = false := by rw [hwt]; rfl
                have hl0 : ((gr.2.ts.length : Int) == 0) = true := by rw [hln]; rfl
                go_wp2_with fail
                refine (refuse_any (w.heap.size + 1) (w.heap.size + 1) gr.2.want 0 q 23 s.size _ _ _ R3.out).mono ?_
                rintro e w7 ⟨rfl, hs7, h7⟩
                have hb7 := hb3.trans hs7.1
                have E7 := Lib.hid (err_cells P1.out hb7)
                obtain ⟨y0, y1, y2, y3⟩ := h7.cells
                have z2 := blk_cell (j := 2) (blk_other (p := ⟨w.heap.size, 0, none⟩) h7.heap (show w.heap.size ≠ w.heap.size + 1 by omega) (.slice none 0 0)) rfl
                have z3 := blk_cell (j := 3) (blk_other (p := ⟨w.heap.size, 0, none⟩) h7.heap (show w.heap.size ≠ w.heap.size + 1 by omega) (.slice none 0 0)) rfl
                have e0 := blk_cell (j := 0) E7.out rfl
                have ef := blk_free E7.out 0
                have e1 : ((w7.setCell ⟨w.heap.size, 0, none⟩ (.slice none 0 0)).drew).cell? ⟨w.heap.size, 0, none⟩ = some (.slice none 0 0) := blk_cell (blk_set E7.out 0 (.slice none 0 0)) rfl
                have hbE : Below w.heap.size w ((w7.setCell ⟨w.heap.size, 0, none⟩ (.slice none 0 0)).drew) := ((hb1.trans (hb7.mono (Nat.le_succ _))).setCell (Nat.le_refl _) _).drew
                clear h7
                go_wp2_with fail
                go_region
                go_wp2_with fail
                refine bodyPost_ret (v := .tuple #[.agg #[.slice none 0 0], .int .i64 23, .int .i64 s.size]) ?_ rfl ?_
                · simp [results, Tryd.results21, go_sem, e1]
                · exact ps_bad (p := s.size) HP6.out hbE
              · have HP6 : Hid (parseRes s = ⟨0, 0, gr.2.ts⟩) := by
                  refine Lib.hid ?_
                  rw [HI4.out]
                  unfold gend
                  rw [if_neg (by omega), if_neg hln]
                have hw0 : ((gr.2.want : Int) != 0) = false := by rw [hwt]; rfl
                have hl0 : ((gr.2.ts.length : Int) == 0) = false := by rw [beq_eq_false_iff_ne]; omega
                have e0 := blk_cell (j := 0) E6.out rfl
                have ef := blk_free E6.out 0
                have e1 : (w3.setCell ⟨w.heap.size, 0, none⟩ (.slice A6 gr.2.ts.length c6)).cell? ⟨w.heap.size, 0, none⟩ = some (.slice A6 gr.2.ts.length c6) := blk_cell (blk_set E6.out 0 _) rfl
                have hbE : Below w.heap.size w (w3.setCell ⟨w.heap.size, 0, none⟩ (.slice A6 gr.2.ts.length c6)) := (hb1.trans (hb3.mono (Nat.le_succ _))).setCell (Nat.le_refl _) _
                have OW := Lib.hid (typ_out E6.out (R3.out.own.mono (Nat.le_succ _)) (.slice A6 gr.2.ts.length c6))
                go_wp2_with fail
                refine bodyPost_ret (v := .tuple #[.agg #[.slice A6 gr.2.ts.length c6], .int .i64 0, .int .i64 0]) ?_ rfl ?_
                · simp [results, Tryd.results21, go_sem, e1]
                · exact ps_ok HP6.out rfl hbE OW.out
            · have HP6 : Hid (parseRes s = ⟨21, s.size, []⟩) := by
                refine Lib.hid ?_
                rw [HI4.out]
                unfold gend
                rw [if_pos hwt]
              have hw0 : ((gr.2.want : Int) != 0) = true := by rw [bne_iff_ne]; omega
              go_wp2_with fail
              refine (refuse_any (w.heap.size + 1) (w.heap.size + 1) gr.2.want 0 q 21 s.size _ _ _ R3.out).mono ?_
              rintro e w7 ⟨rfl, hs7, h7⟩
              have hb7 := hb3.trans hs7.1
              have E7 := Lib.hid (err_cells P1.out hb7)
              obtain ⟨y0, y1, y2, y3⟩ := h7.cells
              have z2 := blk_cell (j := 2) (blk_other (p := ⟨w.heap.size, 0, none⟩) h7.heap (show w.heap.size ≠ w.heap.size + 1 by omega) (.slice none 0 0)) rfl
              have z3 := blk_cell (j := 3) (blk_other (p := ⟨w.heap.size, 0, none⟩) h7.heap (show w.heap.size ≠ w.heap.size + 1 by omega) (.slice none 0 0)) rfl
              have e0 := blk_cell (j := 0) E7.out rfl
              have ef := blk_free E7.out 0
              have e1 : ((w7.setCell ⟨w.heap.size, 0, none⟩ (.slice none 0 0)).drew).cell? ⟨w.heap.size, 0, none⟩ = some (.slice none 0 0) := blk_cell (blk_set E7.out 0 (.slice none 0 0)) rfl
              have hbE : Below w.heap.size w ((w7.setCell ⟨w.heap.size, 0, none⟩ (.slice none 0 0)).drew) := ((hb1.trans (hb7.mono (Nat.le_succ _))).setCell (Nat.le_refl _) _).drew
              clear h7
              go_wp2_with fail
              go_region
              go_wp2_with fail
              refine bodyPost_ret (v := .tuple #[.agg #[.slice none 0 0], .int .i64 21, .int .i64 s.size]) ?_ rfl ?_
              · simp [results, Tryd.results21, go_sem, e1]
              · exact ps_bad (p := s.size) HP6.out hbE
          · have HP4 : Hid (parseRes s = ⟨(gword st (s.extract k s.size)).1, k, []⟩) := by
              refine Lib.hid ?_
              rw [HP.out, HEH.out]
              exact gfin_bad (st' := (gword st (s.extract k s.size)).2) (by rw [HGS.out]) hg0
            generalize gword st (s.extract k s.size) = gr at *
            obtain ⟨y0, y1, y2, y3⟩ := h3.cells
            have z2 := blk_cell (j := 2) (blk_other (p := ⟨w.heap.size, 0, none⟩) h3.heap (show w.heap.size ≠ w.heap.size + 1 by omega) (.slice none 0 0)) rfl
            have z3 := blk_cell (j := 3) (blk_other (p := ⟨w.heap.size, 0, none⟩) h3.heap (show w.heap.size ≠ w.heap.size + 1 by omega) (.slice none 0 0)) rfl
            have e0 := blk_cell (j := 0) E3.out rfl
            have ef := blk_free E3.out 0
            have e1 : ((w3.setCell ⟨w.heap.size, 0, none⟩ (.slice none 0 0)).drew).cell? ⟨w.heap.size, 0, none⟩ = some (.slice none 0 0) := blk_cell (blk_set E3.out 0 (.slice none 0 0)) rfl
            have hbE : Below w.heap.size w ((w3.setCell ⟨w.heap.size, 0, none⟩ (.slice none 0 0)).drew) := ((hb1.trans (hb3.mono (Nat.le_succ _))).setCell (Nat.le_refl _) _).drew
            clear h3
            go_wp2_with fail
            go_region
            go_wp2_with fail
            refine bodyPost_ret (v := .tuple #[.agg #[.slice none 0 0], .int .i64 gr.1, .int .i64 k]) ?_ rfl ?_
            · simp [results, Tryd.results21, go_sem, e1]
            · exact ps_bad (p := k) HP4.out hbE
end Go.Proofs.YtppeonlpocdhkaaDoor

/-
  The walks of the reader's attr and word.
-/
import Derived.Test.YtppeonlpocdhkaaDoorReaderName
import Derived.Test.YtppeonlpocdhkaaDoorRd
import Derived.Deep.QuietTactic
import Derived.BigQuiet
import Derived.Outline
set_option linter.unusedSimpArgs false
set_option linter.unusedVariables false
namespace Go.Proofs.YtppeonlpocdhkaaDoor
open Go.RowKit Go.ChangeShapes Go.WideShapes Go.ChangeAt Go.Deep Go.Joins
section
variable {l : List ByteArray} {wd : ByteArray}
theorem gattr_digit (h0 : 0 < wd.size) (h : digI (wd[0].toNat) = true) : gattr l wd = 21 := by unfold gattr; rw [head_at h0, if_pos h]
theorem gattr_many (h0 : 0 < wd.size) (h : digI (wd[0].toNat) = false) (h1 : l.length = 8) : gattr l wd = 24 := by unfold gattr; rw [head_at h0, if_neg (by rw [h]; simp), if_pos h1]
theorem gattr_name (h0 : 0 < wd.size) (h : digI (wd[0].toNat) = false) (h1 : ¬ l.length = 8) (h2 : nameB wd = false ∨ (wd.toList == [116, 115]) = true) : gattr l wd = 22 := by unfold gattr; rw [head_at h0, if_neg (by rw [h]; simp), if_neg h1, if_pos h2]
theorem gattr_twice (h0 : 0 < wd.size) (h : digI (wd[0].toNat) = false) (h1 : ¬ l.length = 8) (h2 : nameB wd = true) (h3 : (wd.toList == [116, 115]) = false) (h4 : inB l.length (fun j => l.getD j .empty) wd = true) : gattr l wd = 25 := by
  unfold gattr; rw [head_at h0, if_neg (by rw [h]; simp), if_neg h1, if_neg (by rw [h2, h3]; simp), if_pos h4]
theorem gattr_ok (h0 : 0 < wd.size) (h : digI (wd[0].toNat) = false) (h1 : ¬ l.length = 8) (h2 : nameB wd = true) (h3 : (wd.toList == [116, 115]) = false) (h4 : inB l.length (fun j => l.getD j .empty) wd = false) : gattr l wd = 0 := by
  unfold gattr; rw [head_at h0, if_neg (by rw [h]; simp), if_neg h1, if_neg (by rw [h2, h3]; simp), if_neg (by rw [h4]; simp)]
theorem gword_attr {ts : TList} {nm : ByteArray} {wt : Nat} (hw : wt = 3 ∨ wt = 4) : gword ⟨wt, ts ++ [(nm, l)]⟩ wd = (gattr l wd, ⟨5, ts ++ [(nm, l ++ [wd])]⟩) := by
  rcases hw with rfl | rfl
  · show (gattr (lastA (ts ++ [(nm, l)])) wd, (⟨5, pushA (ts ++ [(nm, l)]) wd⟩ : Gst)) = _
    rw [lastA_snoc, pushA_snoc]
  · show (gattr (lastA (ts ++ [(nm, l)])) wd, (⟨5, pushA (ts ++ [(nm, l)]) wd⟩ : Gst)) = _
    rw [lastA_snoc, pushA_snoc]
end
theorem inB_ext {n : Nat} {f f' : Nat → ByteArray} {wd : ByteArray} (h : ∀ j, j < n → f j = f' j) : inB n f wd = inB n f' wd := by
  unfold inB
  rw [Bool.eq_iff_iff, List.any_eq_true, List.any_eq_true]
  constructor
  · rintro ⟨k, hk, h1⟩
    exact ⟨k, hk, by rw [← h k (by simpa using hk)]; exact h1⟩
  · rintro ⟨k, hk, h1⟩
    exact ⟨k, hk, by rw [h k (by simpa using hk)]; exact h1⟩
theorem typ_heap {w : World} {B n c g : Nat} {S : Sch} (h : TypOwn w B (.slice (some ⟨g, 0, none⟩) n c) S) : ∃ x : Array Value × Nat × Nat, w.heap[g]? = some (.cells x.1 40 x.2) := by
  obtain ⟨_, sl, k1, _⟩ := h
  obtain ⟨cs, fz, h1⟩ := Lib.ownsRow_kind k1 g rfl
  exact ⟨(cs, fz), h1⟩
theorem typ_block {w : World} {B n c g R : Nat} {S : Sch} {cs : Array Value} {fr : Nat × Nat} (h : TypOwn w B (.slice (some ⟨g, 0, none⟩) n c) S) (hR : w.heap[R]? = some (.cells cs 74 fr)) : B ≤ g ∧ g < w.heap.size ∧ g ≠ R := by
  obtain ⟨x, hx⟩ := typ_heap h
  obtain ⟨_, sl, k1, _⟩ := h
  obtain ⟨h1, h2⟩ := k1.lt g rfl
  refine ⟨h1, h2, fun e => ?_⟩
  subst e
  rw [hx] at hR
  injection hR with hR
  injection hR with _ hR
  exact absurd hR (by decide)
theorem RdrAt.grow2 {w w1 : World} {B R n sz : Nat} {want code pos : Int} {v tv : Value} {ts : TList} {xs : List Value} (h : RdrAt w B R want v ts code pos) (hg : w.grownBy w1 tv.ownBlock) (ho : w.ownsRow B 9 sz tv n xs) :
    w1.heap[R]? = some (.cells #[.int .i64 want, v, .int .i64 code, .int .i64 pos] 74 (0, 0)) := by
  refine blk_grown h.heap hg (fun e => ?_)
  obtain ⟨c, fz, h1⟩ := Lib.ownsRow_kind ho R e
  rw [h.heap] at h1
  injection h1 with h1
  injection h1 with _ h1
  exact absurd h1 (by decide)
theorem RdrAt.pushed {w : World} {B R g c : Nat} {want code pos : Int} {ts : TList} {nm : ByteArray} {l : List ByteArray} {wd : ByteArray} (hh : w.heap[R]? = some (.cells #[.int .i64 want, .slice (some ⟨g, 0, none⟩) (ts.length + 1) c, .int .i64 code, .int .i64 pos] 74 (0, 0)))
    (hn : TypOwn w B (.slice (some ⟨g, 0, none⟩) (schOf (ts ++ [(nm, l)])).n c) ⟨(schOf (ts ++ [(nm, l)])).n, (schOf (ts ++ [(nm, l)])).nm, upd (schOf (ts ++ [(nm, l)])).ln ts.length (l.length + 1), upd (schOf (ts ++ [(nm, l)])).atr ts.length (upd ((schOf (ts ++ [(nm, l)])).atr ts.length) l.length wd)⟩) (hB : B ≤ R) :
    RdrAt (w.setCell ⟨R, 0, none⟩ (.int .i64 5)) B R 5 (.slice (some ⟨g, 0, none⟩) (ts.length + 1) c) (ts ++ [(nm, l ++ [wd])]) code pos := by
  refine ⟨hB, blk_set hh 0 _, ?_⟩
  have h := (hn.congr (schOf_push ts nm l wd)).blk hh 0 (.int .i64 5)
  rw [(schOf_last ts nm l).2.1] at h
  exact h
set_option maxRecDepth 100000 in
set_option maxHeartbeats 4000000 in
theorem attr_any (B R wt : Nat) (hwt : wt = 3 ∨ wt = 4) (pos p : Int) (v : Value) (ts : TList) (nm : ByteArray) (l : List ByteArray) (wd : ByteArray) (w : World) (h : RdrAt w B R wt v (ts ++ [(nm, l)]) 0 pos) (h0 : 0 < wd.size) (hl : ts.length ≤ 16) (hl8 : l.length ≤ 8) (hB : B ≤ w.heap.size) {tt : TypeId} {fr : Nat × Nat} (hkw : w.heap[0]? = some (.cells kwArr tt fr)) :
    Calls Tryd.prog 64 #[.pointer (some ⟨R, 0, none⟩), .string wd, .int .i64 p] w fun e w' => e = .returned (.tuple #[]) ∧ Stp B w w' ∧ Outc w' B R (gword ⟨wt, ts ++ [(nm, l)]⟩ wd) pos p := by
  obtain ⟨i0, hi0, hy0, hy1, hy2⟩ := info_parts infoStr
  rw [gword_attr hwt]
  obtain ⟨hS1, hS2, hS3⟩ := schOf_last ts nm l
  obtain ⟨g, c, rfl⟩ : ∃ g c, v = .slice (some ⟨g, 0, none⟩) (ts.length + 1) c := by
    obtain ⟨_, sl, k1, _⟩ := h.own
    obtain ⟨g, c, e, _⟩ := k1.form (by rw [hS2]; omega)
    exact ⟨g, c, by rw [e, hS2]⟩
  obtain ⟨x0, x1, x2, x3⟩ := h.cells
  have HR0 := Lib.hid h
  have HK0 := Lib.hid hkw
  clear h hkw
  go_enter Tryd.func64, Tryd.ntmps64
  go_wp2_with fail
  go_quiet (fail)
  have S2 := Lib.hid (show Stp B w (w.drewN nq) from ⟨bdrewN (Below.refl B w) nq, fun k s p h => h⟩)
  have HR := Lib.hid (show RdrAt (w.drewN nq) B R wt (.slice (some ⟨g, 0, none⟩) (ts.length + 1) c) (ts ++ [(nm, l)]) 0 pos from ⟨HR0.out.hB, HR0.out.heap, HR0.out.own⟩)
  have HK := Lib.hid (show (w.drewN nq).heap[0]? = _ from HK0.out)
  have hB : B ≤ (w.drewN nq).heap.size := hB
  clear x0 x1 x2 x3 HR0 HK0
  generalize w.drewN nq = w2 at *
  have hown : TypOwn w2 B (.slice (some ⟨g, 0, none⟩) (schOf (ts ++ [(nm, l)])).n c) (schOf (ts ++ [(nm, l)])) := by rw [hS2]; exact HR.out.own
  obtain ⟨tv, y1, y2, y3, y4, hpp⟩ := hown.push (j := ts.length) (by rw [hS2]; omega)
  rw [hS1] at y3
  obtain ⟨ta, tc, rfl, htc, hta⟩ := rowown_shape y3
  obtain ⟨x0, x1, x2, x3⟩ := HR.out.cells
  have f0 := blk_free HR.out.heap 0
  have HRD := Lib.hid (own_str (f := (schOf (ts ++ [(nm, l)])).atr ts.length) y3 (by omega))
  have HAT := Lib.hid hS3
  have HS1 := Lib.hid hS1
  have HS2 := Lib.hid hS2
  clear hown y3 hS1 hS2 hS3 hta y4 hpp
  by_cases hd : 48 ≤ wd[0].toNat ∧ wd[0].toNat ≤ 57
  · have HG := Lib.hid (gattr_digit (l := l) h0 (dig_iff.2 ⟨by omega, by omega⟩))
    obtain ⟨hd1, hd2⟩ := hd
    go_wp2_with fail
    refine (refuse_any B R wt 0 pos 21 p _ _ _ HR.out).mono ?_
    rintro e w3 ⟨rfl, hs3, h3⟩
    go_wp2_with fail
    go_end0
    exact ⟨rfl, S2.out.trans hs3, outc_bad HG.out (by decide) h3⟩
  · have hd0 : digI (wd[0].toNat) = false := dig_not (by omega)
    have HD := Lib.hid hd0
    have hd' : wd[0].toNat < 48 ∨ 57 < wd[0].toNat := by omega
    clear hd hd0
    by_cases h8 : l.length = 8
    · have HG := Lib.hid (gattr_many h0 HD.out h8)
      rcases hd' with hd | hd
      all_goals
        rw [h8] at y1
        go_wp2_with fail
        refine (refuse_any B R wt 0 pos 24 p _ _ _ HR.out).mono ?_
        rintro e w3 ⟨rfl, hs3, h3⟩
        go_wp2_with fail
        go_end0
        exact ⟨rfl, S2.out.trans hs3, outc_bad HG.out (by decide) h3⟩
    · have h8' : ((l.length : Int) == 8) = false := by rw [beq_eq_false_iff_ne]; omega
      have H8 := Lib.hid h8
      clear h8
      rcases hd' with hd | hd
      all_goals
        go_wp2_with fail
        refine (isName_any wd _ HK.out).mono ?_
        rintro e w3 ⟨rfl, hb3⟩
        have R3 := Lib.hid (HR.out.below hb3)
        have S3 := Lib.hid (Stp.of hb3 hB)
        obtain ⟨z0, z1, z2, z3⟩ := R3.out.cells
        have hb3s := hb3.size
        have Y1 := rd_later y1 hb3
        cases hn : nameB wd
        · have HG := Lib.hid (gattr_name h0 HD.out H8.out (Or.inl hn))
          clear hn
          go_wp2_with fail
          refine (refuse_any B R wt 0 pos 22 p _ _ _ R3.out).mono ?_
          rintro e w4 ⟨rfl, hs4, h4⟩
          go_wp2_with fail
          go_end0
          exact ⟨rfl, (S2.out.trans S3.out).trans hs4, outc_bad HG.out (by decide) h4⟩
        · have HN := Lib.hid hn
          clear hn
          cases hts : (wd.toList == [116, 115])
          · have HTS := Lib.hid hts
            go_wp2_with fail
            clear hts
            refine (placeOf_any ta l.length tc ((schOf (ts ++ [(nm, l)])).atr ts.length) wd _ (HRD.out.later hb3)).mono ?_
            rintro e w4 ⟨rfl, rfl⟩
            rcases inB_place (wd := wd) (n := l.length) (f := (schOf (ts ++ [(nm, l)])).atr ts.length) with ⟨hi, hp⟩ | ⟨hi, hp⟩
            · have HG := Lib.hid (gattr_twice h0 HD.out H8.out HN.out HTS.out (by rw [← hi]; exact inB_ext fun j _ => (HAT.out j).symm))
              clear hi
              generalize placeI l.length ((schOf (ts ++ [(nm, l)])).atr ts.length) wd = pl at *
              go_wp2_with fail
              refine (refuse_any B R wt 0 pos 25 p _ _ _ R3.out).mono ?_
              rintro e w5 ⟨rfl, hs5, h5⟩
              go_wp2_with fail
              go_end0
              exact ⟨rfl, (S2.out.trans S3.out).trans hs5, outc_bad HG.out (by decide) h5⟩
            · have HG := Lib.hid (gattr_ok h0 HD.out H8.out HN.out HTS.out (by rw [← hi]; exact inB_ext fun j _ => (HAT.out j).symm))
              clear hi
              rw [hp]
              have R5 := Lib.hid (R3.out.below (bnew (Below.refl _ _) (.cells #[.string wd] 9)))
              have S5 := Lib.hid ((S2.out.trans S3.out).trans (Stp.of (bnew (Below.refl w4.heap.size w4) (.cells #[.string wd] 9)) (by omega)))
              have hown5 : TypOwn (w4.alloc (.cells #[.string wd] 9)) B (.slice (some ⟨g, 0, none⟩) (schOf (ts ++ [(nm, l)])).n c) (schOf (ts ++ [(nm, l)])) := by rw [HS2.out]; exact R5.out.own
              obtain ⟨tv, q1, q2, q3, q4, hpush⟩ := hown5.push (j := ts.length) (by rw [HS2.out]; omega)
              rw [HS1.out] at q3 hpush
              have e5 : tv = .slice ta l.length tc := by
                have h := rd_later Y1 (bnew (Below.refl _ _) (.cells #[.string wd] 9))
                rw [q1] at h
                injection h
              subst e5
              obtain ⟨hgB, hgl, hgR⟩ := typ_block R5.out.own R5.out.heap
              have HO5 := Lib.hid q3
              have HP5 := Lib.hid hpush
              have HNE := Lib.hid q4
              have Q1 := Lib.hid q1
              have Q2 := Lib.hid q2
              have hB5 : B ≤ w4.heap.size + 1 := by omega
              clear hown5 hpush q1 q2 q3 q4
              go_wp2_with (at_builtin; go_loud (refine wpList_append_lies _ rfl _ _ _ rfl B 9 i0 _ 1 16 Tryd.underlying38 hi0 hy0 hy1 hy2 rfl (by omega) _ l.length (strCells ((schOf (ts ++ [(nm, l)])).atr ts.length) l.length) rfl HO5.out ⟨w4.heap.size, 0, none⟩ 1 1 [.string wd] rfl rfl (World.news_of_block (cs := #[.string wd]) (t := 9) (fr := (0, 0)) (heap_alloc_new w4 _)) (by simp [Value.oneCell']) (by omega) (by unfold maxLen; omega) (by omega) (by simp; omega) (w4.heap.size + 1) (by simp) ?_; intro gg gcap w6 hown6 hgrow hat hlt6; have R6 := Lib.hid (RdrAt.grow2 R5.out hgrow HO5.out); have t0 := blk_cell R6.out (j := 0) rfl; have u0 := blk_free R6.out 0; have q1 := (hgrow.cell_far ⟨g, ts.length * 2 + 1, none⟩ hgl (Ne.symm HNE.out)).trans Q1.out; have q2 := (hgrow.frozen_far ⟨g, ts.length * 2 + 1, none⟩ hgl (Ne.symm HNE.out)).trans Q2.out))
              all_goals
                have hat' : (Value.slice ta l.length tc).ownBlock = some gg ∨ (w4.alloc (.cells #[.string wd] 9)).heap.size ≤ gg := by
                  rcases hat with h | h
                  · exact Or.inl h
                  · right; simp; omega
                have SG := Lib.hid (Stp.grown hgrow HO5.out (by simp; omega))
                have hpsh := HP5.out w6 gg gcap wd (by omega) hown6 hgrow hat'
                have hk6 := (hgrow.block g hgl (Ne.symm HNE.out)).trans (typ_heap R5.out.own).choose_spec
                have hr6 := blk_other R6.out (p := ⟨g, ts.length * 2 + 1, none⟩) hgR (.slice (some ⟨gg, 0, none⟩) (l.length + 1) gcap)
                have RF := Lib.hid (RdrAt.pushed hr6 hpsh R3.out.hB)
                have SF := Lib.hid (((S5.out.trans SG.out).trans (Stp.set hk6 hgB (ts.length * 2 + 1) (.slice (some ⟨gg, 0, none⟩) (l.length + 1) gcap))).trans (Stp.set hr6 R3.out.hB 0 (.int .i64 5)))
                go_end0
                exact ⟨rfl, SF.out, outc_ok (show (gattr l wd, (⟨5, ts ++ [(nm, l ++ [wd])]⟩ : Gst)) = (0, ⟨5, ts ++ [(nm, l ++ [wd])]⟩) by rw [HG.out]) RF.out⟩
          · have HG := Lib.hid (gattr_name h0 HD.out H8.out (Or.inr hts))
            go_wp2_with fail
            clear hts
            refine (refuse_any B R wt 0 pos 22 p _ _ _ R3.out).mono ?_
            rintro e w4 ⟨rfl, hs4, h4⟩
            go_wp2_with fail
            go_end0
            exact ⟨rfl, (S2.out.trans S3.out).trans hs4, outc_bad HG.out (by decide) h4⟩
end Go.Proofs.YtppeonlpocdhkaaDoor

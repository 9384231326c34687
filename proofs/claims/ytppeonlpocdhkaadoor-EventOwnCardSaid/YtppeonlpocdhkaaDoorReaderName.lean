/-
  The walks of the reader's name and attr.
-/
import Derived.Test.YtppeonlpocdhkaaDoorReader
import Derived.Test.YtppeonlpocdhkaaDoorSchemaFns
import Derived.Deep.DrawnRows
set_option linter.unusedSimpArgs false
set_option linter.unusedVariables false
namespace Go.Proofs.YtppeonlpocdhkaaDoor
open Go.RowKit Go.ChangeShapes Go.WideShapes Go.ChangeAt Go.Deep Go.Joins
section
variable {ts : TList} {wd : ByteArray}
theorem gname_digit (h0 : 0 < wd.size) (h : digI (wd[0].toNat) = true) : gname ts wd = 21 := by unfold gname; rw [head_at h0, if_pos h]
theorem gname_name (h0 : 0 < wd.size) (h : digI (wd[0].toNat) = false) (h1 : nameB wd = false) : gname ts wd = 22 := by unfold gname; rw [head_at h0, if_neg (by rw [h]; simp), if_pos h1]
theorem gname_twice (h0 : 0 < wd.size) (h : digI (wd[0].toNat) = false) (h1 : nameB wd = true) (h2 : inB ts.length (nmOf ts) wd = true) : gname ts wd = 25 := by unfold gname; rw [head_at h0, if_neg (by rw [h]; simp), if_neg (by rw [h1]; simp), if_pos h2]
theorem gname_ok (h0 : 0 < wd.size) (h : digI (wd[0].toNat) = false) (h1 : nameB wd = true) (h2 : inB ts.length (nmOf ts) wd = false) : gname ts wd = 0 := by unfold gname; rw [head_at h0, if_neg (by rw [h]; simp), if_neg (by rw [h1]; simp), if_neg (by rw [h2]; simp)]
theorem inB_place {n : Nat} {f : Nat → ByteArray} : (inB n f wd = true ∧ 0 ≤ placeI n f wd) ∨ (inB n f wd = false ∧ placeI n f wd = -1) := by
  rcases firstI_or (fun k => (f k).toList == wd.toList) n with ⟨e, hn⟩ | ⟨j, hj, e, hp, _⟩
  · exact Or.inr ⟨inB_none hn, e⟩
  · exact Or.inl ⟨inB_hit hj hp, by show 0 ≤ firstI _ _; rw [e]; omega⟩
end
/-- The reader behind an append to its types. -/
theorem RdrAt.grow {w w1 : World} {B R : Nat} {want code pos : Int} {v : Value} {ts : TList} {n : Nat} {xs : List Value} {v' : Value} {S' : Sch} (h : RdrAt w B R want v ts code pos) (hg : w.grownBy w1 v.ownBlock) (ho : w.ownsRow B 40 2 v n xs)
    (hn : TypOwn w1 B v' S') : w1.heap[R]? = some (.cells #[.int .i64 want, v, .int .i64 code, .int .i64 pos] 74 (0, 0)) ∧ TypOwn w1 B v' S' := by
  refine ⟨blk_grown h.heap hg (fun e => ?_), hn⟩
  obtain ⟨c, fz, h1⟩ := Lib.ownsRow_kind ho R e
  rw [h.heap] at h1
  injection h1 with h1
  injection h1 with _ h1
  exact absurd h1 (by decide)
theorem Stp.grown {w w1 : World} {B n sz : Nat} {e : TypeId} {v : Value} {xs : List Value} (hg : w.grownBy w1 v.ownBlock) (ho : w.ownsRow B e sz v n xs) (hB : B ≤ w.heap.size) : Stp B w w1 := by
  refine ⟨below_grown (Below.refl B w) hg hB (fun x hx => (ho.lt x hx).1), fun k s p h => ?_⟩
  refine (hg.block k (Array.getElem?_eq_some_iff.1 h).1 (fun e => ?_)).trans h
  obtain ⟨c, fz, h1⟩ := Lib.ownsRow_kind ho k e.symm
  rw [h] at h1
  cases h1
/-- The reader behind a type's name. -/
theorem RdrAt.named {w : World} {B R : Nat} {want code pos : Int} {v v' : Value} {ts : TList} {wd : ByteArray} (hh : w.heap[R]? = some (.cells #[.int .i64 want, v, .int .i64 code, .int .i64 pos] 74 (0, 0)))
    (hn : TypOwn w B v' ⟨(schOf ts).n + 1, upd (schOf ts).nm (schOf ts).n wd, upd (schOf ts).ln (schOf ts).n 0, (schOf ts).atr⟩) (hB : B ≤ R) : RdrAt ((w.setCell ⟨R, 1, none⟩ v').setCell ⟨R, 0, none⟩ (.int .i64 2)) B R 2 v' (ts ++ [(wd, [])]) code pos :=
  ⟨hB, blk_set (blk_set hh 1 v') 0 _, ((TypOwn.blk hn hh 1 v').blk (blk_set hh 1 v') 0 _).congr (schOf_snoc ts wd)⟩
theorem typeOf_n {B : Nat} (A : Option Addr) (c : Nat) (ts : TList) (nm : ByteArray) (N : Nat) (w : World) (hN : ts.length = N) (h : TypOwn w B (.slice A N c) (schOf ts)) :
    Calls Tryd.prog 31 #[.agg #[.slice A N c], .string nm] w fun e w' => e = .returned (.int .i64 (placeI ts.length (nmOf ts) nm)) ∧ Below w.heap.size w w' := by
  subst hN
  exact typeOf_any A c (schOf ts) nm w (TypOwn.rd (S := schOf ts) h)
set_option maxRecDepth 100000 in
set_option maxHeartbeats 2000000 in
theorem name_any (B R : Nat) (pos p : Int) (v : Value) (ts : TList) (wd : ByteArray) (w : World) (h : RdrAt w B R 1 v ts 0 pos) (h0 : 0 < wd.size) (hl : ts.length ≤ 16) (hB : B ≤ w.heap.size) {tt : TypeId} {fr : Nat × Nat} (hkw : w.heap[0]? = some (.cells kwArr tt fr)) :
    Calls Tryd.prog 63 #[.pointer (some ⟨R, 0, none⟩), .string wd, .int .i64 p] w fun e w' => e = .returned (.tuple #[]) ∧ Stp B w w' ∧ Outc w' B R (gword ⟨1, ts⟩ wd) pos p := by
  obtain ⟨A, c, rfl⟩ := h.own.shape
  have h : RdrAt w B R 1 (.slice A ts.length c) ts 0 pos := h
  obtain ⟨x0, x1, x2, x3⟩ := h.cells
  have f0 := blk_free h.heap 0
  have f1 := blk_free h.heap 1
  have HR := Lib.hid h
  have HK := Lib.hid hkw
  clear h hkw
  obtain ⟨i1, hi1, hy0, hy1, hy2⟩ := info_parts infoType
  by_cases hd : 48 ≤ wd[0].toNat ∧ wd[0].toNat ≤ 57
  · have HG := Lib.hid (gname_digit (ts := ts) h0 (dig_iff.2 ⟨by omega, by omega⟩))
    obtain ⟨hd1, hd2⟩ := hd
    go_enter Tryd.func63, Tryd.ntmps63
    go_wp2_with fail
    refine (refuse_any B R 1 0 pos 21 p _ ts _ HR.out).mono ?_
    rintro e w3 ⟨rfl, hs3, h3⟩
    go_wp2_with fail
    go_end0
    exact ⟨rfl, hs3, outc_bad (show gname ts wd = 21 from HG.out) (by decide) h3⟩
  · have hd0 : digI (wd[0].toNat) = false := dig_not (by omega)
    have HD := Lib.hid hd0
    have hd' : wd[0].toNat < 48 ∨ 57 < wd[0].toNat := by omega
    clear hd hd0
    go_enter Tryd.func63, Tryd.ntmps63
    rcases hd' with hd | hd
    all_goals
      go_wp2_with fail
      refine (isName_any wd _ HK.out).mono ?_
      rintro e w3 ⟨rfl, hb3⟩
      have R3 := Lib.hid (HR.out.below hb3)
      have S3 := Lib.hid (Stp.of hb3 hB)
      obtain ⟨z0, z1, z2, z3⟩ := R3.out.cells
      cases hn : nameB wd
      · have HG := Lib.hid (gname_name (ts := ts) h0 HD.out hn)
        clear hn
        go_wp2_with fail
        refine (refuse_any B R 1 0 pos 22 p _ ts _ R3.out).mono ?_
        rintro e w4 ⟨rfl, hs4, h4⟩
        go_wp2_with fail
        go_end0
        exact ⟨rfl, S3.out.trans hs4, outc_bad (show gname ts wd = 22 from HG.out) (by decide) h4⟩
      · have HN := Lib.hid hn
        clear hn
        go_wp2_with fail
        refine (typeOf_n A c ts wd ts.length _ rfl R3.out.own).mono ?_
        rintro e w4 ⟨rfl, hb4⟩
        have R4 := Lib.hid (R3.out.below hb4)
        have S4 := Lib.hid (S3.out.trans (Stp.of hb4 (by have := hb3.size; omega)))
        clear z0 z1 z2 z3
        obtain ⟨z0, z1, z2, z3⟩ := R4.out.cells
        have g0 := blk_free R4.out.heap 0
        have g1 := blk_free R4.out.heap 1
        rcases inB_place (wd := wd) (n := ts.length) (f := nmOf ts) with ⟨hi, hp⟩ | ⟨hi, hp⟩
        · have HG := Lib.hid (gname_twice (ts := ts) h0 HD.out HN.out hi)
          clear hi
          have hp : 0 ≤ placeI ts.length (nmOf ts) wd := hp
          generalize placeI ts.length (nmOf ts) wd = pl at *
          go_wp2_with fail
          refine (refuse_any B R 1 0 pos 25 p _ ts _ R4.out).mono ?_
          rintro e w5 ⟨rfl, hs5, h5⟩
          go_wp2_with fail
          go_end0
          exact ⟨rfl, S4.out.trans hs5, outc_bad (show gname ts wd = 25 from HG.out) (by decide) h5⟩
        · have HG := Lib.hid (gname_ok (ts := ts) h0 HD.out HN.out hi)
          clear hi
          rw [hp]
          have R5 := Lib.hid (R4.out.below (bnew (Below.refl _ _) (.cells #[.string wd, .slice none 0 0] 40)))
          have S5 := Lib.hid (S4.out.trans (Stp.of (bnew (Below.refl w4.heap.size w4) (.cells #[.string wd, .slice none 0 0] 40)) (by have := hb3.size; have := hb4.size; omega)))
          obtain ⟨xs, hown, hsnoc⟩ := R5.out.own.snoc
          have HO5 := Lib.hid (show World.ownsRow _ B 40 2 (.slice A ts.length c) ts.length xs from hown)
          have HSN := Lib.hid hsnoc
          have hB5 : B ≤ w4.heap.size + 1 := by have := hb3.size; have := hb4.size; omega
          clear hown hsnoc
          go_wp2_with (at_builtin; go_loud (refine wpList_append_lies _ rfl _ _ _ rfl B 40 i1 _ 2 40 Tryd.underlying23 hi1 hy0 hy1 hy2 rfl (by omega) _ ts.length xs rfl HO5.out ⟨w4.heap.size, 0, none⟩ 1 1 [.string wd, .slice none 0 0] rfl rfl (World.news_of_block (cs := #[.string wd, .slice none 0 0]) (t := 40) (fr := (0, 0)) (heap_alloc_new w4 _)) (by simp [Value.oneCell']) (by omega) (by unfold maxLen; omega) (by omega) (by simp; omega) (w4.heap.size + 1) (by simp) ?_; intro gg gcap w6 hown6 hgrow hat hlt6; have R6 := Lib.hid (RdrAt.grow R5.out hgrow HO5.out (HSN.out w6 gg gcap wd (show (ts.length + 1) * 40 ≤ 140737488351232 by omega) hown6 hgrow)); have t0 := blk_cell R6.out.1 (j := 0) rfl; have t1 := blk_cell R6.out.1 (j := 1) rfl; have u0 := blk_free R6.out.1 0; have u1 := blk_free R6.out.1 1))
          have SG := Lib.hid (Stp.grown hgrow HO5.out (by simp; omega))
          have RF := Lib.hid (RdrAt.named R6.out.1 R6.out.2 R4.out.hB)
          have SF := Lib.hid (((S5.out.trans SG.out).trans (Stp.set R6.out.1 R4.out.hB 1 (.slice (some ⟨gg, 0, none⟩) (ts.length + 1) gcap))).trans (Stp.set (blk_set R6.out.1 1 (.slice (some ⟨gg, 0, none⟩) (ts.length + 1) gcap)) R4.out.hB 0 (.int .i64 2)))
          go_end0
          exact ⟨rfl, SF.out, outc_ok (show gword ⟨1, ts⟩ wd = (0, ⟨2, ts ++ [(wd, [])]⟩) by show (gname ts wd, _) = _; rw [HG.out]) RF.out⟩
end Go.Proofs.YtppeonlpocdhkaaDoor

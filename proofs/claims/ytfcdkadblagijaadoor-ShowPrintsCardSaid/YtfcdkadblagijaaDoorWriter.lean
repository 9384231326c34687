/-
  The writer of tokens in memory; the walks of add, full, enter, leave, mark, number, name, one, level.
-/
import Derived.Test.YtfcdkadblagijaaDoorTok
import Derived.Test.YtfcdkadblagijaaDoorBlk
import Derived.Laws.OwnMore
import Derived.OwnWalk
import Derived.Handy
import Derived.Deep.AppendLies
import Derived.Lib.OwnKind
set_option linter.unusedSimpArgs false
set_option linter.unusedVariables false
namespace Go.Proofs.YtfcdkadblagijaaDoor
open Go.RowKit Go.ChangeShapes Go.WideShapes Go.ChangeAt Go.Deep Go.Joins
theorem infoTok : (Tryd.prog.info? 62).map (fun i => (i.zero, i.size, i.bytes)) = some (some (.agg #[.int .i64 0, .string .empty, .int .i64 0, .int .i64 0]), 4, 40) := by kernel_rfl
/-- A token's cells. -/
def tkL (t : Tk) : List Value := [.int .i64 t.k, .string t.s, .int .i64 t.n, .int .i64 0]
def tkCells (L : List Tk) : List Value := L.flatMap tkL
theorem tkCells_append (L M : List Tk) : tkCells (L ++ M) = tkCells L ++ tkCells M := by simp [tkCells]
theorem tkCells_length (L : List Tk) : (tkCells L).length = L.length * 4 := by
  induction L with
  | nil => rfl
  | cons t L ih =>
    show (tkL t ++ tkCells L).length = _
    rw [List.length_append, ih]
    simp [tkL]
    omega
theorem tkCells_one (L : List Tk) : ∀ u ∈ tkCells L, u.oneCell' = true := by
  intro u hu
  obtain ⟨t, _, ht⟩ := List.mem_flatMap.1 hu
  simp [tkL] at ht
  rcases ht with rfl | rfl | rfl | rfl <;> rfl
theorem tkCells_at {L : List Tk} {j i : Nat} {t : Tk} (h : L[j]? = some t) (hi : i < 4) : (tkCells L)[j * 4 + i]? = (tkL t)[i]? := by
  induction L generalizing j with
  | nil => simp at h
  | cons x L ih =>
    show (tkL x ++ tkCells L)[j * 4 + i]? = _
    have hx : (tkL x).length = 4 := rfl
    cases j with
    | zero =>
      simp at h
      subst h
      rw [List.getElem?_append_left (by omega)]
      simp
    | succ j =>
      rw [List.getElem?_append_right (by omega), hx, show (j + 1) * 4 + i - 4 = j * 4 + i by omega]
      exact ih (by simpa using h)
/-- All below B stays, and all blocks but tokens and writers. -/
structure Stw (B : Nat) (w w' : World) : Prop where
  below : Below B w w'
  keep : ∀ (b : Nat) (cs : Array Value) (T : TypeId) (fr : Nat × Nat), w.heap[b]? = some (.cells cs T fr) → T ≠ 62 → T ≠ 53 → w'.heap[b]? = some (.cells cs T fr)
section
variable {B B' R : Nat} {w w' w'' w9 : World} {n sz : Nat} {v : Value} {xs : List Value} {o : Obj}
theorem Stw.refl (B : Nat) (w : World) : Stw B w w := ⟨Below.refl _ _, fun _ _ _ _ h _ _ => h⟩
theorem Stw.of (h : Below w.heap.size w w') (hB : B ≤ w.heap.size) : Stw B w w' := ⟨h.mono hB, fun b cs T fr hb _ _ => blk_below hb h⟩
theorem Stw.trans (h : Stw B w w') (h1 : Stw B w' w'') : Stw B w w'' := ⟨h.below.trans h1.below, fun b cs T fr hb h2 h3 => h1.keep b cs T fr (h.keep b cs T fr hb h2 h3) h2 h3⟩
theorem Stw.mono (h : Stw B w w') (hB : B' ≤ B) : Stw B' w w' := ⟨h.below.mono hB, h.keep⟩
theorem Stw.size (h : Stw B w w') : w.heap.size ≤ w'.heap.size := h.below.size
theorem Stw.alloc (h : Stw B w w') (hB : B ≤ w.heap.size) (o : Obj) : Stw B w (w'.alloc o) := h.trans (Stw.of (bnew (Below.refl _ _) o) (Nat.le_trans hB h.size))
theorem Stw.drewN (h : Stw B w w') (n : Nat) : Stw B w (w'.drewN n) := ⟨bdrewN h.below n, h.keep⟩
theorem Stw.push (hr : w.ownsRow B' 62 sz v n xs) (hB : B ≤ w.heap.size) (hB' : B ≤ B') (hg : w.grownBy w9 v.ownBlock) : Stw B w w9 :=
  ⟨below_grown (Below.refl B w) hg hB (fun x hx => Nat.le_trans hB' (hr.lt x hx).1), fun b cs T fr hb hT _ => blk_grown hb hg (fun hv => by
    obtain ⟨c, fz, h1⟩ := Lib.ownsRow_kind hr b hv
    rw [h1] at hb
    injection hb with hb
    injection hb with _ hb
    exact hT hb.symm)⟩
theorem Stw.set {cs : Array Value} {fr : Nat × Nat} (hR : w.heap[R]? = some (.cells cs 53 fr)) (hB : B ≤ R) (j : Nat) (u : Value) : Stw B w (w.setCell ⟨R, j, none⟩ u) :=
  ⟨(Below.refl B w).setCell hB u, fun b cs' T fr' hb _ hT => blk_other hb (p := ⟨R, j, none⟩) (fun e => by
    have e : R = b := e
    subst e
    rw [hR] at hb
    injection hb with hb
    injection hb with _ hb
    exact hT hb.symm) u⟩
end
/-- The writer at R: its tokens, how many are open, how deep it went. -/
structure WrS (w : World) (B R : Nat) (L : List Tk) (o d : Nat) (v : Value) : Prop where
  hB : B ≤ R
  heap : w.heap[R]? = some (.cells #[v, .int .i64 (o : Int), .int .i64 (d : Int)] 53 (0, 0))
  own : w.ownsRow B 62 4 v L.length (tkCells L)
/-- A list of tokens that is handed over. -/
def TkRd (w : World) (A : Option Addr) (M : List Tk) : Prop := M = [] ∨ ∃ a, A = some a ∧ ∀ j u, (tkCells M)[j]? = some u → w.cell? (a.add j) = some u
section
variable {B R o d : Nat} {w w' : World} {L M : List Tk} {v : Value}
theorem WrS.lt (h : WrS w B R L o d v) : R < w.heap.size := blk_lt h.heap
theorem WrS.below (h : WrS w B R L o d v) (hb : Below w.heap.size w w') : WrS w' B R L o d v := ⟨h.hB, blk_below h.heap hb, rowown_below h.own hb⟩
theorem WrS.ne (h : WrS w B R L o d v) : v.ownBlock ≠ some R := fun e => by
  obtain ⟨c, fz, h1⟩ := Lib.ownsRow_kind h.own R e
  rw [h.heap] at h1
  injection h1 with h1
  injection h1 with _ h1
  exact absurd h1 (by decide)
theorem WrS.setO (h : WrS w B R L o d v) (o' : Nat) : WrS (w.setCell ⟨R, 1, none⟩ (.int .i64 (o' : Int))) B R L o' d v :=
  ⟨h.hB, blk_set h.heap 1 _, rowown_far h.own h.ne _⟩
theorem WrS.setD (h : WrS w B R L o d v) (d' : Nat) : WrS (w.setCell ⟨R, 2, none⟩ (.int .i64 (d' : Int))) B R L o d' v :=
  ⟨h.hB, blk_set h.heap 2 _, rowown_far h.own h.ne _⟩
theorem WrS.cells (h : WrS w B R L o d v) : w.cell? ⟨R, 0, none⟩ = some v ∧ w.cell? ⟨R, 1, none⟩ = some (.int .i64 (o : Int)) ∧ w.cell? ⟨R, 2, none⟩ = some (.int .i64 (d : Int)) ∧ w.frozen? ⟨R, 0, none⟩ = false ∧ w.frozen? ⟨R, 1, none⟩ = false ∧ w.frozen? ⟨R, 2, none⟩ = false :=
  ⟨blk_cell h.heap rfl, blk_cell h.heap rfl, blk_cell h.heap rfl, blk_free h.heap _, blk_free h.heap _, blk_free h.heap _⟩
end
set_option maxRecDepth 100000 in
set_option maxHeartbeats 2000000 in
theorem add_any (B R : Nat) (L M : List Tk) (o d : Nat) (v : Value) (A : Option Addr) (c : Nat) (w : World) (h : WrS w B R L o d v) (hM : TkRd w A M) (hA : M = [] → A = none ∧ c = 0) (hL : L.length + M.length ≤ 1000000) :
    Calls Tryd.prog 25 #[.pointer (some ⟨R, 0, none⟩), .slice A M.length c] w fun e w' => e = .returned (.tuple #[]) ∧ Stw B w w' ∧ ∃ v', WrS w' B R (L ++ M) o d v' := by
  obtain ⟨i0, hi0, hz0, hz1, hz2⟩ := info_parts infoTok
  obtain ⟨vA, vc, rfl, _⟩ := rowown_shape h.own
  obtain ⟨x0, x1, x2, f0, f1, f2⟩ := h.cells
  have hBR := h.hB
  have hlt := h.lt
  have HW := Lib.hid h
  by_cases hm : M = []
  · subst hm
    obtain ⟨rfl, rfl⟩ := hA rfl
    have hS := Lib.hid (Stw.set (B := B) h.heap hBR 0 (.slice vA L.length vc))
    have hN := Lib.hid (show WrS (w.setCell ⟨R, 0, none⟩ (.slice vA L.length vc)) B R (L ++ []) o d (.slice vA L.length vc) by
      rw [List.append_nil]
      exact ⟨hBR, blk_set h.heap 0 _, rowown_far h.own h.ne _⟩)
    clear h hA hM
    show Calls _ _ #[_, .slice none 0 0] w _
    go_enter Tryd.func25, Tryd.ntmps25
    go_wp2_with (at_builtin; go_loud (refine wpList_append_own_none rfl _ _ _ rfl B 62 i0 4 Tryd.underlying51 hi0 (.slice vA L.length vc) L.length (tkCells L) rfl HW.out.own rfl ?_))
    go_end0
    exact ⟨rfl, hS.out, _, hN.out⟩
  · obtain ⟨a, rfl, hc⟩ := hM.resolve_left hm
    have hm0 : 0 < M.length := List.length_pos_iff.2 hm
    have HC := Lib.hid hc
    have hBw : B ≤ w.heap.size := by omega
    have hBL : L.length + M.length ≤ maxLen := by unfold maxLen; omega
    clear h hc hA
    go_enter Tryd.func25, Tryd.ntmps25
    go_wp2_with (at_builtin; go_loud (refine wpList_append_lies _ rfl _ _ _ rfl B 62 i0 _ 4 40 Tryd.underlying51 hi0 hz0 hz1 hz2 rfl (by omega) (.slice vA L.length vc) L.length (tkCells L) rfl HW.out.own a M.length c (tkCells M) rfl (tkCells_length M) HC.out (tkCells_one M) hm0 hBL (by omega) hBw w.heap.size rfl ?_; intro gg gcap w9 hown hg hat hlt9; have y0 : w9.cell? ⟨R, 0, none⟩ = some (.slice vA L.length vc) := blk_cell (blk_grown HW.out.heap hg HW.out.ne) rfl; have y1 : w9.frozen? ⟨R, 0, none⟩ = false := blk_free (blk_grown HW.out.heap hg HW.out.ne) _))
    go_end0
    have hS := Stw.push HW.out.own (B := B) hBw (Nat.le_refl _) hg
    have hh := blk_grown HW.out.heap hg HW.out.ne
    rw [← List.length_append, ← tkCells_append] at hown
    have hne : Value.ownBlock (.slice (some ⟨gg, 0, none⟩) (L ++ M).length gcap) ≠ some R := fun e => by
      obtain ⟨cc, fz, h1⟩ := Lib.ownsRow_kind hown R e
      rw [hh] at h1
      injection h1 with h1
      injection h1 with _ h1
      exact absurd h1 (by decide)
    refine ⟨rfl, hS.trans (Stw.set hh hBR 0 _), .slice (some ⟨gg, 0, none⟩) (L ++ M).length gcap, hBR, ?_, rowown_far hown hne _⟩
    have h2 := blk_set hh 0 (.slice (some ⟨gg, 0, none⟩) (L.length + M.length) gcap)
    rw [← List.length_append] at h2
    rw [← List.length_append]
    exact h2
set_option maxRecDepth 100000 in
theorem full_any (B R : Nat) (L : List Tk) (o d : Nat) (v : Value) (w : World) (h : WrS w B R L o d v) :
    Calls Tryd.prog 27 #[.pointer (some ⟨R, 0, none⟩)] w fun e w' => e = .returned (.bool (decide (400 < L.length))) ∧ w' = w := by
  obtain ⟨A, c, rfl, _⟩ := rowown_shape h.own
  obtain ⟨x0, x1, x2, f0, f1, f2⟩ := h.cells
  clear h
  by_cases hl : 400 < L.length
  · have hl2 : (400 : Int) < (L.length : Int) := by omega
    rw [decide_eq_true hl]
    go_enter Tryd.func27, Tryd.ntmps27
    go_wp2_with fail
    go_ret
    exact ⟨ret_bool (by first | (simp; done) | (simp; omega)), rfl⟩
  · rw [decide_eq_false hl]
    go_enter Tryd.func27, Tryd.ntmps27
    go_wp2_with fail
    go_ret
    exact ⟨ret_bool (by first | (simp; done) | (simp; omega)), rfl⟩
/-- A token as a value. -/
def tkV (t : Tk) : Value := .agg #[.int .i64 t.k, .string t.s, .int .i64 t.n, .int .i64 0]
set_option maxRecDepth 100000 in
theorem mark_any (k : Int) (w : World) : Calls Tryd.prog 26 #[.int .i64 k] w fun e w' => e = .returned (.agg #[.int .i64 k, .string ⟨#[]⟩, .int .i64 0, .int .i64 0]) ∧ Below w.heap.size w w' := by
  go_enter Tryd.func26, Tryd.ntmps26
  go_wp2_with fail
  refine bodyPost_ret (v := .agg #[.int .i64 k, .string ⟨#[]⟩, .int .i64 0, .int .i64 0]) ?_ rfl ?_
  · simp [results, Tryd.results26, go_sem]
  · exact ⟨rfl, bnew (Below.refl _ _) _⟩
set_option maxRecDepth 100000 in
theorem tokNum_any (n : Int) (w : World) : Calls Tryd.prog 30 #[.int .i64 n] w fun e w' => e = .returned (.agg #[.int .i64 2, .string ⟨#[]⟩, .int .i64 n, .int .i64 0]) ∧ Below w.heap.size w w' := by
  go_enter Tryd.func30, Tryd.ntmps30
  go_wp2_with fail
  refine bodyPost_ret (v := .agg #[.int .i64 2, .string ⟨#[]⟩, .int .i64 n, .int .i64 0]) ?_ rfl ?_
  · simp [results, Tryd.results30, go_sem]
  · exact ⟨rfl, bnew (Below.refl _ _) _⟩
set_option maxRecDepth 100000 in
theorem tokName_any (s : ByteArray) (w : World) : Calls Tryd.prog 31 #[.string s] w fun e w' => e = .returned (.agg #[.int .i64 1, .string s, .int .i64 0, .int .i64 0]) ∧ Below w.heap.size w w' := by
  go_enter Tryd.func31, Tryd.ntmps31
  go_wp2_with fail
  refine bodyPost_ret (v := .agg #[.int .i64 1, .string s, .int .i64 0, .int .i64 0]) ?_ rfl ?_
  · simp [results, Tryd.results31, go_sem]
  · exact ⟨rfl, bnew (Below.refl _ _) _⟩
set_option maxRecDepth 100000 in
theorem one_any (A : Option Addr) (n c : Nat) (w : World) : Calls Tryd.prog 56 #[.slice A n c] w fun e w' => e = .returned (.slice A n c) ∧ w' = w := by
  go_enter Tryd.func56, Tryd.ntmps56
  go_wp2_with fail
  go_ret
  exact ⟨rfl, rfl⟩
/-! ### Tables of numbers -/
/-- The table of levels, the table of signs, where they are listed. -/
def LevV (w : World) : Prop := ∃ t fr, w.heap[3]? = some (.cells (levL.map fun n => Value.int .i64 n).toArray t fr)
def SgnV (w : World) : Prop := ∃ t fr, w.heap[1]? = some (.cells (sgnL.map fun n => Value.int .i64 n).toArray t fr)
theorem LevV.later {w w' : World} (h : LevV w) (hb : Below w.heap.size w w') : LevV w' := by obtain ⟨t, fr, h⟩ := h; exact ⟨t, fr, blk_below h hb⟩
theorem SgnV.later {w w' : World} (h : SgnV w) (hb : Below w.heap.size w w') : SgnV w' := by obtain ⟨t, fr, h⟩ := h; exact ⟨t, fr, blk_below h hb⟩
theorem LevV.cell {w : World} (h : LevV w) {j : Nat} (hj : j < 15) : w.cell? ⟨3, j, none⟩ = some (.int .i64 (levL.getD j 0)) := by
  obtain ⟨t, fr, h⟩ := h
  refine blk_cell h ?_
  have : j < levL.length := hj
  simp [List.getD_eq_getElem?_getD, this]
theorem SgnV.cell {w : World} (h : SgnV w) {j : Nat} (hj : j < 15) : w.cell? ⟨1, j, none⟩ = some (.int .i64 (sgnL.getD j 0)) := by
  obtain ⟨t, fr, h⟩ := h
  refine blk_cell h ?_
  have : j < sgnL.length := hj
  simp [List.getD_eq_getElem?_getD, this]
set_option maxRecDepth 100000 in
theorem level_any (o : Int) (h1 : 1 ≤ o) (h2 : o ≤ 26) (w : World) (hv : LevV w) : Calls Tryd.prog 42 #[.int .i64 o] w fun e w' => e = .returned (.int .i64 (lev o)) ∧ w' = w := by
  by_cases hs : o < 12
  · have HE := Lib.hid (show lev o = 8 from if_pos hs)
    go_enter Tryd.func42, Tryd.ntmps42
    go_wp2_with fail
    go_ret
    exact ⟨by rw [HE.out]; rfl, rfl⟩
  · obtain ⟨j, rfl⟩ : ∃ j : Nat, o = 12 + (j : Int) := ⟨(o - 12).toNat, by omega⟩
    have HE := Lib.hid (show lev (12 + (j : Int)) = levL.getD j 0 by
      unfold lev
      rw [if_neg (by omega), show (12 + (j : Int) - 12).toNat = j by omega])
    have d0 := hv.cell (show j < 15 by omega)
    have hj : j < 15 := by omega
    have he : 12 + (j : Int) - 12 = (j : Int) := by omega
    obtain ⟨x, hx⟩ : ∃ x, levL.getD j 0 = x := ⟨_, rfl⟩
    rw [hx] at HE d0
    clear hv hx
    go_enter Tryd.func42, Tryd.ntmps42
    go_wp2_with fail
    go_ret
    exact ⟨by rw [HE.out]; rfl, rfl⟩
end Go.Proofs.YtfcdkadblagijaaDoor

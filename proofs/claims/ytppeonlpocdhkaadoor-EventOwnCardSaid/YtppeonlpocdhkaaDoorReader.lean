/-
  The program's reader of schema texts: its block, and the walks of refuse, mark, name, attr and word.
-/
import Derived.Test.YtppeonlpocdhkaaDoorSchemaPush
import Derived.Test.YtppeonlpocdhkaaDoorNameWalk
import Derived.Test.YtppeonlpocdhkaaDoorBlk
import Derived.OwnWalk
import Derived.Handy
import Derived.BigRegion
import Derived.Deep.RegionLaw
import Derived.Outline
set_option linter.unusedSimpArgs false
set_option linter.unusedVariables false
namespace Go.Proofs.YtppeonlpocdhkaaDoor
open Go.RowKit Go.ChangeShapes Go.WideShapes Go.ChangeAt Go.Deep Go.Joins
/-- A call of the reader's has turned nothing below B and no iterator. -/
def Stp (B : Nat) (w w' : World) : Prop := Below B w w' ∧ ∀ (k : Nat) (s : ByteArray) (p : Nat), w.heap[k]? = some (Obj.stringIter s p) → w'.heap[k]? = some (Obj.stringIter s p)
theorem Stp.trans {B : Nat} {a b c : World} (h : Stp B a b) (k : Stp B b c) : Stp B a c := ⟨h.1.trans k.1, fun i s p e => k.2 i s p (h.2 i s p e)⟩
theorem Stp.of {B : Nat} {w w' : World} (h : Below w.heap.size w w') (hB : B ≤ w.heap.size) : Stp B w w' := ⟨h.mono hB, fun k s p e => (h.block k (Array.getElem?_eq_some_iff.1 e).1).trans e⟩
theorem Stp.set {B : Nat} {w : World} {b : Nat} {cs : Array Value} {T : TypeId} {fr : Nat × Nat} (hb : w.heap[b]? = some (.cells cs T fr)) (hB : B ≤ b) (j : Nat) (u : Value) : Stp B w (w.setCell ⟨b, j, none⟩ u) :=
  ⟨(Below.refl B w).setCell hB u, fun k s p e => (Below.heap_setCell w _ u k (fun h => by
    have h : k = b := h
    subst h
    rw [hb] at e
    cases e)).trans e⟩
theorem Stp.drew {B : Nat} {w w' : World} (h : Stp B w w') : Stp B w w'.drew := ⟨h.1.drew, h.2⟩
/-- The reader in memory. -/
structure RdrAt (w : World) (B R : Nat) (want : Int) (v : Value) (ts : TList) (code pos : Int) : Prop where
  hB : B ≤ R
  heap : w.heap[R]? = some (.cells #[.int .i64 want, v, .int .i64 code, .int .i64 pos] 74 (0, 0))
  own : TypOwn w B v (schOf ts)
theorem TypOwn.blk {w : World} {B b : Nat} {v : Value} {S : Sch} {cs : Array Value} {fr : Nat × Nat} (h : TypOwn w B v S) (hb : w.heap[b]? = some (.cells cs 74 fr)) (j : Nat) (u : Value) : TypOwn (w.setCell ⟨b, j, none⟩ u) B v S := by
  obtain ⟨hn, sl, h1, h2, h3⟩ := h
  exact ⟨hn, sl, own_blk h1 hb (by decide) j u, fun i hi => ⟨(h2 i hi).1, own_blk (h2 i hi).2 hb (by decide) j u⟩, h3⟩
section
variable {w w' : World} {B R : Nat} {want code pos : Int} {v : Value} {ts : TList}
theorem RdrAt.cells (h : RdrAt w B R want v ts code pos) : w.cell? ⟨R, 0, none⟩ = some (.int .i64 want) ∧ w.cell? ⟨R, 1, none⟩ = some v ∧ w.cell? ⟨R, 2, none⟩ = some (.int .i64 code) ∧ w.cell? ⟨R, 3, none⟩ = some (.int .i64 pos) :=
  ⟨blk_cell h.heap rfl, blk_cell h.heap rfl, blk_cell h.heap rfl, blk_cell h.heap rfl⟩
theorem RdrAt.below (h : RdrAt w B R want v ts code pos) (hb : Below w.heap.size w w') : RdrAt w' B R want v ts code pos := ⟨h.hB, blk_below h.heap hb, h.own.below hb⟩
theorem RdrAt.drew (h : RdrAt w B R want v ts code pos) : RdrAt w.drew B R want v ts code pos := ⟨h.hB, h.heap, h.own⟩
theorem RdrAt.setWant (h : RdrAt w B R want v ts code pos) (n : Int) : RdrAt (w.setCell ⟨R, 0, none⟩ (.int .i64 n)) B R n v ts code pos := ⟨h.hB, blk_set h.heap 0 _, h.own.blk h.heap 0 _⟩
theorem RdrAt.setCode (h : RdrAt w B R want v ts code pos) (n : Int) : RdrAt (w.setCell ⟨R, 2, none⟩ (.int .i64 n)) B R want v ts n pos := ⟨h.hB, blk_set h.heap 2 _, h.own.blk h.heap 2 _⟩
theorem RdrAt.setPos (h : RdrAt w B R want v ts code pos) (n : Int) : RdrAt (w.setCell ⟨R, 3, none⟩ (.int .i64 n)) B R want v ts code n := ⟨h.hB, blk_set h.heap 3 _, h.own.blk h.heap 3 _⟩
end
set_option maxRecDepth 100000 in
theorem refuse_any (B R : Nat) (want code pos c p : Int) (v : Value) (ts : TList) (w : World) (h : RdrAt w B R want v ts code pos) :
    Calls Tryd.prog 43 #[.pointer (some ⟨R, 0, none⟩), .int .i64 c, .int .i64 p] w fun e w' => e = .returned (.tuple #[]) ∧ Stp B w w' ∧ RdrAt w' B R want v ts c p := by
  obtain ⟨x0, x1, x2, x3⟩ := h.cells
  have f2 := blk_free h.heap 2
  have f3 := blk_free h.heap 3
  have H1 := Lib.hid ((h.setCode c).setPos p)
  have H2 := Lib.hid ((h.setPos p).setCode c)
  have S1 := Lib.hid ((Stp.set h.heap h.hB 2 (.int .i64 c)).trans (Stp.set (h.setCode c).heap h.hB 3 (.int .i64 p)))
  have S2 := Lib.hid ((Stp.set h.heap h.hB 3 (.int .i64 p)).trans (Stp.set (h.setPos p).heap h.hB 2 (.int .i64 c)))
  clear h
  go_enter Tryd.func43, Tryd.ntmps43
  go_wp2_with fail
  go_end0
  exact ⟨rfl, S1.out, H1.out⟩
/-- What a step of the reading leaves: the new state, or the error and its place. -/
def Outc (w' : World) (B R : Nat) (r : Int × Gst) (pos p : Int) : Prop :=
  (r.1 = 0 ∧ ∃ v, RdrAt w' B R r.2.want v r.2.ts 0 pos) ∨ (r.1 ≠ 0 ∧ ∃ want v ts, RdrAt w' B R want v ts r.1 p)
theorem outc_ok {w' : World} {B R : Nat} {r : Int × Gst} {pos p : Int} {st : Gst} {v : Value} (e : r = (0, st)) (h : RdrAt w' B R st.want v st.ts 0 pos) : Outc w' B R r pos p := by subst e; exact Or.inl ⟨rfl, v, h⟩
theorem outc_bad {w' : World} {B R : Nat} {r : Int × Gst} {pos p c want : Int} {v : Value} {ts : TList} (e : r.1 = c) (hc : c ≠ 0) (h : RdrAt w' B R want v ts c p) : Outc w' B R r pos p := by subst e; exact Or.inr ⟨hc, want, v, ts, h⟩
section
variable {ts : TList} {wt c : Nat}
theorem gmark_open (hc : c = 40) (hw : wt = 2) : gmark ⟨wt, ts⟩ c = (0, ⟨3, ts⟩) := by unfold gmark; rw [if_pos ⟨hc, hw⟩]
theorem gmark_close (hc : c = 41) (hw : wt = 3 ∨ wt = 5) : gmark ⟨wt, ts⟩ c = (0, ⟨0, ts⟩) := by unfold gmark; rw [if_neg (by omega), if_pos ⟨hc, hw⟩]
theorem gmark_comma (hc : c = 44) (hw : wt = 5) : gmark ⟨wt, ts⟩ c = (0, ⟨4, ts⟩) := by unfold gmark; rw [if_neg (by omega), if_neg (by omega), if_pos ⟨hc, hw⟩]
theorem gmark_bad (h1 : ¬ (c = 40 ∧ wt = 2)) (h2 : ¬ (c = 41 ∧ (wt = 3 ∨ wt = 5))) (h3 : ¬ (c = 44 ∧ wt = 5)) : gmark ⟨wt, ts⟩ c = (21, ⟨wt, ts⟩) := by unfold gmark; rw [if_neg h1, if_neg h2, if_neg h3]
end
set_option maxRecDepth 100000 in
set_option maxHeartbeats 1000000 in
theorem mark_any (B R wt c : Nat) (pos p : Int) (v : Value) (ts : TList) (w : World) (h : RdrAt w B R wt v ts 0 pos) :
    Calls Tryd.prog 42 #[.pointer (some ⟨R, 0, none⟩), .int .i32 c, .int .i64 p] w fun e w' => e = .returned (.tuple #[]) ∧ Stp B w w' ∧ Outc w' B R (gmark ⟨wt, ts⟩ c) pos p := by
  obtain ⟨x0, x1, x2, x3⟩ := h.cells
  have f0 := blk_free h.heap 0
  have HR := Lib.hid h
  have HW := Lib.hid fun n : Int => h.setWant n
  have HS := Lib.hid fun n : Int => Stp.set h.heap h.hB 0 (.int .i64 n)
  clear h
  by_cases h1 : c = 40 ∧ wt = 2
  · obtain ⟨rfl, rfl⟩ := h1
    go_enter Tryd.func42, Tryd.ntmps42
    go_wp2_with fail
    go_end0
    exact ⟨rfl, HS.out 3, outc_ok (gmark_open rfl rfl) (HW.out 3)⟩
  by_cases h2 : c = 41 ∧ (wt = 3 ∨ wt = 5)
  · obtain ⟨rfl, hw⟩ := h2
    have HG := Lib.hid (gmark_close (ts := ts) rfl hw)
    rcases hw with rfl | rfl
    all_goals
      clear h1
      go_enter Tryd.func42, Tryd.ntmps42
      go_wp2_with fail
      go_end0
      exact ⟨rfl, HS.out 0, outc_ok HG.out (HW.out 0)⟩
  by_cases h3 : c = 44 ∧ wt = 5
  · obtain ⟨rfl, rfl⟩ := h3
    clear h1 h2
    go_enter Tryd.func42, Tryd.ntmps42
    go_wp2_with fail
    go_end0
    exact ⟨rfl, HS.out 4, outc_ok (gmark_comma rfl rfl) (HW.out 4)⟩
  have HG := Lib.hid (gmark_bad (ts := ts) h1 h2 h3)
  have hcase : ((c : Int) == 40) = false ∧ ((c : Int) == 41) = false ∧ ((c : Int) == 44) = false ∨ c = 40 ∧ ((wt : Int) == 2) = false ∨ c = 41 ∧ ((wt : Int) == 3) = false ∧ ((wt : Int) == 5) = false ∨ c = 44 ∧ ((wt : Int) == 5) = false := by
    simp only [beq_eq_false_iff_ne]
    omega
  clear h1 h2 h3
  rcases hcase with ⟨q1, q2, q3⟩ | ⟨rfl, q1⟩ | ⟨rfl, q1, q2⟩ | ⟨rfl, q1⟩
  all_goals
    go_enter Tryd.func42, Tryd.ntmps42
    go_wp2_with fail
    refine (refuse_any B R wt 0 pos 21 p v ts _ HR.out).mono ?_
    rintro e w3 ⟨rfl, hs3, h3⟩
    go_wp2_with fail
    go_end0
    exact ⟨rfl, hs3, outc_bad (by rw [HG.out]) (by decide) h3⟩
end Go.Proofs.YtppeonlpocdhkaaDoor

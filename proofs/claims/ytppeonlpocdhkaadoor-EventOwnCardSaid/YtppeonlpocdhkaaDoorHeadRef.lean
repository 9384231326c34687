/-
  The walk of the reference's head: a line's first three words.
-/
import Derived.Test.YtppeonlpocdhkaaDoorPiecesWalk
import Derived.Test.YtppeonlpocdhkaaDoorNumWalk
import Derived.Laws.Tables
import Derived.Deep.RegionHeld3
set_option linter.unusedSimpArgs false
set_option linter.unusedVariables false
namespace Go.Proofs.YtppeonlpocdhkaaDoor
open Go.RowKit Go.ChangeShapes Go.WideShapes Go.ChangeAt Go.Deep Go.Joins
theorem below_setRow {B g : Nat} {w w' : World} {cs : Array Value} (h : Below B w w') (hg : B ≤ g) : Below B w (w'.setRow g cs) := by
  refine ⟨h.os, h.tape, h.output, ?_, fun b hb => ?_⟩
  · have : (w'.setRow g cs).heap.size = w'.heap.size := by simp [World.setRow]
    rw [this]
    exact h.size
  · have : (w'.setRow g cs).heap[b]? = w'.heap[b]? := by
      simp only [World.setRow, Array.getElem?_modify]
      rw [if_neg (by omega)]
    rw [this]
    exact h.block b hb
theorem row_set {w : World} {g : Nat} {old : Array Value} {T : TypeId} {fr : Nat × Nat} (h : w.heap[g]? = some (.cells old T fr)) (cs : Array Value) : (w.setRow g cs).heap[g]? = some (.cells cs T fr) := by
  simp [World.setRow, Array.getElem?_modify, h]
theorem row_other {w : World} {g b : Nat} {cs old : Array Value} {T : TypeId} {fr : Nat × Nat} (h : w.heap[b]? = some (.cells old T fr)) (hg : g ≠ b) : (w.setRow g cs).heap[b]? = some (.cells old T fr) := by
  simp only [World.setRow, Array.getElem?_modify]
  rw [if_neg hg]
  exact h
/-- What head ends with. -/
def HdEnd (S : Sch) (s : ByteArray) (L : List Pce) (e : Ending) : Prop :=
  ((headR S s L).code ≠ 0 ∧ ∃ ts id ty : Int, e = .returned (.tuple #[.agg #[.int .i64 ts, .int .u64 id, .int .i64 ty, .int .i64 0, .int .i64 0, .int .i64 0, .int .i64 0, .int .i64 0, .int .i64 0, .int .i64 0, .int .i64 0], .int .i64 (headR S s L).code, .int .i64 (headR S s L).bad])) ∨
  ((headR S s L).code = 0 ∧ e = .returned (.tuple #[.agg #[.int .i64 (headR S s L).ts, .int .u64 (headR S s L).id, .int .i64 (headR S s L).ty, .int .i64 0, .int .i64 0, .int .i64 0, .int .i64 0, .int .i64 0, .int .i64 0, .int .i64 0, .int .i64 0], .int .i64 0, .int .i64 0]))
theorem hd_bad {S : Sch} {s : ByteArray} {L : List Pce} {c : Int} {k : Nat} {ts id ty : Int} (h : headR S s L = ⟨c, k, 0, 0, 0⟩) (hc : c ≠ 0) : HdEnd S s L (.returned (.tuple #[.agg #[.int .i64 ts, .int .u64 id, .int .i64 ty, .int .i64 0, .int .i64 0, .int .i64 0, .int .i64 0, .int .i64 0, .int .i64 0, .int .i64 0, .int .i64 0], .int .i64 c, .int .i64 k])) := by
  refine Or.inl ⟨by rw [h]; exact hc, ts, id, ty, ?_⟩
  rw [h]
theorem hd_ok {S : Sch} {s : ByteArray} {L : List Pce} {ts : Int} {id ty : Nat} (h : headR S s L = ⟨0, 0, ts, id, ty⟩) : HdEnd S s L (.returned (.tuple #[.agg #[.int .i64 ts, .int .u64 id, .int .i64 ty, .int .i64 0, .int .i64 0, .int .i64 0, .int .i64 0, .int .i64 0, .int .i64 0, .int .i64 0, .int .i64 0], .int .i64 0, .int .i64 0])) := by
  refine Or.inr ⟨by rw [h], ?_⟩
  rw [h]
theorem isSome_none {α : Type} {o : Option α} (h : o = none) : o.isSome = false := by rw [h]; rfl
theorem isSome_some {α : Type} {o : Option α} {x : α} (h : o = some x) : o.isSome = true := by rw [h]; rfl
theorem wtx_size {s : ByteArray} {L : List Pce} (hs : s.size ≤ 1048576) (i : Nat) : (wtx s L i).size ≤ 281474976710656 := by
  unfold wtx
  split
  · unfold wdAt
    rw [ByteArray.size_extract]
    omega
  · show 0 ≤ _
    omega
set_option maxRecDepth 100000 in
set_option maxHeartbeats 4000000 in
theorem refHead_any (s : ByteArray) (hs : s.size ≤ 1048576) (A tA : Option Addr) (cap tc : Nat) (L : List Pce) (S : Sch) (w : World) (h : PRd w A L) (ha : WOk s L) (hl : L.length ≤ 1048576) (ht : TypRd w w.heap.size tA S) :
    Calls Tryd.prog 54 #[.agg #[.slice tA S.n tc], .string s, .slice A L.length cap] w fun e w' => HdEnd S s L e ∧ Below w.heap.size w w' := by
  have HA := Lib.hid ha
  have hb1 : Below w.heap.size w (((w.alloc (.cells #[.slice tA S.n tc] 25)).alloc (.cells #[.int .i64 0, .int .u64 0, .int .i64 0, .int .i64 0, .int .i64 0, .int .i64 0, .int .i64 0, .int .i64 0, .int .i64 0, .int .i64 0, .int .i64 0] 29)).alloc (.cells #[.int .i64 0, .int .u64 0, .int .i64 0, .int .i64 0, .int .i64 0, .int .i64 0, .int .i64 0, .int .i64 0, .int .i64 0, .int .i64 0, .int .i64 0] 29)) := bnew (bnew (bnew (Below.refl _ _) _) _) _
  have S1 : Hid ((((w.alloc (.cells #[.slice tA S.n tc] 25)).alloc (.cells #[.int .i64 0, .int .u64 0, .int .i64 0, .int .i64 0, .int .i64 0, .int .i64 0, .int .i64 0, .int .i64 0, .int .i64 0, .int .i64 0, .int .i64 0] 29)).alloc (.cells #[.int .i64 0, .int .u64 0, .int .i64 0, .int .i64 0, .int .i64 0, .int .i64 0, .int .i64 0, .int .i64 0, .int .i64 0, .int .i64 0, .int .i64 0] 29)).heap[w.heap.size]? = some (.cells #[.slice tA S.n tc] 25 (0, 0))) := Lib.hid (blk_alloc (blk_alloc (blk_new w _ _) _) _)
  have R1 : Hid ((((w.alloc (.cells #[.slice tA S.n tc] 25)).alloc (.cells #[.int .i64 0, .int .u64 0, .int .i64 0, .int .i64 0, .int .i64 0, .int .i64 0, .int .i64 0, .int .i64 0, .int .i64 0, .int .i64 0, .int .i64 0] 29)).alloc (.cells #[.int .i64 0, .int .u64 0, .int .i64 0, .int .i64 0, .int .i64 0, .int .i64 0, .int .i64 0, .int .i64 0, .int .i64 0, .int .i64 0, .int .i64 0] 29)).heap[w.heap.size + 1]? = some (.cells #[.int .i64 0, .int .u64 0, .int .i64 0, .int .i64 0, .int .i64 0, .int .i64 0, .int .i64 0, .int .i64 0, .int .i64 0, .int .i64 0, .int .i64 0] 29 (0, 0))) := by
    have h := blk_new (w.alloc (.cells #[.slice tA S.n tc] 25)) #[.int .i64 0, .int .u64 0, .int .i64 0, .int .i64 0, .int .i64 0, .int .i64 0, .int .i64 0, .int .i64 0, .int .i64 0, .int .i64 0, .int .i64 0] 29
    rw [World.size_alloc] at h
    exact Lib.hid (blk_alloc h _)
  have E1 : Hid ((((w.alloc (.cells #[.slice tA S.n tc] 25)).alloc (.cells #[.int .i64 0, .int .u64 0, .int .i64 0, .int .i64 0, .int .i64 0, .int .i64 0, .int .i64 0, .int .i64 0, .int .i64 0, .int .i64 0, .int .i64 0] 29)).alloc (.cells #[.int .i64 0, .int .u64 0, .int .i64 0, .int .i64 0, .int .i64 0, .int .i64 0, .int .i64 0, .int .i64 0, .int .i64 0, .int .i64 0, .int .i64 0] 29)).heap[w.heap.size + 2]? = some (.cells #[.int .i64 0, .int .u64 0, .int .i64 0, .int .i64 0, .int .i64 0, .int .i64 0, .int .i64 0, .int .i64 0, .int .i64 0, .int .i64 0, .int .i64 0] 29 (0, 0))) := by
    have h := blk_new ((w.alloc (.cells #[.slice tA S.n tc] 25)).alloc (.cells #[.int .i64 0, .int .u64 0, .int .i64 0, .int .i64 0, .int .i64 0, .int .i64 0, .int .i64 0, .int .i64 0, .int .i64 0, .int .i64 0, .int .i64 0] 29)) #[.int .i64 0, .int .u64 0, .int .i64 0, .int .i64 0, .int .i64 0, .int .i64 0, .int .i64 0, .int .i64 0, .int .i64 0, .int .i64 0, .int .i64 0] 29
    rw [World.size_alloc, World.size_alloc] at h
    exact Lib.hid h
  have hz1 : w.heap.size + 3 ≤ (((w.alloc (.cells #[.slice tA S.n tc] 25)).alloc (.cells #[.int .i64 0, .int .u64 0, .int .i64 0, .int .i64 0, .int .i64 0, .int .i64 0, .int .i64 0, .int .i64 0, .int .i64 0, .int .i64 0, .int .i64 0] 29)).alloc (.cells #[.int .i64 0, .int .u64 0, .int .i64 0, .int .i64 0, .int .i64 0, .int .i64 0, .int .i64 0, .int .i64 0, .int .i64 0, .int .i64 0, .int .i64 0] 29)).heap.size := by
    rw [World.size_alloc, World.size_alloc, World.size_alloc]
    omega
  have HP1 := Lib.hid (h.later hb1)
  have HT1 := Lib.hid (ht.later hb1)
  have hn := ht.1
  clear h ht ha
  go_enter Tryd.func54, Tryd.ntmps54
  go_wp2_with fail
  generalize ((w.alloc _).alloc _).alloc _ = w1 at *
  refine (wordOf_any s hs A cap L 0 _ HP1.out HA.out hl).mono ?_
  rintro e w2 ⟨rfl, hb12⟩
  have hb2 := bcall hb1 hb12
  have S2 := Lib.hid (blk_below S1.out hb12)
  have R2 := Lib.hid (blk_below R1.out hb12)
  have E2 := Lib.hid (blk_below E1.out hb12)
  have HP2 := Lib.hid (RowRd.later HP1.out hb12)
  have HT2 := Lib.hid (HT1.out.later hb12)
  have hz2 : w.heap.size + 3 ≤ w2.heap.size := Nat.le_trans hz1 hb12.size
  go_wp2_with fail
  refine (refNumber_any _ (wtx_size hs 0) _).mono ?_
  rintro e w3 ⟨v0, rfl, hv, rfl⟩
  cases hn0 : numT (wtx s L 0) with
  | none =>
    have HE := Lib.hid (headR_ts (S := S) hn0)
    rw [isSome_none rfl]
    clear hv hn0
    have hbE : Below w.heap.size w (w3.setRow (w.heap.size + 1) #[.int .i64 0, .int .u64 0, .int .i64 0, .int .i64 0, .int .i64 0, .int .i64 0, .int .i64 0, .int .i64 0, .int .i64 0, .int .i64 0, .int .i64 0]) := below_setRow hb2 (Nat.le_succ _)
    have x0 := row_set R2.out #[.int .i64 0, .int .u64 0, .int .i64 0, .int .i64 0, .int .i64 0, .int .i64 0, .int .i64 0, .int .i64 0, .int .i64 0, .int .i64 0, .int .i64 0]
    have y0 := blk_cell (j := 0) (v := .int .i64 0) x0 rfl
    have y1 := blk_cell (j := 1) (v := .int .u64 0) x0 rfl
    have y2 := blk_cell (j := 2) (v := .int .i64 0) x0 rfl
    have y3 := blk_cell (j := 3) (v := .int .i64 0) x0 rfl
    have y4 := blk_cell (j := 4) (v := .int .i64 0) x0 rfl
    have y5 := blk_cell (j := 5) (v := .int .i64 0) x0 rfl
    have y6 := blk_cell (j := 6) (v := .int .i64 0) x0 rfl
    have y7 := blk_cell (j := 7) (v := .int .i64 0) x0 rfl
    have y8 := blk_cell (j := 8) (v := .int .i64 0) x0 rfl
    have y9 := blk_cell (j := 9) (v := .int .i64 0) x0 rfl
    have y10 := blk_cell (j := 10) (v := .int .i64 0) x0 rfl
    go_wp2_with (first | (refine wpList_load_row rfl 29 _ rfl (w.heap.size + 2) rfl 29 #[.int .i64 0, .int .u64 0, .int .i64 0, .int .i64 0, .int .i64 0, .int .i64 0, .int .i64 0, .int .i64 0, .int .i64 0, .int .i64 0, .int .i64 0] (0, 0) _ E2.out Tryd.underlying29 rfl (by kernel_rfl) ?_) | (refine wpList_store_row rfl 29 _ _ rfl (w.heap.size + 1) #[.int .i64 0, .int .u64 0, .int .i64 0, .int .i64 0, .int .i64 0, .int .i64 0, .int .i64 0, .int .i64 0, .int .i64 0, .int .i64 0, .int .i64 0] rfl rfl 29 #[.int .i64 0, .int .u64 0, .int .i64 0, .int .i64 0, .int .i64 0, .int .i64 0, .int .i64 0, .int .i64 0, .int .i64 0, .int .i64 0, .int .i64 0] R2.out (by kernel_rfl) rfl (by simp [Value.oneCell']) ?_))
    refine bodyPost_ret (v := .tuple #[.agg #[.int .i64 0, .int .u64 0, .int .i64 0, .int .i64 0, .int .i64 0, .int .i64 0, .int .i64 0, .int .i64 0, .int .i64 0, .int .i64 0, .int .i64 0], .int .i64 26, .int .i64 0]) ?_ rfl ?_
    · simp [results, Tryd.results54, go_sem, y0, y1, y2, y3, y4, y5, y6, y7, y8, y9, y10]
    · exact ⟨hd_bad (k := 0) HE.out (by decide), hbE⟩
  | some ts =>
    obtain rfl := hv ts hn0
    have hr := numL_range (show numL (wtx s L 0).data.toList = some v0 from hn0)
    rw [isSome_some rfl]
    by_cases hrg : v0 < -1152921504606846976 ∨ 1152921504606846976 < v0
    · have HE := Lib.hid (headR_range (S := S) hn0 hrg)
      clear hv hn0
      rcases hrg with hrg | hrg
      all_goals
        have hbE : Below w.heap.size w (w3.setRow (w.heap.size + 1) #[.int .i64 0, .int .u64 0, .int .i64 0, .int .i64 0, .int .i64 0, .int .i64 0, .int .i64 0, .int .i64 0, .int .i64 0, .int .i64 0, .int .i64 0]) := below_setRow hb2 (Nat.le_succ _)
        have x0 := row_set R2.out #[.int .i64 0, .int .u64 0, .int .i64 0, .int .i64 0, .int .i64 0, .int .i64 0, .int .i64 0, .int .i64 0, .int .i64 0, .int .i64 0, .int .i64 0]
        have y0 := blk_cell (j := 0) (v := .int .i64 0) x0 rfl
        have y1 := blk_cell (j := 1) (v := .int .u64 0) x0 rfl
        have y2 := blk_cell (j := 2) (v := .int .i64 0) x0 rfl
        have y3 := blk_cell (j := 3) (v := .int .i64 0) x0 rfl
        have y4 := blk_cell (j := 4) (v := .int .i64 0) x0 rfl
        have y5 := blk_cell (j := 5) (v := .int .i64 0) x0 rfl
        have y6 := blk_cell (j := 6) (v := .int .i64 0) x0 rfl
        have y7 := blk_cell (j := 7) (v := .int .i64 0) x0 rfl
        have y8 := blk_cell (j := 8) (v := .int .i64 0) x0 rfl
        have y9 := blk_cell (j := 9) (v := .int .i64 0) x0 rfl
        have y10 := blk_cell (j := 10) (v := .int .i64 0) x0 rfl
        go_wp2_with (first | (refine wpList_load_row rfl 29 _ rfl (w.heap.size + 2) rfl 29 #[.int .i64 0, .int .u64 0, .int .i64 0, .int .i64 0, .int .i64 0, .int .i64 0, .int .i64 0, .int .i64 0, .int .i64 0, .int .i64 0, .int .i64 0] (0, 0) _ E2.out Tryd.underlying29 rfl (by kernel_rfl) ?_) | (refine wpList_store_row rfl 29 _ _ rfl (w.heap.size + 1) #[.int .i64 0, .int .u64 0, .int .i64 0, .int .i64 0, .int .i64 0, .int .i64 0, .int .i64 0, .int .i64 0, .int .i64 0, .int .i64 0, .int .i64 0] rfl rfl 29 #[.int .i64 0, .int .u64 0, .int .i64 0, .int .i64 0, .int .i64 0, .int .i64 0, .int .i64 0, .int .i64 0, .int .i64 0, .int .i64 0, .int .i64 0] R2.out (by kernel_rfl) rfl (by simp [Value.oneCell']) ?_))
        refine bodyPost_ret (v := .tuple #[.agg #[.int .i64 0, .int .u64 0, .int .i64 0, .int .i64 0, .int .i64 0, .int .i64 0, .int .i64 0, .int .i64 0, .int .i64 0, .int .i64 0, .int .i64 0], .int .i64 29, .int .i64 0]) ?_ rfl ?_
        · simp [results, Tryd.results54, go_sem, y0, y1, y2, y3, y4, y5, y6, y7, y8, y9, y10]
        · exact ⟨hd_bad (k := 0) HE.out (by decide), hbE⟩
    · have HNO := Lib.hid hn0
      have hrg1 : ¬ v0 < -1152921504606846976 := fun h => hrg (Or.inl h)
      have hrg2 : ¬ 1152921504606846976 < v0 := fun h => hrg (Or.inr h)
      clear hv hn0
      go_wp2_with fail
      refine (wordOf_any s hs A cap L 1 _ HP2.out HA.out hl).mono ?_
      rintro e w4 ⟨rfl, hb34⟩
      have hb4 := bcall hb2 hb34
      have S4 := Lib.hid (blk_below S2.out hb34)
      have R4 := Lib.hid (blk_below R2.out hb34)
      have E4 := Lib.hid (blk_below E2.out hb34)
      have HP4 := Lib.hid (RowRd.later HP2.out hb34)
      have HT4 := Lib.hid (HT2.out.later hb34)
      have hz4 : w.heap.size + 3 ≤ w4.heap.size := Nat.le_trans hz2 hb34.size
      go_wp2_with fail
      refine (refId_any _ (wtx_size hs 1) _).mono ?_
      rintro e w5 ⟨i0, rfl, hv, rfl⟩
      cases hi0 : idT (wtx s L 1) with
      | none =>
        have HE := Lib.hid (headR_id (S := S) HNO.out hrg hi0)
        rw [isSome_none rfl]
        clear hv hi0
        have hbE : Below w.heap.size w (w5.setRow (w.heap.size + 1) #[.int .i64 0, .int .u64 0, .int .i64 0, .int .i64 0, .int .i64 0, .int .i64 0, .int .i64 0, .int .i64 0, .int .i64 0, .int .i64 0, .int .i64 0]) := below_setRow hb4 (Nat.le_succ _)
        have x0 := row_set R4.out #[.int .i64 0, .int .u64 0, .int .i64 0, .int .i64 0, .int .i64 0, .int .i64 0, .int .i64 0, .int .i64 0, .int .i64 0, .int .i64 0, .int .i64 0]
        have y0 := blk_cell (j := 0) (v := .int .i64 0) x0 rfl
        have y1 := blk_cell (j := 1) (v := .int .u64 0) x0 rfl
        have y2 := blk_cell (j := 2) (v := .int .i64 0) x0 rfl
        have y3 := blk_cell (j := 3) (v := .int .i64 0) x0 rfl
        have y4 := blk_cell (j := 4) (v := .int .i64 0) x0 rfl
        have y5 := blk_cell (j := 5) (v := .int .i64 0) x0 rfl
        have y6 := blk_cell (j := 6) (v := .int .i64 0) x0 rfl
        have y7 := blk_cell (j := 7) (v := .int .i64 0) x0 rfl
        have y8 := blk_cell (j := 8) (v := .int .i64 0) x0 rfl
        have y9 := blk_cell (j := 9) (v := .int .i64 0) x0 rfl
        have y10 := blk_cell (j := 10) (v := .int .i64 0) x0 rfl
        go_wp2_with (first | (refine wpList_load_row rfl 29 _ rfl (w.heap.size + 2) rfl 29 #[.int .i64 0, .int .u64 0, .int .i64 0, .int .i64 0, .int .i64 0, .int .i64 0, .int .i64 0, .int .i64 0, .int .i64 0, .int .i64 0, .int .i64 0] (0, 0) _ E4.out Tryd.underlying29 rfl (by kernel_rfl) ?_) | (refine wpList_store_row rfl 29 _ _ rfl (w.heap.size + 1) #[.int .i64 0, .int .u64 0, .int .i64 0, .int .i64 0, .int .i64 0, .int .i64 0, .int .i64 0, .int .i64 0, .int .i64 0, .int .i64 0, .int .i64 0] rfl rfl 29 #[.int .i64 0, .int .u64 0, .int .i64 0, .int .i64 0, .int .i64 0, .int .i64 0, .int .i64 0, .int .i64 0, .int .i64 0, .int .i64 0, .int .i64 0] R4.out (by kernel_rfl) rfl (by simp [Value.oneCell']) ?_))
        refine bodyPost_ret (v := .tuple #[.agg #[.int .i64 0, .int .u64 0, .int .i64 0, .int .i64 0, .int .i64 0, .int .i64 0, .int .i64 0, .int .i64 0, .int .i64 0, .int .i64 0, .int .i64 0], .int .i64 26, .int .i64 1]) ?_ rfl ?_
        · simp [results, Tryd.results54, go_sem, y0, y1, y2, y3, y4, y5, y6, y7, y8, y9, y10]
        · exact ⟨hd_bad (k := 1) HE.out (by decide), hbE⟩
      | some u =>
        obtain rfl := hv u hi0
        have hle := idL_le (show idL (wtx s L 1).data.toList = some i0 from hi0)
        rw [isSome_some rfl]
        by_cases h3 : L.length < 3
        · have HE := Lib.hid (headR_three (S := S) HNO.out hrg hi0 h3)
          clear hv hi0
          have hbE : Below w.heap.size w (w5.setRow (w.heap.size + 1) #[.int .i64 0, .int .u64 0, .int .i64 0, .int .i64 0, .int .i64 0, .int .i64 0, .int .i64 0, .int .i64 0, .int .i64 0, .int .i64 0, .int .i64 0]) := below_setRow hb4 (Nat.le_succ _)
          have x0 := row_set R4.out #[.int .i64 0, .int .u64 0, .int .i64 0, .int .i64 0, .int .i64 0, .int .i64 0, .int .i64 0, .int .i64 0, .int .i64 0, .int .i64 0, .int .i64 0]
          have y0 := blk_cell (j := 0) (v := .int .i64 0) x0 rfl
          have y1 := blk_cell (j := 1) (v := .int .u64 0) x0 rfl
          have y2 := blk_cell (j := 2) (v := .int .i64 0) x0 rfl
          have y3 := blk_cell (j := 3) (v := .int .i64 0) x0 rfl
          have y4 := blk_cell (j := 4) (v := .int .i64 0) x0 rfl
          have y5 := blk_cell (j := 5) (v := .int .i64 0) x0 rfl
          have y6 := blk_cell (j := 6) (v := .int .i64 0) x0 rfl
          have y7 := blk_cell (j := 7) (v := .int .i64 0) x0 rfl
          have y8 := blk_cell (j := 8) (v := .int .i64 0) x0 rfl
          have y9 := blk_cell (j := 9) (v := .int .i64 0) x0 rfl
          have y10 := blk_cell (j := 10) (v := .int .i64 0) x0 rfl
          go_wp2_with (first | (refine wpList_load_row rfl 29 _ rfl (w.heap.size + 2) rfl 29 #[.int .i64 0, .int .u64 0, .int .i64 0, .int .i64 0, .int .i64 0, .int .i64 0, .int .i64 0, .int .i64 0, .int .i64 0, .int .i64 0, .int .i64 0] (0, 0) _ E4.out Tryd.underlying29 rfl (by kernel_rfl) ?_) | (refine wpList_store_row rfl 29 _ _ rfl (w.heap.size + 1) #[.int .i64 0, .int .u64 0, .int .i64 0, .int .i64 0, .int .i64 0, .int .i64 0, .int .i64 0, .int .i64 0, .int .i64 0, .int .i64 0, .int .i64 0] rfl rfl 29 #[.int .i64 0, .int .u64 0, .int .i64 0, .int .i64 0, .int .i64 0, .int .i64 0, .int .i64 0, .int .i64 0, .int .i64 0, .int .i64 0, .int .i64 0] R4.out (by kernel_rfl) rfl (by simp [Value.oneCell']) ?_))
          refine bodyPost_ret (v := .tuple #[.agg #[.int .i64 0, .int .u64 0, .int .i64 0, .int .i64 0, .int .i64 0, .int .i64 0, .int .i64 0, .int .i64 0, .int .i64 0, .int .i64 0, .int .i64 0], .int .i64 26, .int .i64 2]) ?_ rfl ?_
          · simp [results, Tryd.results54, go_sem, y0, y1, y2, y3, y4, y5, y6, y7, y8, y9, y10]
          · exact ⟨hd_bad (k := 2) HE.out (by decide), hbE⟩
        · have HIO := Lib.hid hi0
          clear hv hi0
          have s4 := blk_cell (j := 0) (v := .slice tA S.n tc) S4.out rfl
          go_wp2_with fail
          go_region_held3 (fun w' => w'.cell? ⟨w.heap.size, 0, none⟩ = some (.slice tA S.n tc) ∧ Below w5.heap.size w5 w')
            (first
              | exact ⟨s4, (Below.refl _ _).drew⟩
              | (go_split_ands; exact ⟨(hbz.cell (p := ⟨w.heap.size, 0, none⟩) (addr_of_cell (v := .slice tA S.n tc) (by assumption)).2).trans (by assumption), bcall (by assumption) hbz⟩))
            (first
              | (go_at_call 56; go_split_ands; refine (wordOf_any s hs A cap L 2 _ (RowRd.later HP4.out (by assumption)) HA.out hl).mono ?_; rintro e wz ⟨rfl, hbz⟩)
              | (go_at_call 75; go_split_ands; refine (refTypeOf_any tA tc S (wtx s L 2) _ (HT4.out.later (by assumption))).mono ?_; rintro e wz ⟨rfl, hbz⟩))
          go_split_ands
          have hb56 : Below w5.heap.size w5 wz := by assumption
          have hb6 := bcall hb4 hb56
          have R6 := Lib.hid (blk_below R4.out hb56)
          have E6 := Lib.hid (blk_below E4.out hb56)
          by_cases h4 : typeI S (wtx s L 2) < 0
          · have HE := Lib.hid (headR_type HNO.out hrg HIO.out h3 h4)
            generalize typeI S (wtx s L 2) = ty at *
            have hbE : Below w.heap.size w (wz.setRow (w.heap.size + 1) #[.int .i64 0, .int .u64 0, .int .i64 0, .int .i64 0, .int .i64 0, .int .i64 0, .int .i64 0, .int .i64 0, .int .i64 0, .int .i64 0, .int .i64 0]) := below_setRow hb6 (Nat.le_succ _)
            have x0 := row_set R6.out #[.int .i64 0, .int .u64 0, .int .i64 0, .int .i64 0, .int .i64 0, .int .i64 0, .int .i64 0, .int .i64 0, .int .i64 0, .int .i64 0, .int .i64 0]
            have y0 := blk_cell (j := 0) (v := .int .i64 0) x0 rfl
            have y1 := blk_cell (j := 1) (v := .int .u64 0) x0 rfl
            have y2 := blk_cell (j := 2) (v := .int .i64 0) x0 rfl
            have y3 := blk_cell (j := 3) (v := .int .i64 0) x0 rfl
            have y4 := blk_cell (j := 4) (v := .int .i64 0) x0 rfl
            have y5 := blk_cell (j := 5) (v := .int .i64 0) x0 rfl
            have y6 := blk_cell (j := 6) (v := .int .i64 0) x0 rfl
            have y7 := blk_cell (j := 7) (v := .int .i64 0) x0 rfl
            have y8 := blk_cell (j := 8) (v := .int .i64 0) x0 rfl
            have y9 := blk_cell (j := 9) (v := .int .i64 0) x0 rfl
            have y10 := blk_cell (j := 10) (v := .int .i64 0) x0 rfl
            go_wp2_with (first | (refine wpList_load_row rfl 29 _ rfl (w.heap.size + 2) rfl 29 #[.int .i64 0, .int .u64 0, .int .i64 0, .int .i64 0, .int .i64 0, .int .i64 0, .int .i64 0, .int .i64 0, .int .i64 0, .int .i64 0, .int .i64 0] (0, 0) _ E6.out Tryd.underlying29 rfl (by kernel_rfl) ?_) | (refine wpList_store_row rfl 29 _ _ rfl (w.heap.size + 1) #[.int .i64 0, .int .u64 0, .int .i64 0, .int .i64 0, .int .i64 0, .int .i64 0, .int .i64 0, .int .i64 0, .int .i64 0, .int .i64 0, .int .i64 0] rfl rfl 29 #[.int .i64 0, .int .u64 0, .int .i64 0, .int .i64 0, .int .i64 0, .int .i64 0, .int .i64 0, .int .i64 0, .int .i64 0, .int .i64 0, .int .i64 0] R6.out (by kernel_rfl) rfl (by simp [Value.oneCell']) ?_))
            refine bodyPost_ret (v := .tuple #[.agg #[.int .i64 0, .int .u64 0, .int .i64 0, .int .i64 0, .int .i64 0, .int .i64 0, .int .i64 0, .int .i64 0, .int .i64 0, .int .i64 0, .int .i64 0], .int .i64 27, .int .i64 2]) ?_ rfl ?_
            · simp [results, Tryd.results54, go_sem, y0, y1, y2, y3, y4, y5, y6, y7, y8, y9, y10]
            · exact ⟨hd_bad (k := 2) HE.out (by decide), hbE⟩
          · have HE := Lib.hid (headR_ok HNO.out hrg HIO.out h3 h4)
            obtain ⟨ty, hty⟩ : ∃ ty : Nat, typeI S (wtx s L 2) = ty := ⟨(typeI S (wtx s L 2)).toNat, by omega⟩
            have hE : headR S s L = ⟨0, 0, v0, i0, ty⟩ := by rw [HE.out, hty]; rfl
            have HF := Lib.hid hE
            clear hE HE h4
            rw [hty]
            have hbE : Below w.heap.size w (wz.setRow (w.heap.size + 1) #[.int .i64 v0, .int .u64 i0, .int .i64 ty, .int .i64 0, .int .i64 0, .int .i64 0, .int .i64 0, .int .i64 0, .int .i64 0, .int .i64 0, .int .i64 0]) := below_setRow hb6 (Nat.le_succ _)
            have x0 := row_set R6.out #[.int .i64 v0, .int .u64 i0, .int .i64 ty, .int .i64 0, .int .i64 0, .int .i64 0, .int .i64 0, .int .i64 0, .int .i64 0, .int .i64 0, .int .i64 0]
            have y0 := blk_cell (j := 0) (v := .int .i64 v0) x0 rfl
            have y1 := blk_cell (j := 1) (v := .int .u64 i0) x0 rfl
            have y2 := blk_cell (j := 2) (v := .int .i64 ty) x0 rfl
            have y3 := blk_cell (j := 3) (v := .int .i64 0) x0 rfl
            have y4 := blk_cell (j := 4) (v := .int .i64 0) x0 rfl
            have y5 := blk_cell (j := 5) (v := .int .i64 0) x0 rfl
            have y6 := blk_cell (j := 6) (v := .int .i64 0) x0 rfl
            have y7 := blk_cell (j := 7) (v := .int .i64 0) x0 rfl
            have y8 := blk_cell (j := 8) (v := .int .i64 0) x0 rfl
            have y9 := blk_cell (j := 9) (v := .int .i64 0) x0 rfl
            have y10 := blk_cell (j := 10) (v := .int .i64 0) x0 rfl
            go_wp2_with (refine wpList_store_row rfl 29 _ _ rfl (w.heap.size + 1) #[.int .i64 v0, .int .u64 i0, .int .i64 ty, .int .i64 0, .int .i64 0, .int .i64 0, .int .i64 0, .int .i64 0, .int .i64 0, .int .i64 0, .int .i64 0] rfl rfl 29 #[.int .i64 0, .int .u64 0, .int .i64 0, .int .i64 0, .int .i64 0, .int .i64 0, .int .i64 0, .int .i64 0, .int .i64 0, .int .i64 0, .int .i64 0] R6.out (by kernel_rfl) rfl (by simp [Value.oneCell']) ?_)
            refine bodyPost_ret (v := .tuple #[.agg #[.int .i64 v0, .int .u64 i0, .int .i64 ty, .int .i64 0, .int .i64 0, .int .i64 0, .int .i64 0, .int .i64 0, .int .i64 0, .int .i64 0, .int .i64 0], .int .i64 0, .int .i64 0]) ?_ rfl ?_
            · simp [results, Tryd.results54, go_sem, y0, y1, y2, y3, y4, y5, y6, y7, y8, y9, y10]
            · exact ⟨hd_ok HF.out, hbE⟩
end Go.Proofs.YtppeonlpocdhkaaDoor

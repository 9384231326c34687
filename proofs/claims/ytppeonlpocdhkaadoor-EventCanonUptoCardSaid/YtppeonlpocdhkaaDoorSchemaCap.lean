/-
  What a schema's slices have room for.
-/
import Derived.Test.YtppeonlpocdhkaaDoorSchemaOwn
namespace Go.Proofs.YtppeonlpocdhkaaDoor
open Go.RowKit Go.ChangeShapes Go.WideShapes Go.Deep Go.Joins
/-- No attributes' slice is longer than its room. -/
def Caps (w : World) (A : Option Addr) (S : Sch) : Prop := ∀ b off, A = some ⟨b, off, none⟩ → ∀ j, j < S.n → ∀ aa ac, w.cell? ⟨b, off + j * 2 + 1, none⟩ = some (.slice aa (S.ln j) ac) → S.ln j ≤ ac
theorem Caps.later {w w' : World} {A : Option Addr} {S : Sch} {B : Nat} (h : Caps w A S) (hT : TypRd w B A S) (hb : Below B w w') : Caps w' A S := by
  intro b off hA j hj aa ac hc
  obtain ⟨b', off', e, hB, _⟩ := hT.2 (by omega)
  rw [hA] at e
  injection e with e
  injection e with e1 e2
  subst e1 e2
  exact h b off hA j hj aa ac ((hb.cell (p := ⟨b, off + j * 2 + 1, none⟩) hB).symm.trans hc)
theorem TypOwn.caps {w : World} {B c : Nat} {A : Option Addr} {S : Sch} (h : TypOwn w B (.slice A S.n c) S) : Caps w A S := by
  intro b off hA j hj aa ac hc
  obtain ⟨hn, sl, h1, h2, _⟩ := h
  obtain ⟨g, cap, hv, hB, hlt⟩ := h1.form (by omega)
  injection hv with hA' _ hcap
  rw [hA] at hA'
  injection hA' with hA'
  injection hA' with e1 e2
  subst e1 e2 hcap
  rw [hA] at h1
  rw [Nat.zero_add, h1.cellAt (j * 2 + 1) (by omega), (rowCells_at S.nm sl hj).2] at hc
  injection hc with hc
  have h3 := (h2 j hj).2
  rw [hc] at h3
  rcases h3.2 with ⟨e, h0⟩ | ⟨g', cap', cur, e, _, _, hle, _⟩
  · omega
  · injection e with _ _ e
    omega
section
variable {H : Type} {enc : TypeId × Value → H} {w : World} {base : Nat} {sp : Nat → Bool} {held : Bool}
theorem open_strs2 {n : Nat} {v : Value} {y : DataW H × List MemPlace} (h : DataW.trod enc Tryd.prog w base sp held n 38 [v] = some y) (hr : Reached Tryd.prog 38 y.1) :
    ∃ aa al ac f, v = .slice aa al ac ∧ StrRd w w.heap.size aa al f ∧ al ≤ ac := by
  rcases open_strings Tryd.underlying38 Tryd.underlying9 (by kernel_rfl) h with ⟨e, _⟩ | ⟨a, len, cap, ss, e, hb, hl, hm, hlen, hx, hc, hs⟩
  · injection e with e
    exact ⟨none, 0, 0, fun _ => .empty, e, ⟨by omega, fun h => absurd rfl h⟩, Nat.le_refl _⟩
  · injection e with e
    have hle : len ≤ ss.length := by rw [hlen]; split <;> omega
    rw [hx] at hr
    have hb16 := (reach_slice Tryd.underlying38 hr).1
    have h16 : Tryd.prog.bytesOf 9 = 16 := by kernel_rfl
    rw [h16] at hb16
    have hl1 : (strs (H := H) (ss.take len)).length = len := by simp [strs]; omega
    rw [hl1] at hb16
    refine ⟨some a, len, cap, fun i => ss.getD i .empty, e, ⟨by omega, fun hn => ?_⟩, hl⟩
    have h0 := addr_of_cell (hc 0 (by omega))
    have ha : a = ⟨a.block, a.off, none⟩ := h0.1
    have hlt : a.block < w.heap.size := h0.2
    refine ⟨a.block, a.off, congrArg some ha, hlt, fun j hj => ?_⟩
    have := hc j (by omega)
    rw [ha, add_none] at this
    exact this
theorem open_types2 {n : Nat} {v : Value} {y : DataW H × List MemPlace} (h : DataW.trod enc Tryd.prog w base sp held n 23 [v] = some y) (hr : Reached Tryd.prog 23 y.1) :
    ∃ aa ac S, v = .slice aa S.n ac ∧ TypRd w w.heap.size aa S ∧ Caps w aa S := by
  rcases open_slice_fields Tryd.underlying23 Tryd.underlying40 (by kernel_rfl) (by kernel_rfl) h with ⟨e, _⟩ | ⟨a, len, cap, m, D, Pl, e, hb, hl, hm, hmm, hx, hf⟩
  · injection e with e
    exact ⟨none, 0, ⟨0, fun _ => .empty, fun _ => 0, fun _ _ => .empty⟩, e, ⟨by simp, fun h => absurd rfl h⟩, fun b off h => by cases h⟩
  · injection e with e
    have hle : len ≤ m := by rw [hmm]; split <;> omega
    rw [hx] at hr
    obtain ⟨hb40, hall⟩ := reach_slice Tryd.underlying23 hr
    have h40 : Tryd.prog.bytesOf 40 = 40 := by kernel_rfl
    rw [h40, List.length_map, List.length_range] at hb40
    have key : ∀ i, ∃ t : ByteArray × Nat × (Nat → ByteArray), i < len → w.cell? (a.add (i * 2)) = some (.string t.1) ∧ ∃ aa ac, w.cell? (a.add (i * 2 + 1)) = some (.slice aa t.2.1 ac) ∧ StrRd w w.heap.size aa t.2.1 t.2.2 ∧ t.2.1 ≤ ac := by
      intro i
      by_cases hi : i < len
      · obtain ⟨ys, n', hD, _, hyl, hfl⟩ := hf i (by omega)
        obtain ⟨v0, y0, hc0, hy0, ht0⟩ := hfl 0 _ rfl
        obtain ⟨v1, y1, hc1, hy1, ht1⟩ := hfl 1 _ rfl
        have hri := hall (D i) (List.mem_map.2 ⟨i, by simpa using hi, rfl⟩)
        rw [hD] at hri
        have hra := reach_struct Tryd.underlying40 hri
        obtain ⟨⟩ | ⟨z0, _ | ⟨z1, ys⟩⟩ := ys
        · simp at hy0
        · simp at hy1
        obtain rfl : z0 = y0 := by simpa using hy0
        obtain rfl : z1 = y1 := by simpa using hy1
        obtain ⟨s, e1, e2, _⟩ := DataW.trod_string Tryd.underlying9 ht0
        obtain ⟨aa, al, ac, f, e3, hs⟩ := open_strs2 ht1 (reach_cons (reach_cons hra).2).1
        injection e1 with e1
        subst e1
        subst e3
        exact ⟨(s, al, f), fun _ => ⟨hc0, aa, ac, hc1, hs⟩⟩
      · exact ⟨(.empty, 0, fun _ => .empty), fun h => absurd h hi⟩
    obtain ⟨g, hg⟩ := Classical.axiomOfChoice key
    refine ⟨some a, cap, ⟨len, fun i => (g i).1, fun i => (g i).2.1, fun i => (g i).2.2⟩, e, ⟨by show len * 40 ≤ _; omega, fun hn => ?_⟩, fun b off hA j hj aa ac hcell => ?_⟩
    · have h0 := addr_of_cell (hg 0 (Nat.pos_of_ne_zero hn)).1
      rw [Nat.zero_mul] at h0
      have ha0 : a.add 0 = a := rfl
      rw [ha0] at h0
      refine ⟨a.block, a.off, congrArg some h0.1, h0.2, fun j hj => ?_⟩
      obtain ⟨k1, aa, ac, k2, k3, _⟩ := hg j hj
      rw [h0.1, add_none] at k1 k2
      exact ⟨k1, aa, ac, k2, k3⟩
    · obtain ⟨_, aa', ac', k2, _, k4⟩ := hg j hj
      injection hA with hA
      rw [hA, add_none, ← Nat.add_assoc] at k2
      rw [k2] at hcell
      injection hcell with hcell
      injection hcell with _ _ hcell
      rw [← hcell]
      exact k4
set_option maxRecDepth 8000 in
/-- A schema that is handed in. -/
theorem open_schema2 {r : Reach} {b0 : Nat} {v : Value} {d : DataW H} {p : List MemPlace} (hv : Value.okWide Tryd.prog w r b0 25 v) (h : DataW.Trod enc Tryd.prog w base sp held 25 v d p)
    (hr : Reached Tryd.prog 25 d) : ∃ A S cap, v = .agg #[.slice A S.n cap] ∧ TypRd w w.heap.size A S ∧ Caps w A S := by
  obtain ⟨cs, rfl, hsz⟩ := okWide_struct Tryd.underlying25 hv
  have hc1 : Tryd.prog.cellsOf 25 = 1 := by kernel_rfl
  have h1 : cs.size = 1 := hsz.trans hc1
  obtain ⟨l⟩ := cs
  match l, h1 with
  | [c0], _ =>
    obtain ⟨fuel, hf⟩ := h
    obtain ⟨xs, n, _, hx, _, hlen, hg⟩ := DataW.trod_struct Tryd.underlying25 hf
    match xs, hlen with
    | [y0], _ =>
      simp only [Prod.mk.injEq] at hx
      have g0 := hg 0 _ rfl
      have hd : d = .agg [y0.1] := by simpa using hx.1
      rw [hd] at hr
      have hra := (reach_cons (reach_struct Tryd.underlying25 hr)).1
      obtain ⟨aa, ac, S, e, hT⟩ := open_types2 (v := c0) (y := y0) (n := n) (by
        have hc1 : Tryd.prog.cellsOf 23 = 1 := by kernel_rfl
        simpa [Value.cells, hc1] using g0) hra
      subst e
      exact ⟨aa, S, ac, rfl, hT⟩
end
end Go.Proofs.YtppeonlpocdhkaaDoor

/-
  An event that is handed in: its cells.
-/
import Derived.Test.YtppeonlpocdhkaaDoorCheckEvent
namespace Go.Proofs.YtppeonlpocdhkaaDoor
open Go.RowKit Go.ChangeShapes Go.WideShapes Go.Deep
theorem arr_agg {H : Type} {enc : TypeId × Value → H} {P : Program} {w : World} {base : Nat} {sp : Nat → Bool} {held : Bool} {fuel : Nat} {t e : TypeId} {n : Nat} {cs : List Value} {x : DataW H × List MemPlace}
    (ht : P.underlying t = some (.array n e)) (h : DataW.trod enc P w base sp held fuel t cs = some x) : ∃ ds p, x = (.agg ds, p) := by
  cases fuel with
  | zero => simp [DataW.trod] at h
  | succ fuel =>
    simp only [DataW.trod, ht] at h
    split at h
    · obtain ⟨xs, hm, hx⟩ := Option.map_eq_some_iff.1 h
      exact ⟨_, _, hx.symm⟩
    · cases h
theorem arr_ints {H : Type} {enc : TypeId × Value → H} {P : Program} {w : World} {base : Nat} {sp : Nat → Bool} {held : Bool} {fuel : Nat} {t e : TypeId} {n : Nat} {k : IntKind} {cs : List Value} {x : DataW H × List MemPlace}
    (ht : P.underlying t = some (.array n e)) (he : P.underlying e = some (.int k)) (hce : P.cellsOf e = 1) (hct : P.cellsOf t = n) (h : DataW.trod enc P w base sp held fuel t cs = some x) :
    ∃ a : Nat → Int, ∀ i, i < n → cs[i]? = some (.int k (a i)) ∧ (Lit.int k (a i)).wf = true := by
  obtain ⟨ds, p, rfl⟩ := arr_agg ht h
  obtain ⟨h1, h2, h3⟩ := arr_cells ht hce hct h
  have key : ∀ i, ∃ z : Int, i < n → cs[i]? = some (.int k z) ∧ (Lit.int k z).wf = true := by
    intro i
    by_cases hi : i < n
    · obtain ⟨v, f, q, hc, hf⟩ := h3 i (ds[i]'(by omega)) (List.getElem?_eq_getElem (by omega))
      obtain ⟨z, e1, _, hw⟩ := DataW.trod_int he hf
      injection e1 with e1
      subst e1
      exact ⟨z, fun _ => ⟨hc, hw⟩⟩
    · exact ⟨0, fun h => absurd h hi⟩
  exact Classical.axiomOfChoice key
set_option maxRecDepth 8000 in
theorem open_event {H : Type} {enc : TypeId × Value → H} {w : World} {base : Nat} {sp : Nat → Bool} {held : Bool} {r : Reach} {b0 : Nat} {v : Value} {d : DataW H} {p : List MemPlace} (hv : Value.okWide Tryd.prog w r b0 29 v) (h : DataW.Trod enc Tryd.prog w base sp held 29 v d p) :
    ∃ ts id ty a, v = .agg (evCells ts id ty a) ∧ (Lit.int .i64 ts).wf = true ∧ (Lit.int .u64 id).wf = true ∧ (Lit.int .i64 ty).wf = true ∧ ∀ j, j < 8 → (Lit.int .i64 (a j)).wf = true := by
  obtain ⟨cs, rfl, hsz⟩ := okWide_struct Tryd.underlying29 hv
  have hc11 : Tryd.prog.cellsOf 29 = 11 := by kernel_rfl
  have h1 : cs.size = 11 := hsz.trans hc11
  have k1 : Tryd.prog.cellsOf 2 = 1 := by kernel_rfl
  have k2 : Tryd.prog.cellsOf 26 = 1 := by kernel_rfl
  have k3 : Tryd.prog.cellsOf 3 = 1 := by kernel_rfl
  have k4 : Tryd.prog.cellsOf 27 = 8 := by kernel_rfl
  obtain ⟨l⟩ := cs
  match l, h1 with
  | [c0, c1, c2, c3, c4, c5, c6, c7, c8, c9, c10], _ =>
    obtain ⟨fuel, hf⟩ := h
    obtain ⟨xs, n, _, hx, _, hlen, hg⟩ := DataW.trod_struct Tryd.underlying29 hf
    match xs, hlen with
    | [y0, y1, y2, y3], _ =>
      have g0 := hg 0 _ rfl
      have g1 := hg 1 _ rfl
      have g2 := hg 2 _ rfl
      have g3 := hg 3 _ rfl
      simp [k1, k2, k3, k4] at g0 g1 g2 g3
      obtain ⟨ts, e0, _, w0⟩ := DataW.trod_int Tryd.underlying2 g0
      obtain ⟨id, e1, _, w1⟩ := DataW.trod_int Tryd.underlying26 g1
      obtain ⟨ty, e2, _, w2⟩ := DataW.trod_int Tryd.underlying3 g2
      obtain ⟨a, ha⟩ := arr_ints Tryd.underlying27 Tryd.underlying2 k1 k4 g3
      injection e0 with e0
      injection e1 with e1
      injection e2 with e2
      have q0 := (ha 0 (by omega)).1
      have q1 := (ha 1 (by omega)).1
      have q2 := (ha 2 (by omega)).1
      have q3 := (ha 3 (by omega)).1
      have q4 := (ha 4 (by omega)).1
      have q5 := (ha 5 (by omega)).1
      have q6 := (ha 6 (by omega)).1
      have q7 := (ha 7 (by omega)).1
      simp [Value.cells] at q0 q1 q2 q3 q4 q5 q6 q7
      refine ⟨ts, id, ty, a, ?_, w0, w1, w2, fun j hj => (ha j hj).2⟩
      rw [e0, e1, e2, q0, q1, q2, q3, q4, q5, q6, q7]
      rfl
end Go.Proofs.YtppeonlpocdhkaaDoor

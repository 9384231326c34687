/-
  The law EventReads, its arguments opened: for a line of the bound's length.
-/
import Derived.Test.YtppeonlpocdhkaaDoorEventReadsWalk
import Derived.Test.YtppeonlpocdhkaaDoorErrVar
set_option linter.unusedSimpArgs false
set_option linter.unusedVariables false
namespace Go.Proofs.YtppeonlpocdhkaaDoor
open Go.RowKit Go.ChangeShapes Go.WideShapes Go.ChangeAt
/-- What the bound gives of a string among what comes in. -/
theorem bulk_mem {H : Type} {d : DataW H} {l : List (DataW H)} (h : d ∈ l) : Rows.uptoBulk d ≤ Rows.uptoBulkAll l := by
  induction l with
  | nil => cases h
  | cons x r ih =>
    simp only [Rows.uptoBulkAll]
    rcases List.mem_cons.1 h with e | e
    · subst e; omega
    · have := ih e; omega
theorem bulk_string {H : Type} {s : ByteArray} {l : List (DataW H)} (hk : Rows.uptoSmall H l = true) (h : DataW.lit (.string s.data.toList) ∈ l) : s.size ≤ 1048576 := by
  have h1 : Rows.uptoBulkAll l ≤ 1048576 := of_decide_eq_true hk
  have h2 := bulk_mem h
  simp only [Rows.uptoBulk] at h2
  have e : s.data.toList.length = s.size := rfl
  omega
set_option maxRecDepth 8000 in
set_option maxHeartbeats 2000000 in
theorem eventReads_main {H : Type} {enc : TypeId × Value → H} (W : World) (base : Nat) {v0 v1 : Value} {d0 d1 : DataW H} {p0 p1 : List MemPlace} {X S : Prop}
    (o0 : Value.okWide Tryd.prog W .any base 25 v0) (h0 : DataW.Trod enc Tryd.prog W 0 (fun _ => true) true 25 v0 d0 p0)
    (o1 : Value.okWide Tryd.prog W .any base 9 v1) (h1 : DataW.Trod enc Tryd.prog W 0 (fun _ => true) true 9 v1 d1 p1)
    (_ : X) (hz : ReachedAll Tryd.prog ([25, 9] ++ (Rows.OpenSpec.upto Rows.eventReadsSpec).bare.plain.varTypes Tryd.prog) ([d0, d1] ++ []))
    (hcond : ∀ k, (Rows.OpenSpec.upto Rows.eventReadsSpec).cond = some k → k H ([d0, d1] ++ []) = true)
    (h : laidMetH Tryd.prog Rows.eventReadsUptoRow.laid W) (_ : S) :
    Calls Tryd.prog 8 #[v0, v1] W fun e W' => e = .returned (.bool true) ∧ Below W.heap.size W W' := by
  have hv0 := kwVar (laid := Rows.eventReadsUptoRow.laid) h 5 rfl
  have hv1 := errVar (laid := Rows.eventReadsUptoRow.laid) h 3 rfl
  have hk := hcond _ rfl
  obtain ⟨t0, f0, g0⟩ := var_block gKeywords hv0
  obtain ⟨A, T, cap, rfl, hT⟩ := open_schema o0 h0 (reach_cons hz).1
  obtain ⟨s, rfl, rfl, rfl, hmax⟩ := Go.ChangeMaps.open_string Tryd.underlying9 o1 h1
  exact eventReads_walk s (bulk_string hk (by simp)) A cap T W hT hv1 g0
end Go.Proofs.YtppeonlpocdhkaaDoor

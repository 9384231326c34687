/-
  Several texts in one: BulkQuery, KwVar.
-/
import Derived.Test.YtagcbljfaflhoaaDoorFlw33
import Derived.Test.YtagcbljfaflhoaaDoorFlw2
import Derived.Test.YtagcbljfaflhoaaDoorFlw26
import Derived.Test.YtagcbljfaflhoaaDoorFlw0
set_option linter.unusedSimpArgs false
set_option linter.unusedVariables false
/-! ### What a query's bulk bounds: how many items, types, nodes, trees it has. -/
namespace Go.Proofs.YtagcbljfaflhoaaDoor
open Go.RowKit Go.ChangeShapes Go.WideShapes Go.Deep
theorem bulk_sum {H : Type} {D : Nat → DataW H} {g : Nat → Nat} : ∀ n : Nat, (∀ i, i < n → g i ≤ Rows.uptoBulk (D i)) → sumN g n ≤ Rows.uptoBulkAll ((List.range n).map D)
  | 0, _ => Nat.zero_le _
  | n + 1, h => by
    have e : Rows.uptoBulkAll ((List.range (n + 1)).map D) = Rows.uptoBulkAll ((List.range n).map D) + Rows.uptoBulk (D n) := by
      rw [List.range_succ, List.map_append]
      generalize (List.range n).map D = l
      induction l with
      | nil => simp [Rows.uptoBulkAll]
      | cons x r ih =>
        simp only [List.cons_append, Rows.uptoBulkAll, ih]
        omega
    have h1 := bulk_sum n (fun i hi => h i (by omega))
    have h2 := h n (by omega)
    rw [e]
    simp only [sumN]
    omega
/-- Sums of squares are bounded by the sum's square. -/
theorem sum_sq {g : Nat → Nat} : ∀ n : Nat, sumN (fun i => g i * (g i + 1) + 2) n ≤ sumN (fun i => g i + 2) n * (sumN (fun i => g i + 2) n)
  | 0 => Nat.zero_le _
  | n + 1 => by
    have h := sum_sq (g := g) n
    show sumN (fun i => g i * (g i + 1) + 2) n + (g n * (g n + 1) + 2) ≤ (sumN (fun i => g i + 2) n + (g n + 2)) * (sumN (fun i => g i + 2) n + (g n + 2))
    generalize sumN (fun i => g i + 2) n = s at *
    generalize sumN (fun i => g i * (g i + 1) + 2) n = t at *
    generalize g n = x
    have e : (s + (x + 2)) * (s + (x + 2)) = s * s + 2 * (s * (x + 2)) + (x + 2) * (x + 2) := by
      simp only [Nat.mul_add, Nat.add_mul, Nat.mul_comm x s, Nat.mul_comm 2 s, Nat.two_mul]
      omega
    have e2 : (x + 2) * (x + 2) = x * (x + 1) + 3 * x + 4 := by
      simp only [Nat.mul_add, Nat.add_mul]
      omega
    rw [e, e2]
    have := Nat.zero_le (2 * (s * (x + 2)))
    omega
theorem gI_small {Q : Qry} (h : sumN (fun i => (Q.it i).tn + 2) Q.n ≤ 1048576) : sumN (gI Q) Q.n ≤ 2199023255552 := by
  have h1 := sum_sq (g := fun i => (Q.it i).tn) Q.n
  have h5 : sumN (fun i => (Q.it i).tn + 2) Q.n * sumN (fun i => (Q.it i).tn + 2) Q.n ≤ 1048576 * 1048576 := Nat.mul_le_mul h h
  have h6 : sumN (gI Q) Q.n = sumN (fun i => (Q.it i).tn * ((Q.it i).tn + 1) + 2) Q.n := rfl
  rw [h6]
  omega
section
variable {H : Type} {enc : TypeId × Value → H} {w : World} {base : Nat} {sp : Nat → Bool} {held : Bool}
/-- A list of trees: how many nodes they have. -/
theorem bulk_trees {fuel : Nat} {A : Option Addr} {m cap : Nat} {B : Nat} {ln : Nat → Nat} {g : Nat → Nat → Nod} {y : DataW H × List MemPlace} (h : DataW.trod enc Tryd.prog w base sp held fuel 38 [.slice A m cap] = some y) (hR : TreesRd w B A m ln g) :
    m ≤ Rows.uptoBulk y.1 ∧ sumN ln m ≤ Rows.uptoBulk y.1 := by
  refine ⟨bulk_slice Tryd.underlying38 h, ?_⟩
  rcases open_slice Tryd.underlying38 h with ⟨ev, _⟩ | ⟨a, len, cap', m', k, D, Pl, ev, hb, hl, hm, hmm, hx, hi⟩
  · injection ev with ev
    injection ev with _ e2 _
    subst e2
    exact Nat.zero_le _
  · injection ev with ev
    injection ev with e1 e2 _
    subst e2
    rw [hx]
    have hle : m ≤ m' := by rw [hmm]; split <;> omega
    have hs := bulk_sum (D := D) (g := ln) m fun i him => by
      obtain ⟨cs, hc, ht⟩ := hi i (by omega)
      have h1 : Tryd.prog.cellsOf 22 = 1 := by kernel_rfl
      rw [h1] at hc
      obtain ⟨_, hcl, hat⟩ := World.cells?_some hc
      obtain ⟨b, off, e, _, hcs⟩ := hR.spot (by omega)
      rw [e1] at e
      injection e with e
      subst e
      obtain ⟨ta, tc, hcell, _⟩ := hcs i him
      have hv := hat 0 (by omega)
      rw [Nat.mul_one, add_none, add_none] at hv
      have hv' : w.cell? ⟨b, off + i, none⟩ = cs[0]? := hv
      rw [hcell] at hv'
      match cs, hcl with
      | [c0], _ =>
        simp only [List.getElem?_cons_zero, Option.some.injEq] at hv'
        subst hv'
        have := bulk_nodes ht
        exact this
    simp only [Rows.uptoBulk]
    omega
/-- A list of items: how many types they have. -/
theorem bulk_items {fuel : Nat} {A : Option Addr} {m cap : Nat} {B : Nat} {f : Nat → Itm} {y : DataW H × List MemPlace} (h : DataW.trod enc Tryd.prog w base sp held fuel 35 [.slice A m cap] = some y) (hR : ItmsRd w B A m f) :
    m ≤ Rows.uptoBulk y.1 ∧ sumN (fun i => (f i).tn + 2) m ≤ Rows.uptoBulk y.1 := by
  refine ⟨bulk_slice Tryd.underlying35 h, ?_⟩
  rcases open_slice Tryd.underlying35 h with ⟨ev, _⟩ | ⟨a, len, cap', m', k, D, Pl, ev, hb, hl, hm, hmm, hx, hi⟩
  · injection ev with ev
    injection ev with _ e2 _
    subst e2
    exact Nat.zero_le _
  · injection ev with ev
    injection ev with e1 e2 _
    subst e2
    rw [hx]
    have hle : m ≤ m' := by rw [hmm]; split <;> omega
    have hs := bulk_sum (D := D) (g := fun i => (f i).tn + 2) m fun i him => by
      obtain ⟨cs, hc, ht⟩ := hi i (by omega)
      have h5 : Tryd.prog.cellsOf 80 = 5 := by kernel_rfl
      have k1 : Tryd.prog.cellsOf 4 = 1 := by kernel_rfl
      have k2 : Tryd.prog.cellsOf 75 = 1 := by kernel_rfl
      rw [h5] at hc
      obtain ⟨_, hcl, hat⟩ := World.cells?_some hc
      obtain ⟨b, off, e, _, hcs⟩ := hR.spot (by omega)
      rw [e1] at e
      injection e with e
      subst e
      obtain ⟨_, ⟨ta, tc, hcell, _⟩, _⟩ := hcs i him
      have hv := hat 1 (by omega)
      rw [add_none, add_none] at hv
      have hv' : w.cell? ⟨b, off + i * 5 + 1, none⟩ = cs[1]? := hv
      rw [hcell] at hv'
      match cs, hcl with
      | [c0, c1, c2, c3, c4], _ =>
        simp only [List.getElem?_cons_succ, List.getElem?_cons_zero, Option.some.injEq] at hv'
        subst hv'
        obtain ⟨xs, n', _, hx', _, hl2, hg⟩ := DataW.trod_struct Tryd.underlying80 ht
        match xs, hl2 with
        | [y0, y1, y2, y3, y4], _ =>
          have g1 := hg 1 _ rfl
          simp [k1, k2] at g1
          have hd : D i = .agg [y0.1, y1.1, y2.1, y3.1, y4.1] := by simpa using (Prod.mk.inj hx').1
          have := bulk_slice Tryd.underlying75 g1
          have b0 := bulk_one y0.1
          have b2 := bulk_one y2.1
          rw [hd]
          simp only [Rows.uptoBulk, Rows.uptoBulkAll]
          omega
    simp only [Rows.uptoBulk]
    omega
set_option maxRecDepth 20000 in
/-- A query that is handed in: how great it is. -/
theorem bulk_query {V : QryV} {Q : Qry} {d : DataW H} {p : List MemPlace} (h : DataW.Trod enc Tryd.prog w base sp held 40 (.agg (qryArr V Q)) d p) (hR : QryRd w w.heap.size V Q) (hd : Rows.uptoBulk d ≤ 1048576) :
    Q.n ≤ 1048576 ∧ Q.wn ≤ 1048576 ∧ Q.m ≤ 1048576 ∧ sumN Q.ln Q.m ≤ 1048576 ∧ sumN (gI Q) Q.n ≤ 2199023255552 := by
  have k1 : Tryd.prog.cellsOf 35 = 1 := by kernel_rfl
  have k2 : Tryd.prog.cellsOf 36 = 1 := by kernel_rfl
  have k3 : Tryd.prog.cellsOf 37 = 1 := by kernel_rfl
  have k4 : Tryd.prog.cellsOf 22 = 1 := by kernel_rfl
  have k5 : Tryd.prog.cellsOf 2 = 1 := by kernel_rfl
  have k6 : Tryd.prog.cellsOf 9 = 1 := by kernel_rfl
  have k7 : Tryd.prog.cellsOf 38 = 1 := by kernel_rfl
  obtain ⟨fuel, hf⟩ := h
  obtain ⟨xs, n, _, hx, _, hlen, hg⟩ := DataW.trod_struct Tryd.underlying40 hf
  match xs, hlen with
  | [y0, y1, y2, y3, y4, y5, y6], _ =>
    have g0 := hg 0 _ rfl
    have g3 := hg 3 _ rfl
    have g6 := hg 6 _ rfl
    simp [k1, k2, k3, k4, k5, k6, k7, Value.cells, qryArr] at g0 g3 g6
    simp only [Prod.mk.injEq] at hx
    have he : d = .agg [y0.1, y1.1, y2.1, y3.1, y4.1, y5.1, y6.1] := by simpa using hx.1
    obtain ⟨a1, a2⟩ := bulk_items g0 hR.rI
    have a3 := bulk_nodes g3
    obtain ⟨a4, a5⟩ := bulk_trees g6 hR.rR
    rw [he] at hd
    simp only [Rows.uptoBulk, Rows.uptoBulkAll] at hd
    exact ⟨by omega, by omega, by omega, by omega, gI_small (by omega)⟩
end
end Go.Proofs.YtagcbljfaflhoaaDoor

/-! ### The table of keywords: what the rows list of it. -/
namespace Go.Proofs.YtagcbljfaflhoaaDoor
open Go.RowKit
theorem gKeywords : Tryd.prog.globalNamed "sluice/api.Keywords" = some 0 := by kernel_rfl
theorem tKeywords : (Tryd.prog.globals[0]?).map (·.type) = some 123 := by kernel_rfl
theorem cellsKw : Tryd.prog.cellsOf 123 = 27 := by kernel_rfl
theorem cellsStr : Tryd.prog.cellsOf 9 = 1 := by kernel_rfl
theorem kwVar {W : World} {laid : List (String × DataW Unit)} (h : laidMet Tryd.prog laid W) (i : Nat) (hi : laid[i]? = some ("sluice/api.Keywords", Rows.laid_sluice_api_Keywords)) :
    W.var? Tryd.prog "sluice/api.Keywords" = some (kwList.map fun s => Value.string ⟨s.toArray⟩).toArray :=
  strTab h i kwList hi gKeywords tKeywords Tryd.underlying123 Tryd.underlying9 cellsStr cellsKw
end Go.Proofs.YtagcbljfaflhoaaDoor

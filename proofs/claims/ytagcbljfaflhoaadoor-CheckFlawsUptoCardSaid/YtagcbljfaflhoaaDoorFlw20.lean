/-
  Several texts in one: OfNode1.
-/
import Derived.Test.YtagcbljfaflhoaaDoorFlw18
import Derived.Test.YtagcbljfaflhoaaDoorFlw19
set_option linter.unusedSimpArgs false
set_option linter.unusedVariables false
/-! ### The walks of sluiceref6.repeated and sluiceref6.ofNode: what a node earns, by rank. -/
namespace Go.Proofs.YtagcbljfaflhoaaDoor
open Go.RowKit Go.ChangeShapes Go.WideShapes Go.ChangeAt Go.Deep Go.Joins
set_option maxRecDepth 100000 in
theorem repeated_any (x : Itm) (v : Value) (w : World) : Calls Tryd.prog 109 #[.agg (itmArr x v)] w fun e w' => e = .returned (.bool (repB x)) ∧ Below w.heap.size w w' := by
  obtain ⟨ng, tn, ty, vr, lo, hi⟩ := x
  show Calls _ _ #[.agg #[.bool ng, v, .string vr, .int .i64 lo, .int .i64 hi]] w _
  have hb0 := bnew (Below.refl w.heap.size w) (.cells #[.bool ng, v, .string vr, .int .i64 lo, .int .i64 hi] 80)
  have I0 := Lib.hid (blk_new w #[.bool ng, v, .string vr, .int .i64 lo, .int .i64 hi] 80)
  go_enter Tryd.func109, Tryd.ntmps109
  go_upto_region 1 with fail
  generalize w.alloc _ = w0 at *
  have z0 := blk_cell I0.out (j := 0) rfl
  have z4 := blk_cell I0.out (j := 4) rfl
  cases ng
  · by_cases h1 : 1 < hi
    · go_wp2_with fail
      go_ret
      exact ⟨by simp [repB, h1], hb0⟩
    · go_wp2_with fail
      go_ret
      exact ⟨by simp [repB, h1], hb0⟩
  · go_wp2_with fail
    go_ret
    exact ⟨by simp [repB], hb0⟩
/-- What node i earns, as ofNode tells it. -/
def rkArr (S : Sch) (Q : Qry) (r : Bool) (f : Nat → Nod) (i : Nat) : Array Value := #[.int .i64 0, .int .i64 (nodeR S Q r f i 1), .int .i64 (nodeR S Q r f i 2), .int .i64 (nodeR S Q r f i 3), .int .i64 (nodeR S Q r f i 4)]
section
variable {S : Sch} {Q : Qry} {r : Bool} {f : Nat → Nod} {i j : Nat} {x : Nod} {y : Itm}
theorem rk_none (hx : f i = x) (hb : (bareB x.op || aggB x.op) = true) (hI : itemI Q.n Q.it x.vr = -1) : rkArr S Q r f i = #[.int .i64 0, .int .i64 68, .int .i64 0, .int .i64 0, .int .i64 0] := by
  subst hx
  have hb' : ¬ (bareB (f i).op || aggB (f i).op) = false := by rw [hb]; simp
  simp only [rkArr, nodeR]
  rw [if_pos ⟨hb, hI⟩, if_neg (fun h => h.2.1 hI), if_neg (fun h => h.2.1 hI), if_neg (fun h => hb' h.1)]
theorem rk_at (hx : f i = x) (hb : (bareB x.op || aggB x.op) = true) (hI : itemI Q.n Q.it x.vr = (j : Nat)) (hy : Q.it j = y) : rkArr S Q r f i = #[.int .i64 0, .int .i64 0, .int .i64 (if (!(x.op == 5) && !hasB S y x.at_) = true then 69 else 0),
    .int .i64 (if ((aggB x.op && y.neg) || (x.op == 11 && !repB y) || (r && bareB x.op && (y.neg || repB y))) = true then 76 else 0), .int .i64 0] := by
  subst hx
  have hb' : ¬ (bareB (f i).op || aggB (f i).op) = false := by rw [hb]; simp
  have hn : itemI Q.n Q.it (f i).vr ≠ -1 := by omega
  have hj : (itemI Q.n Q.it (f i).vr).toNat = j := by omega
  have e1 : nodeR S Q r f i 1 = 0 := by simp only [nodeR]; rw [if_neg (fun h => hn h.2)]
  have e2 : nodeR S Q r f i 2 = if (!((f i).op == 5) && !hasB S y (f i).at_) = true then 69 else 0 := by simp only [nodeR, hj, hy, hb, hn, ne_eq, not_false_eq_true, true_and]
  have e3 : nodeR S Q r f i 3 = if ((aggB (f i).op && y.neg) || ((f i).op == 11 && !repB y) || (r && bareB (f i).op && (y.neg || repB y))) = true then 76 else 0 := by simp only [nodeR, hj, hy, hb, hn, ne_eq, not_false_eq_true, true_and]
  have e4 : nodeR S Q r f i 4 = 0 := by simp only [nodeR]; rw [if_neg (fun h => hb' h.1)]
  rw [rkArr, e1, e2, e3, e4]
theorem rk_at' (hx : f i = x) (hb : (bareB x.op || aggB x.op) = true) (hI : itemI Q.n Q.it x.vr = (j : Nat)) (hy : Q.it j = y) {h2 h3 : Bool} (e2 : (!(x.op == 5) && !hasB S y x.at_) = h2) (e3 : ((aggB x.op && y.neg) || (x.op == 11 && !repB y) || (r && bareB x.op && (y.neg || repB y))) = h3) :
    rkArr S Q r f i = #[.int .i64 0, .int .i64 0, .int .i64 (if h2 = true then 69 else 0), .int .i64 (if h3 = true then 76 else 0), .int .i64 0] := by
  rw [rk_at hx hb hI hy, e2, e3]
theorem rk_op (hx : f i = x) (hb : (bareB x.op || aggB x.op) = false) : rkArr S Q r f i = #[.int .i64 0, .int .i64 0, .int .i64 0, .int .i64 0, .int .i64 (if (kidB f (wantB x.op) x.a && kidB f (wantB x.op) x.b) = true then 0 else 75)] := by
  subst hx
  have hb' : ¬ (bareB (f i).op || aggB (f i).op) = true := by rw [hb]; simp
  simp only [rkArr, nodeR]
  rw [if_neg (fun h => hb' h.1), if_neg (fun h => hb' h.1), if_neg (fun h => hb' h.1)]
  have e : kindsB f (f i) = (kidB f (wantB (f i).op) (f i).a && kidB f (wantB (f i).op) (f i).b) := rfl
  rw [← e]
  cases hk : kindsB f (f i)
  · rw [if_pos ⟨hb, rfl⟩]; rfl
  · rw [if_neg (fun h => by cases h.2)]; rfl
end
end Go.Proofs.YtagcbljfaflhoaaDoor

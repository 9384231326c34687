/-
  The walk of the law EventOrders: event.Compare's answers as integers, and what three of them have to do with each other.
-/
import Derived.Test.YtppeonlpocdhkaaKit
namespace Go.Proofs.Ytppeonlpocdhkaa
open Go.RowKit Go.ChangeShapes Go.WideShapes Go.ChangeAt Go.Joins
def lt2 (t1 i1 t2 i2 : Int) : Bool := decide (t1 < t2) || (t1 == t2 && decide (i1 < i2))
def cmp2 (t1 i1 t2 i2 : Int) : Int := if lt2 t1 i1 t2 i2 then -1 else if lt2 t2 i2 t1 i1 then 1 else 0
set_option maxHeartbeats 400000 in
theorem before_any (t1 i1 t2 i2 : Int) (w : World) :
    Calls Try.prog 12 #[.agg #[.int .i64 t1, .int .u64 i1], .agg #[.int .i64 t2, .int .u64 i2]] w fun e w' => e = .returned (.bool (lt2 t1 i1 t2 i2)) ∧ Below w.heap.size w w' := by
  go_enter Try.func12, Try.ntmps12
  go_wp2
  · have e2 : t1 = t2 := by assumption
    go_ret
    refine ⟨?_, bnew (bnew (Below.refl _ _) _) _⟩
    simp [lt2, e2]
  · have e1 : t2 ≤ t1 := by assumption
    have e2 : ¬ t1 = t2 := by assumption
    go_ret
    refine ⟨?_, bnew (bnew (Below.refl _ _) _) _⟩
    simp [lt2, e2]
  · have e1 : t1 < t2 := by assumption
    go_ret
    refine ⟨?_, bnew (bnew (Below.refl _ _) _) _⟩
    simp [lt2, e1]
set_option maxHeartbeats 400000 in
theorem compare_any (t1 i1 t2 i2 : Int) (w : World) :
    Calls Try.prog 5 #[.agg #[.int .i64 t1, .int .u64 i1], .agg #[.int .i64 t2, .int .u64 i2]] w fun e w' => e = .returned (.int .i64 (cmp2 t1 i1 t2 i2)) ∧ Below w.heap.size w w' := by
  cases h1 : lt2 t1 i1 t2 i2
  · cases h2 : lt2 t2 i2 t1 i1
    all_goals
      have H1 := Lib.hid h1
      have H2 := Lib.hid h2
      clear h1 h2
      go_enter Try.func5, Try.ntmps5
      go_wp2_with fail
      refine (before_any t1 i1 t2 i2 _).mono ?_
      rintro e w1 ⟨rfl, hb⟩
      rw [H1.out]
      obtain ⟨hc, hf⟩ := bcell hb
      have hz := hb.size
      simp at hz
      go_wp2_with fail
      refine (before_any t2 i2 t1 i1 _).mono ?_
      rintro e w2 ⟨rfl, hb2⟩
      rw [H2.out]
      go_wp2_with fail
      go_ret
      exact ⟨by simp [cmp2, H1.out, H2.out], bcall (bcall (bnew (bnew (Below.refl _ _) _) _) hb) hb2⟩
  · have H1 := Lib.hid h1
    clear h1
    go_enter Try.func5, Try.ntmps5
    go_wp2_with fail
    refine (before_any t1 i1 t2 i2 _).mono ?_
    rintro e w1 ⟨rfl, hb⟩
    rw [H1.out]
    go_wp2_with fail
    go_ret
    exact ⟨by simp [cmp2, H1.out], bcall (bnew (bnew (Below.refl _ _) _) _) hb⟩

/-- what the three answers have to do with each other -/
theorem cmp_facts (at1 ai bt bi ct ci : Int) :
    (-1 ≤ cmp2 at1 ai bt bi ∧ cmp2 at1 ai bt bi ≤ 1) ∧ cmp2 bt bi at1 ai = -cmp2 at1 ai bt bi ∧ (cmp2 at1 ai bt bi = 0 ↔ at1 = bt ∧ ai = bi) ∧
    (cmp2 at1 ai bt bi ≤ 0 → cmp2 bt bi ct ci ≤ 0 → cmp2 at1 ai ct ci ≤ 0) ∧ (at1 < bt → cmp2 at1 ai bt bi = -1) ∧ (at1 = bt → ai < bi → cmp2 at1 ai bt bi = -1) := by
  simp only [cmp2, lt2, Bool.or_eq_true, Bool.and_eq_true, decide_eq_true_eq, beq_iff_eq]
  refine ⟨?_, ?_, ?_, ?_, ?_, ?_⟩ <;> repeat' split
  all_goals omega
set_option maxHeartbeats 1000000 in
theorem orders_walk (at1 ai bt bi ct ci : Int) (w : World) :
    Calls Try.prog 3 #[.agg #[.int .i64 at1, .int .u64 ai], .agg #[.int .i64 bt, .int .u64 bi], .agg #[.int .i64 ct, .int .u64 ci]] w fun e w' => e = .returned (.bool true) ∧ Below w.heap.size w w' := by
  have F := cmp_facts at1 ai bt bi ct ci
  generalize hx : cmp2 at1 ai bt bi = x at F
  generalize hy : cmp2 bt bi at1 ai = y at F
  generalize hz : cmp2 bt bi ct ci = z at F
  generalize hu : cmp2 at1 ai ct ci = u at F
  have Hx := Lib.hid hx
  have Hy := Lib.hid hy
  have Hz := Lib.hid hz
  have Hu := Lib.hid hu
  obtain ⟨⟨x1, x2⟩, F⟩ := F
  have HF := Lib.hid F
  clear hx hy hz hu F
  go_enter Try.func3, Try.ntmps3
  go_wp2_with fail
  refine (compare_any at1 ai bt bi _).mono ?_
  rintro e w1 ⟨rfl, hb1⟩
  rw [Hx.out]
  obtain ⟨hc1, hf1⟩ := bcell hb1
  have q1 := hb1.size
  simp at q1
  have q10 : w.heap.size < w1.heap.size := by omega
  have q11 : w.heap.size + 1 < w1.heap.size := by omega
  have q12 : w.heap.size + 1 + 1 < w1.heap.size := by omega
  go_wp2_with fail
  refine (compare_any bt bi at1 ai _).mono ?_
  rintro e w2 ⟨rfl, hb2⟩
  rw [Hy.out]
  obtain ⟨hc2, hf2⟩ := bcell hb2
  have q2 := hb2.size
  have q20 : w.heap.size < w2.heap.size := by omega
  have q21 : w.heap.size + 1 < w2.heap.size := by omega
  have q22 : w.heap.size + 1 + 1 < w2.heap.size := by omega
  go_wp2_with fail
  refine (compare_any bt bi ct ci _).mono ?_
  rintro e w3 ⟨rfl, hb3⟩
  rw [Hz.out]
  obtain ⟨hc3, hf3⟩ := bcell hb3
  have q3 := hb3.size
  have q30 : w.heap.size < w3.heap.size := by omega
  have q31 : w.heap.size + 1 < w3.heap.size := by omega
  have q32 : w.heap.size + 1 + 1 < w3.heap.size := by omega
  go_wp2_with fail
  refine (compare_any at1 ai ct ci _).mono ?_
  rintro e w4 ⟨rfl, hb4⟩
  rw [Hu.out]
  obtain ⟨hc4, hf4⟩ := bcell hb4
  have q4 := hb4.size
  go_wp2_with fail
  all_goals
    have F := HF.out
    have hb : Below w.heap.size w w4 := bcall (bcall (bcall (bcall (bnew (bnew (bnew (Below.refl _ _) _) _) _) hb1) hb2) hb3) hb4
    clear hc1 hf1 hc2 hf2 hc3 hf3 hc4 hf4
    go_ret
    refine ⟨ret_bool ?_, hb⟩
    (try simp only [Bool.not_eq_true', Bool.not_eq_false', beq_eq_false_iff_ne, beq_iff_eq, bne_iff_ne, bne_eq_false_iff_eq, ne_eq, Bool.or_eq_true, decide_eq_true_eq, Bool.false_eq_true] at *) <;> omega
/-- An argument of type api.Name, opened. -/
theorem open_name {H : Type} {enc : TypeId × Value → H} {W : World} {base : Nat} {v : Value} {d : DataW H} {p : List MemPlace} (o : Value.okWide Try.prog W .any base 24 v)
    (h : DataW.Trod enc Try.prog W 0 (fun _ => true) true 24 v d p) : ∃ t i : Int, v = .agg #[.int .i64 t, .int .u64 i] := by
  obtain ⟨c0, c1, y0, y1, m, rfl, rfl, rfl, hy0, hy1⟩ := open_agg2 Try.underlying24 (by kernel_rfl) (by kernel_rfl) o h
  obtain ⟨a, e0, _, _⟩ := DataW.trod_int Try.underlying2 hy0
  obtain ⟨b, e1, _, _⟩ := DataW.trod_int Try.underlying22 hy1
  simp at e0 e1
  exact ⟨a, b, by rw [e0, e1]⟩
theorem eventOrders_main {H : Type} {enc : TypeId × Value → H} (W : World) (base : Nat) {v0 v1 v2 : Value} {d0 d1 d2 : DataW H} {p0 p1 p2 : List MemPlace} {Z C L S X : Prop}
    (o0 : Value.okWide Try.prog W .any base 24 v0) (h0 : DataW.Trod enc Try.prog W 0 (fun _ => true) true 24 v0 d0 p0)
    (o1 : Value.okWide Try.prog W .any base 24 v1) (h1 : DataW.Trod enc Try.prog W 0 (fun _ => true) true 24 v1 d1 p1)
    (o2 : Value.okWide Try.prog W .any base 24 v2) (h2 : DataW.Trod enc Try.prog W 0 (fun _ => true) true 24 v2 d2 p2)
    (_ : X) (_ : Z) (_ : C) (_ : L) (_ : S) :
    Calls Try.prog 3 #[v0, v1, v2] W fun e W' => e = .returned (.bool true) ∧ Below W.heap.size W W' := by
  obtain ⟨t0, i0, rfl⟩ := open_name o0 h0
  obtain ⟨t1, i1, rfl⟩ := open_name o1 h1
  obtain ⟨t2, i2, rfl⟩ := open_name o2 h2
  exact orders_walk t0 i0 t1 i1 t2 i2 W
end Go.Proofs.Ytppeonlpocdhkaa

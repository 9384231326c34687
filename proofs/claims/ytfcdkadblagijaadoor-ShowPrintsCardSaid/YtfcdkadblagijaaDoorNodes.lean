/-
  Trees' nodes in memory: what they read as, and how a list of nodes that is handed in reads.
-/
import Derived.Test.YtfcdkadblagijaaDoorRowOwn
namespace Go.Proofs.YtfcdkadblagijaaDoor
open Go.RowKit Go.ChangeShapes Go.WideShapes Go.Deep
/-- A node. -/
structure Nod where
  op : Int
  n : Int
  vr : ByteArray
  at_ : ByteArray
  a : Int
  b : Int
def nodCell (x : Nod) : Nat → Value
  | 0 => .int .i64 x.op
  | 1 => .int .i64 x.n
  | 2 => .string x.vr
  | 3 => .string x.at_
  | 4 => .int .i64 x.a
  | _ => .int .i64 x.b
theorem nodCell_one (x : Nod) (i : Nat) : (nodCell x i).oneCell' = true := by
  unfold nodCell
  split <;> rfl
def nodArr (x : Nod) : Array Value := #[.int .i64 x.op, .int .i64 x.n, .string x.vr, .string x.at_, .int .i64 x.a, .int .i64 x.b]
def I64 (n : Int) : Prop := -9223372036854775808 ≤ n ∧ n ≤ 9223372036854775807
structure NodWf (x : Nod) : Prop where
  op : I64 x.op
  n : I64 x.n
  a : I64 x.a
  b : I64 x.b
  vr : x.vr.size ≤ maxLen
  at_ : x.at_.size ≤ maxLen
/-- A list of nodes reads so. -/
def NodRd (w : World) (B : Nat) (A : Option Addr) (n : Nat) (f : Nat → Nod) : Prop := RowRd w B A n 6 64 (fun j => nodCell (f j))
section
variable {w w' : World} {B n : Nat} {A : Option Addr} {f : Nat → Nod}
theorem NodRd.below (h : NodRd w B A n f) (hb : Below B w w') : NodRd w' B A n f := RowRd.below h hb
theorem NodRd.later (h : NodRd w w.heap.size A n f) (hb : Below w.heap.size w w') : NodRd w' w'.heap.size A n f := RowRd.later h hb
theorem NodRd.small (h : NodRd w B A n f) : n ≤ 2199023255488 := by have := h.1; omega
/-- The cells of the nodes, as a walk comes to them. -/
theorem NodRd.spot (h : NodRd w B A n f) (hn : 0 < n) : ∃ b off, A = some ⟨b, off, none⟩ ∧ b < B ∧ ∀ j, j < n →
    w.cell? ⟨b, off + j * 6, none⟩ = some (.int .i64 (f j).op) ∧ w.cell? ⟨b, off + j * 6 + 1, none⟩ = some (.int .i64 (f j).n) ∧ w.cell? ⟨b, off + j * 6 + 2, none⟩ = some (.string (f j).vr) ∧
    w.cell? ⟨b, off + j * 6 + 3, none⟩ = some (.string (f j).at_) ∧ w.cell? ⟨b, off + j * 6 + 4, none⟩ = some (.int .i64 (f j).a) ∧ w.cell? ⟨b, off + j * 6 + 5, none⟩ = some (.int .i64 (f j).b) := by
  obtain ⟨b, off, e, hb, h1, h2⟩ := RowRd.spot h hn
  exact ⟨b, off, e, hb, fun j hj => ⟨h2 j hj (by omega), h1 j hj 1 (by omega), h1 j hj 2 (by omega), h1 j hj 3 (by omega), h1 j hj 4 (by omega), h1 j hj 5 (by omega)⟩⟩
end
section
variable {H : Type} {enc : TypeId × Value → H} {w : World} {base : Nat} {sp : Nat → Bool} {held : Bool}
/-- A list of nodes that is handed in. -/
theorem rd_nodes {fuel : Nat} {v : Value} {y : DataW H × List MemPlace} (h : DataW.trod enc Tryd.prog w base sp held fuel 22 [v] = some y) (hr : Reached Tryd.prog 22 y.1) :
    ∃ (A : Option Addr) (n cap : Nat) (f : Nat → Nod), v = .slice A n cap ∧ n ≤ cap ∧ (A = none → cap = 0) ∧ NodRd w w.heap.size A n f ∧ ∀ j, j < n → NodWf (f j) := by
  have hc6 : Tryd.prog.cellsOf 44 = 6 := by kernel_rfl
  have hb64 : Tryd.prog.bytesOf 44 = 64 := by kernel_rfl
  obtain ⟨A, n, cap, E, rfl, hl, h0, hE, hR⟩ := rd_slice Tryd.underlying22 hc6 (by omega) hb64 h hr
  have k1 : Tryd.prog.cellsOf 42 = 1 := by kernel_rfl
  have k2 : Tryd.prog.cellsOf 2 = 1 := by kernel_rfl
  have k3 : Tryd.prog.cellsOf 9 = 1 := by kernel_rfl
  have k4 : Tryd.prog.cellsOf 3 = 1 := by kernel_rfl
  have key : ∀ j, ∃ x : Nod, j < n → (∀ i, i < 6 → (E j)[i]? = some (nodCell x i)) ∧ NodWf x := by
    intro j
    by_cases hj : j < n
    · obtain ⟨hlen, f, y', ht', _⟩ := hE j hj
      match hE' : E j, hlen with
      | [c0, c1, c2, c3, c4, c5], _ =>
        rw [hE'] at ht'
        obtain ⟨xs, m, _, hx, _, hl2, hg⟩ := DataW.trod_struct Tryd.underlying44 ht'
        match xs, hl2 with
        | [y0, y1, y2, y3, y4, y5], _ =>
          have g0 := hg 0 _ rfl
          have g1 := hg 1 _ rfl
          have g2 := hg 2 _ rfl
          have g3 := hg 3 _ rfl
          have g4 := hg 4 _ rfl
          have g5 := hg 5 _ rfl
          simp [k1, k2, k3, k4] at g0 g1 g2 g3 g4 g5
          obtain ⟨op, e0, _, w0⟩ := DataW.trod_int Tryd.underlying42 g0
          obtain ⟨nn, e1, _, w1⟩ := DataW.trod_int Tryd.underlying2 g1
          obtain ⟨vr, e2, _, w2⟩ := DataW.trod_string Tryd.underlying9 g2
          obtain ⟨at_, e3, _, w3⟩ := DataW.trod_string Tryd.underlying9 g3
          obtain ⟨a, e4, _, w4⟩ := DataW.trod_int Tryd.underlying3 g4
          obtain ⟨b, e5, _, w5⟩ := DataW.trod_int Tryd.underlying3 g5
          injection e0 with e0
          injection e1 with e1
          injection e2 with e2
          injection e3 with e3
          injection e4 with e4
          injection e5 with e5
          subst e0 e1 e2 e3 e4 e5
          refine ⟨⟨op, nn, vr, at_, a, b⟩, fun _ => ⟨fun i hi => ?_, bounds_i64 w0, bounds_i64 w1, bounds_i64 w4, bounds_i64 w5, w2, w3⟩⟩
          obtain rfl | rfl | rfl | rfl | rfl | rfl : i = 0 ∨ i = 1 ∨ i = 2 ∨ i = 3 ∨ i = 4 ∨ i = 5 := by omega
          all_goals rfl
    · exact ⟨⟨0, 0, .empty, .empty, 0, 0⟩, fun h => absurd h hj⟩
  obtain ⟨f, hf⟩ := Classical.axiomOfChoice key
  refine ⟨A, n, cap, f, rfl, hl, h0, hR.congr fun j hj i hi => ?_, fun j hj => (hf j hj).2⟩
  rw [(hf j hj).1 i hi]
  rfl
end
end Go.Proofs.YtfcdkadblagijaaDoor

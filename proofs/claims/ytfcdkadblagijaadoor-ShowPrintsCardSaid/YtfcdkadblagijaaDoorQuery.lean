/-
  A query in memory: what it reads as, and how a query that is handed in reads.
-/
import Derived.Test.YtfcdkadblagijaaDoorNodes
set_option linter.unusedSimpArgs false
namespace Go.Proofs.YtfcdkadblagijaaDoor
open Go.RowKit Go.ChangeShapes Go.WideShapes Go.Deep
/-- An item of a pattern. -/
structure Itm where
  neg : Bool
  tn : Nat
  ty : Nat → ByteArray
  vr : ByteArray
  lo : Int
  hi : Int
/-- An item's cells, v its types. -/
def itmCell (x : Itm) (v : Value) : Nat → Value
  | 0 => .bool x.neg
  | 1 => v
  | 2 => .string x.vr
  | 3 => .int .i64 x.lo
  | _ => .int .i64 x.hi
/-- A list of texts. -/
def TxtRd (w : World) (B : Nat) (A : Option Addr) (n : Nat) (f : Nat → ByteArray) : Prop := RowRd w B A n 1 16 (fun i _ => .string (f i))
/-- A list of items reads so. -/
def ItmsRd (w : World) (B : Nat) (A : Option Addr) (n : Nat) (f : Nat → Itm) : Prop :=
  ∃ V : Nat → Value, RowRd w B A n 5 64 (fun j => itmCell (f j) (V j)) ∧ ∀ j, j < n → ∃ a c, V j = .slice a (f j).tn c ∧ (f j).tn ≤ c ∧ (a = none → c = 0) ∧ TxtRd w B a (f j).tn (f j).ty
/-- A list of trees reads so. -/
def TreesRd (w : World) (B : Nat) (A : Option Addr) (m : Nat) (ln : Nat → Nat) (g : Nat → Nat → Nod) : Prop :=
  ∃ V : Nat → Value, RowRd w B A m 1 24 (fun j _ => V j) ∧ ∀ j, j < m → ∃ a c, V j = .slice a (ln j) c ∧ ln j ≤ c ∧ (a = none → c = 0) ∧ NodRd w B a (ln j) (g j)
/-- What an item's numbers and texts are. -/
structure ItmWf (x : Itm) : Prop where
  lo : I64 x.lo
  hi : I64 x.hi
  vr : x.vr.size ≤ maxLen
section
variable {w w' : World} {B B' n m : Nat} {A : Option Addr} {f : Nat → Itm} {ln : Nat → Nat} {g : Nat → Nat → Nod}
theorem ItmsRd.below (h : ItmsRd w B A n f) (hb : Below B w w') : ItmsRd w' B A n f := by
  obtain ⟨V, h1, h2⟩ := h
  refine ⟨V, RowRd.below h1 hb, fun j hj => ?_⟩
  obtain ⟨a, c, e, l, z, r⟩ := h2 j hj
  exact ⟨a, c, e, l, z, RowRd.below r hb⟩
theorem ItmsRd.more (h : ItmsRd w B A n f) (hB : B ≤ B') : ItmsRd w B' A n f := by
  obtain ⟨V, h1, h2⟩ := h
  refine ⟨V, RowRd.more h1 hB, fun j hj => ?_⟩
  obtain ⟨a, c, e, l, z, r⟩ := h2 j hj
  exact ⟨a, c, e, l, z, RowRd.more r hB⟩
theorem ItmsRd.later (h : ItmsRd w w.heap.size A n f) (hb : Below w.heap.size w w') : ItmsRd w' w'.heap.size A n f := (h.below hb).more hb.size
theorem ItmsRd.small (h : ItmsRd w B A n f) : n ≤ 2199023255488 := by obtain ⟨_, h1, _⟩ := h; have := h1.1; omega
theorem TreesRd.below (h : TreesRd w B A m ln g) (hb : Below B w w') : TreesRd w' B A m ln g := by
  obtain ⟨V, h1, h2⟩ := h
  refine ⟨V, RowRd.below h1 hb, fun j hj => ?_⟩
  obtain ⟨a, c, e, l, z, r⟩ := h2 j hj
  exact ⟨a, c, e, l, z, RowRd.below r hb⟩
theorem TreesRd.more (h : TreesRd w B A m ln g) (hB : B ≤ B') : TreesRd w B' A m ln g := by
  obtain ⟨V, h1, h2⟩ := h
  refine ⟨V, RowRd.more h1 hB, fun j hj => ?_⟩
  obtain ⟨a, c, e, l, z, r⟩ := h2 j hj
  exact ⟨a, c, e, l, z, RowRd.more r hB⟩
theorem TreesRd.later (h : TreesRd w w.heap.size A m ln g) (hb : Below w.heap.size w w') : TreesRd w' w'.heap.size A m ln g := (h.below hb).more hb.size
theorem TreesRd.small (h : TreesRd w B A m ln g) : m ≤ 5864062014805 := by obtain ⟨_, h1, _⟩ := h; have := h1.1; omega
/-- The cells of the items, as a walk comes to them. -/
theorem ItmsRd.spot (h : ItmsRd w B A n f) (hn : 0 < n) : ∃ b off, A = some ⟨b, off, none⟩ ∧ b < B ∧ ∀ j, j < n →
    w.cell? ⟨b, off + j * 5, none⟩ = some (.bool (f j).neg) ∧ (∃ a c, w.cell? ⟨b, off + j * 5 + 1, none⟩ = some (.slice a (f j).tn c) ∧ (f j).tn ≤ c ∧ (a = none → c = 0) ∧ TxtRd w B a (f j).tn (f j).ty) ∧
    w.cell? ⟨b, off + j * 5 + 2, none⟩ = some (.string (f j).vr) ∧ w.cell? ⟨b, off + j * 5 + 3, none⟩ = some (.int .i64 (f j).lo) ∧ w.cell? ⟨b, off + j * 5 + 4, none⟩ = some (.int .i64 (f j).hi) := by
  obtain ⟨V, h1, h2⟩ := h
  obtain ⟨b, off, e, hb, k1, k2⟩ := RowRd.spot h1 hn
  refine ⟨b, off, e, hb, fun j hj => ⟨k2 j hj (by omega), ?_, k1 j hj 2 (by omega), k1 j hj 3 (by omega), k1 j hj 4 (by omega)⟩⟩
  obtain ⟨a, c, e, l, z, r⟩ := h2 j hj
  exact ⟨a, c, by rw [← e]; exact k1 j hj 1 (by omega), l, z, r⟩
theorem TreesRd.spot (h : TreesRd w B A m ln g) (hn : 0 < m) : ∃ b off, A = some ⟨b, off, none⟩ ∧ b < B ∧ ∀ j, j < m → ∃ a c, w.cell? ⟨b, off + j, none⟩ = some (.slice a (ln j) c) ∧ ln j ≤ c ∧ (a = none → c = 0) ∧ NodRd w B a (ln j) (g j) := by
  obtain ⟨V, h1, h2⟩ := h
  obtain ⟨b, off, e, hb, k1⟩ := RowRd.spot1 h1 hn
  refine ⟨b, off, e, hb, fun j hj => ?_⟩
  obtain ⟨a, c, e, l, z, r⟩ := h2 j hj
  exact ⟨a, c, by rw [← e]; exact k1 j hj, l, z, r⟩
end
/-- A query. -/
structure Qry where
  n : Nat
  it : Nat → Itm
  mode : Int
  after : Int
  wn : Nat
  wh : Nat → Nod
  within : Int
  by_ : ByteArray
  m : Nat
  ln : Nat → Nat
  rt : Nat → Nat → Nod
/-- Where its lists lie. -/
structure QryV where
  aI : Option Addr
  cI : Nat
  aW : Option Addr
  cW : Nat
  aR : Option Addr
  cR : Nat
def qryArr (V : QryV) (Q : Qry) : Array Value := #[.slice V.aI Q.n V.cI, .int .i64 Q.mode, .int .i64 Q.after, .slice V.aW Q.wn V.cW, .int .i64 Q.within, .string Q.by_, .slice V.aR Q.m V.cR]
/-- A query reads so. -/
structure QryRd (w : World) (B : Nat) (V : QryV) (Q : Qry) : Prop where
  lI : Q.n ≤ V.cI
  zI : V.aI = none → V.cI = 0
  rI : ItmsRd w B V.aI Q.n Q.it
  lW : Q.wn ≤ V.cW
  zW : V.aW = none → V.cW = 0
  rW : NodRd w B V.aW Q.wn Q.wh
  lR : Q.m ≤ V.cR
  zR : V.aR = none → V.cR = 0
  rR : TreesRd w B V.aR Q.m Q.ln Q.rt
structure QryWf (Q : Qry) : Prop where
  it : ∀ j, j < Q.n → ItmWf (Q.it j)
  wh : ∀ j, j < Q.wn → NodWf (Q.wh j)
  rt : ∀ j, j < Q.m → ∀ i, i < Q.ln j → NodWf (Q.rt j i)
  within : I64 Q.within
  by_ : Q.by_.size ≤ maxLen
theorem QryRd.later {w w' : World} {V : QryV} {Q : Qry} (h : QryRd w w.heap.size V Q) (hb : Below w.heap.size w w') : QryRd w' w'.heap.size V Q :=
  ⟨h.lI, h.zI, h.rI.later hb, h.lW, h.zW, h.rW.later hb, h.lR, h.zR, h.rR.later hb⟩
section
variable {H : Type} {enc : TypeId × Value → H} {w : World} {base : Nat} {sp : Nat → Bool} {held : Bool}
/-- A list of items that is handed in. -/
theorem rd_items {fuel : Nat} {v : Value} {y : DataW H × List MemPlace} (h : DataW.trod enc Tryd.prog w base sp held fuel 29 [v] = some y) (hr : Reached Tryd.prog 29 y.1) :
    ∃ (A : Option Addr) (n cap : Nat) (f : Nat → Itm), v = .slice A n cap ∧ n ≤ cap ∧ (A = none → cap = 0) ∧ ItmsRd w w.heap.size A n f ∧ ∀ j, j < n → ItmWf (f j) := by
  have hc5 : Tryd.prog.cellsOf 41 = 5 := by kernel_rfl
  have hb64 : Tryd.prog.bytesOf 41 = 64 := by kernel_rfl
  obtain ⟨A, n, cap, E, rfl, hl, h0, hE, hR⟩ := rd_slice Tryd.underlying29 hc5 (by omega) hb64 h hr
  have k1 : Tryd.prog.cellsOf 4 = 1 := by kernel_rfl
  have k2 : Tryd.prog.cellsOf 39 = 1 := by kernel_rfl
  have k3 : Tryd.prog.cellsOf 9 = 1 := by kernel_rfl
  have k4 : Tryd.prog.cellsOf 3 = 1 := by kernel_rfl
  have k5 : Tryd.prog.bytesOf 9 = 16 := by kernel_rfl
  have key : ∀ j, ∃ z : Itm × Value, j < n → (∀ i, i < 5 → (E j)[i]? = some (itmCell z.1 z.2 i)) ∧ (∃ a c, z.2 = .slice a z.1.tn c ∧ z.1.tn ≤ c ∧ (a = none → c = 0) ∧ TxtRd w w.heap.size a z.1.tn z.1.ty) ∧ ItmWf z.1 := by
    intro j
    by_cases hj : j < n
    · obtain ⟨hlen, f, y', ht', hr'⟩ := hE j hj
      match hE' : E j, hlen with
      | [c0, c1, c2, c3, c4], _ =>
        rw [hE'] at ht'
        obtain ⟨xs, m, _, hx, _, hl2, hg⟩ := DataW.trod_struct Tryd.underlying41 ht'
        match xs, hl2 with
        | [y0, y1, y2, y3, y4], _ =>
          have g0 := hg 0 _ rfl
          have g1 := hg 1 _ rfl
          have g2 := hg 2 _ rfl
          have g3 := hg 3 _ rfl
          have g4 := hg 4 _ rfl
          simp [k1, k2, k3, k4] at g0 g1 g2 g3 g4
          have hd : y'.1 = .agg [y0.1, y1.1, y2.1, y3.1, y4.1] := by simpa using (Prod.mk.inj hx).1
          rw [hd] at hr'
          have s1 := reach_cons (reach_cons (reached_struct Tryd.underlying41 hr')).2
          obtain ⟨ng, e0, _⟩ := DataW.trod_bool Tryd.underlying4 g0
          obtain ⟨A1, tn, q1, ty, e1, l1, z1, r1⟩ := rd_strs Tryd.underlying39 Tryd.underlying9 k3 k5 g1 s1.1
          obtain ⟨vr, e2, _, w2⟩ := DataW.trod_string Tryd.underlying9 g2
          obtain ⟨lo, e3, _, w3⟩ := DataW.trod_int Tryd.underlying3 g3
          obtain ⟨hi, e4, _, w4⟩ := DataW.trod_int Tryd.underlying3 g4
          injection e0 with e0
          injection e2 with e2
          injection e3 with e3
          injection e4 with e4
          subst e0 e1 e2 e3 e4
          refine ⟨(⟨ng, tn, ty, vr, lo, hi⟩, .slice A1 tn q1), fun _ => ⟨fun i hi => ?_, ⟨A1, q1, rfl, l1, z1, r1⟩, bounds_i64 w3, bounds_i64 w4, w2⟩⟩
          obtain rfl | rfl | rfl | rfl | rfl : i = 0 ∨ i = 1 ∨ i = 2 ∨ i = 3 ∨ i = 4 := by omega
          all_goals rfl
    · exact ⟨(⟨false, 0, fun _ => .empty, .empty, 0, 0⟩, .bool false), fun h => absurd h hj⟩
  obtain ⟨z, hz⟩ := Classical.axiomOfChoice key
  refine ⟨A, n, cap, fun j => (z j).1, rfl, hl, h0, ⟨fun j => (z j).2, hR.congr fun j hj i hi => ?_, fun j hj => (hz j hj).2.1⟩, fun j hj => (hz j hj).2.2⟩
  rw [(hz j hj).1 i hi]
  rfl
/-- A list of trees that is handed in. -/
theorem rd_trees {fuel : Nat} {v : Value} {y : DataW H × List MemPlace} (h : DataW.trod enc Tryd.prog w base sp held fuel 32 [v] = some y) (hr : Reached Tryd.prog 32 y.1) :
    ∃ (A : Option Addr) (m cap : Nat) (ln : Nat → Nat) (g : Nat → Nat → Nod), v = .slice A m cap ∧ m ≤ cap ∧ (A = none → cap = 0) ∧ TreesRd w w.heap.size A m ln g ∧ ∀ j, j < m → ∀ i, i < ln j → NodWf (g j i) := by
  have hs : Tryd.prog.cellsOf 22 = 1 := by kernel_rfl
  have hbt : Tryd.prog.bytesOf 22 = 24 := by kernel_rfl
  obtain ⟨A, n, cap, E, rfl, hl, h0, hE, hR⟩ := rd_slice Tryd.underlying32 hs (by omega) hbt h hr
  have key : ∀ j, ∃ z : Value × Nat × (Nat → Nod), j < n → E j = [z.1] ∧ (∃ a c, z.1 = .slice a z.2.1 c ∧ z.2.1 ≤ c ∧ (a = none → c = 0) ∧ NodRd w w.heap.size a z.2.1 z.2.2) ∧ ∀ i, i < z.2.1 → NodWf (z.2.2 i) := by
    intro j
    by_cases hj : j < n
    · obtain ⟨h1, f, y', ht', hr'⟩ := hE j hj
      match hE' : E j, h1 with
      | [c0], _ =>
        rw [hE'] at ht'
        obtain ⟨a, m, c, g, e1, e2, e3, e4, e5⟩ := rd_nodes ht' hr'
        exact ⟨(c0, m, g), fun _ => ⟨rfl, ⟨a, c, e1, e2, e3, e4⟩, e5⟩⟩
    · exact ⟨(.bool false, 0, fun _ => ⟨0, 0, .empty, .empty, 0, 0⟩), fun h => absurd h hj⟩
  obtain ⟨z, hz⟩ := Classical.axiomOfChoice key
  refine ⟨A, n, cap, fun j => (z j).2.1, fun j => (z j).2.2, rfl, hl, h0, ⟨fun j => (z j).1, hR.congr fun j hj i hi => ?_, fun j hj => (hz j hj).2.1⟩, fun j hj => (hz j hj).2.2⟩
  rw [(hz j hj).1]
  obtain rfl : i = 0 := by omega
  rfl
set_option maxRecDepth 20000 in
/-- A query that is handed in. -/
theorem open_query {r : Reach} {b0 : Nat} {v : Value} {d : DataW H} {p : List MemPlace} (hv : Value.okWide Tryd.prog w r b0 34 v) (h : DataW.Trod enc Tryd.prog w base sp held 34 v d p) (hr : Reached Tryd.prog 34 d) :
    ∃ V Q, v = .agg (qryArr V Q) ∧ QryRd w w.heap.size V Q ∧ QryWf Q := by
  obtain ⟨cs, rfl, hsz⟩ := okWide_struct Tryd.underlying34 hv
  have hc7 : Tryd.prog.cellsOf 34 = 7 := by kernel_rfl
  have h1 : cs.size = 7 := hsz.trans hc7
  have k1 : Tryd.prog.cellsOf 29 = 1 := by kernel_rfl
  have k2 : Tryd.prog.cellsOf 30 = 1 := by kernel_rfl
  have k3 : Tryd.prog.cellsOf 31 = 1 := by kernel_rfl
  have k4 : Tryd.prog.cellsOf 22 = 1 := by kernel_rfl
  have k5 : Tryd.prog.cellsOf 2 = 1 := by kernel_rfl
  have k6 : Tryd.prog.cellsOf 9 = 1 := by kernel_rfl
  have k7 : Tryd.prog.cellsOf 32 = 1 := by kernel_rfl
  obtain ⟨l⟩ := cs
  match l, h1 with
  | [c0, c1, c2, c3, c4, c5, c6], _ =>
    obtain ⟨fuel, hf⟩ := h
    obtain ⟨xs, n, _, hx, _, hlen, hg⟩ := DataW.trod_struct Tryd.underlying34 hf
    match xs, hlen with
    | [y0, y1, y2, y3, y4, y5, y6], _ =>
      have g0 := hg 0 _ rfl
      have g1 := hg 1 _ rfl
      have g2 := hg 2 _ rfl
      have g3 := hg 3 _ rfl
      have g4 := hg 4 _ rfl
      have g5 := hg 5 _ rfl
      have g6 := hg 6 _ rfl
      simp [k1, k2, k3, k4, k5, k6, k7, Value.cells] at g0 g1 g2 g3 g4 g5 g6
      simp only [Prod.mk.injEq] at hx
      have hd : d = .agg [y0.1, y1.1, y2.1, y3.1, y4.1, y5.1, y6.1] := by simpa using hx.1
      rw [hd] at hr
      have s0 := reach_cons (reached_struct Tryd.underlying34 hr)
      have s3 := reach_cons (reach_cons (reach_cons s0.2).2).2
      have s6 := reach_cons (reach_cons (reach_cons s3.2).2).2
      obtain ⟨A0, n0, q0, f0, e0, l0, z0, r0, u0⟩ := rd_items g0 s0.1
      obtain ⟨mo, e1, _⟩ := DataW.trod_int Tryd.underlying30 g1
      obtain ⟨af, e2, _⟩ := DataW.trod_int Tryd.underlying31 g2
      obtain ⟨A3, n3, q3, f3, e3, l3, z3, r3, u3⟩ := rd_nodes g3 s3.1
      obtain ⟨wi, e4, _, w4⟩ := DataW.trod_int Tryd.underlying2 g4
      obtain ⟨by_, e5, _, w5⟩ := DataW.trod_string Tryd.underlying9 g5
      obtain ⟨A6, m, q6, L, F, e6, l6, z6, r6, u6⟩ := rd_trees g6 s6.1
      injection e1 with e1
      injection e2 with e2
      injection e4 with e4
      injection e5 with e5
      subst e0 e1 e2 e3 e4 e5 e6
      exact ⟨⟨A0, q0, A3, q3, A6, q6⟩, ⟨n0, f0, mo, af, n3, f3, wi, by_, m, L, F⟩, rfl, ⟨l0, z0, r0, l3, z3, r3, l6, z6, r6⟩, ⟨u0, u3, u6, bounds_i64 w4, w5⟩⟩
end
end Go.Proofs.YtfcdkadblagijaaDoor

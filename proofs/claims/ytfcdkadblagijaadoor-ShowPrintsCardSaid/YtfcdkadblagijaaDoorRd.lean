/-
  Rows in memory, whatever their elements: what they read as, and how a slice that is handed in reads.
-/
import Derived.Test.YtfcdkadblagijaaDoorKit
import Derived.Deep.Slices
import Derived.Deep.Fields
import Derived.ChangeSame
import Derived.SliceStrings
namespace Go.Proofs.YtfcdkadblagijaaDoor
open Go.RowKit Go.ChangeShapes Go.WideShapes Go.Deep
/-- A slice of n elements of sz cells each (bt bytes each) reads so, and lies below block B. -/
def RowRd (w : World) (B : Nat) (A : Option Addr) (n sz bt : Nat) (C : Nat → Nat → Value) : Prop :=
  n * bt ≤ 140737488351232 ∧ (n ≠ 0 → ∃ b off, A = some ⟨b, off, none⟩ ∧ b < B ∧ ∀ j, j < n → ∀ i, i < sz → w.cell? ⟨b, off + (j * sz + i), none⟩ = some (C j i))
section
variable {w w' : World} {B B' n sz bt : Nat} {A : Option Addr} {C C' : Nat → Nat → Value}
theorem RowRd.keep (h : RowRd w B A n sz bt C) (hk : ∀ p : Addr, p.block < B → w'.cell? p = w.cell? p) : RowRd w' B A n sz bt C :=
  ⟨h.1, fun hn => by
    obtain ⟨b, off, e, hb, hc⟩ := h.2 hn
    exact ⟨b, off, e, hb, fun j hj i hi => (hk _ hb).trans (hc j hj i hi)⟩⟩
theorem RowRd.more (h : RowRd w B A n sz bt C) (hB : B ≤ B') : RowRd w B' A n sz bt C :=
  ⟨h.1, fun hn => by
    obtain ⟨b, off, e, hb, hc⟩ := h.2 hn
    exact ⟨b, off, e, by omega, hc⟩⟩
theorem RowRd.below (h : RowRd w B A n sz bt C) (hb : Below B w w') : RowRd w' B A n sz bt C := h.keep fun _ hp => hb.cell hp
theorem RowRd.later (h : RowRd w w.heap.size A n sz bt C) (hb : Below w.heap.size w w') : RowRd w' w'.heap.size A n sz bt C := (h.below hb).more hb.size
theorem RowRd.congr (h : RowRd w B A n sz bt C) (hc : ∀ j, j < n → ∀ i, i < sz → C j i = C' j i) : RowRd w B A n sz bt C' :=
  ⟨h.1, fun hn => by
    obtain ⟨b, off, e, hb, h2⟩ := h.2 hn
    exact ⟨b, off, e, hb, fun j hj i hi => by rw [← hc j hj i hi]; exact h2 j hj i hi⟩⟩
theorem RowRd.take {m : Nat} (h : RowRd w B A n sz bt C) (hm : m ≤ n) : RowRd w B A m sz bt C :=
  ⟨Nat.le_trans (Nat.mul_le_mul_right _ hm) h.1, fun hn => by
    obtain ⟨b, off, e, hb, hc⟩ := h.2 (by omega)
    exact ⟨b, off, e, hb, fun j hj i hi => hc j (by omega) i hi⟩⟩
theorem RowRd.nil (w : World) (B : Nat) (A : Option Addr) (sz bt : Nat) (C : Nat → Nat → Value) : RowRd w B A 0 sz bt C := ⟨by simp, fun h => absurd rfl h⟩
/-- The cells of element j, wherever the row's cells stand as they stood. -/
theorem RowRd.spot (h : RowRd w B A n sz bt C) (hn : 0 < n) : ∃ b off, A = some ⟨b, off, none⟩ ∧ b < B ∧ (∀ j, j < n → ∀ i, i < sz → w.cell? ⟨b, off + j * sz + i, none⟩ = some (C j i)) ∧ ∀ j, j < n → 0 < sz → w.cell? ⟨b, off + j * sz, none⟩ = some (C j 0) := by
  obtain ⟨b, off, e, hb, hc⟩ := h.2 (by omega)
  exact ⟨b, off, e, hb, fun j hj i hi => by rw [Nat.add_assoc]; exact hc j hj i hi, fun j hj h0 => hc j hj 0 h0⟩
theorem RowRd.spot1 (h : RowRd w B A n 1 bt C) (hn : 0 < n) : ∃ b off, A = some ⟨b, off, none⟩ ∧ b < B ∧ ∀ j, j < n → w.cell? ⟨b, off + j, none⟩ = some (C j 0) := by
  obtain ⟨b, off, e, hb, hc⟩ := h.2 (by omega)
  exact ⟨b, off, e, hb, fun j hj => by have := hc j hj 0 (by omega); rwa [Nat.mul_one, Nat.add_zero] at this⟩
end
theorem rd_addr {w : World} {a : Addr} {v : Value} (h : w.cell? a = some v) : a = ⟨a.block, a.off, none⟩ ∧ a.block < w.heap.size := by
  unfold World.cell? at h
  split at h
  · rename_i hh
    have hlt := (Array.getElem?_eq_some_iff.1 hh).1
    split at h
    · cases h
    · rename_i hs
      refine ⟨?_, hlt⟩
      cases a with
      | mk b o s =>
        cases s with
        | none => rfl
        | some s => simp at hs
  · cases h
theorem rd_alloc {w : World} {a : Addr} {v : Value} (h : w.cell? a = some v) (o : Obj) : (w.alloc o).cell? a = some v := (World.cell?_alloc_lt w o a (rd_addr h).2).trans h
theorem rd_later {w w' : World} {a : Addr} {v : Value} (h : w.cell? a = some v) (hb : Below w.heap.size w w') : w'.cell? a = some v := (hb.cell (rd_addr h).2).trans h
theorem rd_add (b off i : Nat) : (⟨b, off, none⟩ : Addr).add i = ⟨b, off + i, none⟩ := by
  unfold Addr.add
  split
  · rename_i h; subst h; rfl
  · rfl
section
variable {H : Type} {P : Program}
theorem reached_slice {t e : TypeId} {es sp : List (DataW H)} (ht : P.underlying t = some (.slice e)) (h : Reached P t (.slice es sp)) : (es.length + sp.length) * P.bytesOf e ≤ 140737488351232 ∧ ∀ d ∈ es, Reached P e d := by
  simp only [Reached, DataW.weights, ht, List.all_cons, List.all_append, Bool.and_eq_true, reachBytes] at h
  refine ⟨of_decide_eq_true h.1, ?_⟩
  have h2 := h.2.1
  clear h ht
  induction es with
  | nil => simp
  | cons d r ih =>
    simp only [DataW.weightsAll, List.all_append, Bool.and_eq_true] at h2
    intro x hx
    rcases List.mem_cons.1 hx with rfl | hx
    · exact h2.1
    · exact ih h2.2 x hx
theorem reached_struct {t : TypeId} {fs : Array Field} {ds : List (DataW H)} (ht : P.underlying t = some (.struct fs)) (h : Reached P t (.agg ds)) : ReachedAll P (fs.toList.map (·.type)) ds := by
  simpa only [Reached, DataW.weights, ht, ReachedAll] using h
end
section
variable {H : Type} {enc : TypeId × Value → H} {P : Program} {w : World} {base : Nat} {sp : Nat → Bool} {held : Bool}
/-- A slice that is handed in, of whatever elements: each with its cells and its own reading. -/
theorem rd_slice {t e : TypeId} {sz bt fuel : Nat} {v : Value} {y : DataW H × List MemPlace} (ht : P.underlying t = some (.slice e)) (hs : P.cellsOf e = sz) (hsz : 0 < sz) (hbt : P.bytesOf e = bt)
    (h : DataW.trod enc P w base sp held fuel t [v] = some y) (hr : Reached P t y.1) :
    ∃ (A : Option Addr) (n cap : Nat) (E : Nat → List Value), v = .slice A n cap ∧ n ≤ cap ∧ (A = none → cap = 0) ∧ (∀ j, j < n → (E j).length = sz ∧ ∃ f y', DataW.trod enc P w base sp held f e (E j) = some y' ∧ Reached P e y'.1) ∧ RowRd w w.heap.size A n sz bt (fun j i => ((E j)[i]?).getD (.bool false)) := by
  rcases open_slice ht h with ⟨ev, _⟩ | ⟨a, len, cap, m, k, D, Pl, ev, hb, hl, hm, hmm, hx, hi⟩
  · injection ev with ev
    exact ⟨none, 0, 0, fun _ => [], ev, Nat.le_refl _, fun _ => rfl, fun j hj => absurd hj (Nat.not_lt_zero _), RowRd.nil _ _ _ _ _ _⟩
  · injection ev with ev
    have hle : len ≤ m := by rw [hmm]; split <;> omega
    rw [hx] at hr
    obtain ⟨hby, hall⟩ := reached_slice ht hr
    rw [hbt, List.length_map, List.length_range] at hby
    have key : ∀ i, ∃ cs : List Value, i < len → cs.length = sz ∧ (∀ j, j < sz → w.cell? ((a.add (i * sz)).add j) = cs[j]?) ∧ DataW.trod enc P w base sp held k e cs = some (D i, Pl i) := by
      intro i
      by_cases hil : i < len
      · obtain ⟨cs, hc, ht'⟩ := hi i (by omega)
        rw [hs] at hc
        obtain ⟨_, hcl, hat⟩ := World.cells?_some hc
        exact ⟨cs, fun _ => ⟨hcl, hat, ht'⟩⟩
      · exact ⟨[], fun h => absurd h hil⟩
    obtain ⟨E, hE⟩ := Classical.axiomOfChoice key
    refine ⟨some a, len, cap, E, ev, hl, fun h => (by cases h), fun j hj => ?_, ?_, fun hn => ?_⟩
    · obtain ⟨h1, _, h3⟩ := hE j hj
      exact ⟨h1, k, _, h3, hall (D j) (List.mem_map.2 ⟨j, by simpa using hj, rfl⟩)⟩
    · exact Nat.le_trans (Nat.mul_le_mul_right _ (Nat.le_add_right _ _)) hby
    · obtain ⟨h1, h2, _⟩ := hE 0 (by omega)
      have h0 := h2 0 hsz
      rw [List.getElem?_eq_getElem (by omega)] at h0
      have haa : (a.add (0 * sz)).add 0 = a := by rw [Nat.zero_mul]; rfl
      rw [haa] at h0
      obtain ⟨e1, e2⟩ := rd_addr h0
      refine ⟨a.block, a.off, congrArg some e1, e2, fun j hj i hi' => ?_⟩
      obtain ⟨k1, k2, _⟩ := hE j hj
      have := k2 i hi'
      rw [e1, rd_add, rd_add, List.getElem?_eq_getElem (by omega)] at this
      rw [Nat.add_assoc] at this
      rw [this]
      show some _ = some (((E j)[i]?).getD _)
      rw [List.getElem?_eq_getElem (by omega)]
      rfl
/-- A slice of integers. -/
theorem rd_ints {t e : TypeId} {k : IntKind} {bt fuel : Nat} {v : Value} {y : DataW H × List MemPlace} (ht : P.underlying t = some (.slice e)) (he : P.underlying e = some (.int k)) (hs : P.cellsOf e = 1) (hbt : P.bytesOf e = bt)
    (h : DataW.trod enc P w base sp held fuel t [v] = some y) (hr : Reached P t y.1) :
    ∃ (A : Option Addr) (n cap : Nat) (f : Nat → Int), v = .slice A n cap ∧ n ≤ cap ∧ (A = none → cap = 0) ∧ RowRd w w.heap.size A n 1 bt (fun j _ => .int k (f j)) ∧ ∀ j, j < n → (Lit.int k (f j)).wf = true := by
  obtain ⟨A, n, cap, E, rfl, hl, h0, hE, hR⟩ := rd_slice ht hs (by omega) hbt h hr
  have key : ∀ j, ∃ z : Int, j < n → E j = [.int k z] ∧ (Lit.int k z).wf = true := by
    intro j
    by_cases hj : j < n
    · obtain ⟨_, f, y', ht', _⟩ := hE j hj
      obtain ⟨z, e1, _, hw⟩ := DataW.trod_int he ht'
      exact ⟨z, fun _ => ⟨e1, hw⟩⟩
    · exact ⟨0, fun h => absurd h hj⟩
  obtain ⟨f, hf⟩ := Classical.axiomOfChoice key
  refine ⟨A, n, cap, f, rfl, hl, h0, hR.congr fun j hj i hi => ?_, fun j hj => (hf j hj).2⟩
  rw [(hf j hj).1]
  obtain rfl : i = 0 := by omega
  rfl
/-- A slice of texts. -/
theorem rd_strs {t e : TypeId} {bt fuel : Nat} {v : Value} {y : DataW H × List MemPlace} (ht : P.underlying t = some (.slice e)) (he : P.underlying e = some .string) (hs : P.cellsOf e = 1) (hbt : P.bytesOf e = bt)
    (h : DataW.trod enc P w base sp held fuel t [v] = some y) (hr : Reached P t y.1) :
    ∃ (A : Option Addr) (n cap : Nat) (f : Nat → ByteArray), v = .slice A n cap ∧ n ≤ cap ∧ (A = none → cap = 0) ∧ RowRd w w.heap.size A n 1 bt (fun j _ => .string (f j)) := by
  obtain ⟨A, n, cap, E, rfl, hl, h0, hE, hR⟩ := rd_slice ht hs (by omega) hbt h hr
  have key : ∀ j, ∃ z : ByteArray, j < n → E j = [.string z] := by
    intro j
    by_cases hj : j < n
    · obtain ⟨_, f, y', ht', _⟩ := hE j hj
      obtain ⟨z, e1, _⟩ := DataW.trod_string he ht'
      exact ⟨z, fun _ => e1⟩
    · exact ⟨.empty, fun h => absurd h hj⟩
  obtain ⟨f, hf⟩ := Classical.axiomOfChoice key
  refine ⟨A, n, cap, f, rfl, hl, h0, hR.congr fun j hj i hi => ?_⟩
  rw [hf j hj]
  obtain rfl : i = 0 := by omega
  rfl
/-- A slice of slices of integers. -/
theorem rd_intss {t e e2 : TypeId} {k : IntKind} {bt fuel : Nat} {v : Value} {y : DataW H × List MemPlace} (ht : P.underlying t = some (.slice e)) (he : P.underlying e = some (.slice e2)) (he2 : P.underlying e2 = some (.int k))
    (hs : P.cellsOf e = 1) (hbt : P.bytesOf e = 24) (hs2 : P.cellsOf e2 = 1) (hbt2 : P.bytesOf e2 = bt) (h : DataW.trod enc P w base sp held fuel t [v] = some y) (hr : Reached P t y.1) :
    ∃ (A : Option Addr) (n cap : Nat) (V : Nat → Value) (L : Nat → Nat) (F : Nat → Nat → Int), v = .slice A n cap ∧ n ≤ cap ∧ (A = none → cap = 0) ∧ RowRd w w.heap.size A n 1 24 (fun j _ => V j) ∧
      ∀ j, j < n → ∃ a c, V j = .slice a (L j) c ∧ L j ≤ c ∧ (a = none → c = 0) ∧ RowRd w w.heap.size a (L j) 1 bt (fun i _ => .int k (F j i)) ∧ ∀ i, i < L j → (Lit.int k (F j i)).wf = true := by
  obtain ⟨A, n, cap, E, rfl, hl, h0, hE, hR⟩ := rd_slice ht hs (by omega) hbt h hr
  have key : ∀ j, ∃ z : Value × Nat × (Nat → Int), j < n → E j = [z.1] ∧ ∃ a c, z.1 = .slice a z.2.1 c ∧ z.2.1 ≤ c ∧ (a = none → c = 0) ∧ RowRd w w.heap.size a z.2.1 1 bt (fun i _ => .int k (z.2.2 i)) ∧ ∀ i, i < z.2.1 → (Lit.int k (z.2.2 i)).wf = true := by
    intro j
    by_cases hj : j < n
    · obtain ⟨h1, f, y', ht', hr'⟩ := hE j hj
      match hE' : E j, h1 with
      | [c0], _ =>
        rw [hE'] at ht'
        obtain ⟨a, m, c, g, e1, e2, e3, e4, e5⟩ := rd_ints he he2 hs2 hbt2 ht' hr'
        exact ⟨(c0, m, g), fun _ => ⟨rfl, a, c, e1, e2, e3, e4, e5⟩⟩
    · exact ⟨(.bool false, 0, fun _ => 0), fun h => absurd h hj⟩
  obtain ⟨z, hz⟩ := Classical.axiomOfChoice key
  refine ⟨A, n, cap, fun j => (z j).1, fun j => (z j).2.1, fun j => (z j).2.2, rfl, hl, h0, hR.congr fun j hj i hi => ?_, fun j hj => (hz j hj).2⟩
  rw [(hz j hj).1]
  obtain rfl : i = 0 := by omega
  rfl
end
end Go.Proofs.YtfcdkadblagijaaDoor

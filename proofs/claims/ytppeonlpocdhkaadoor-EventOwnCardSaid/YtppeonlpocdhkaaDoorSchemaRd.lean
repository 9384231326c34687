/-
  A schema in memory: what it reads as, and how a schema that is handed in reads.
-/
import Derived.Test.YtppeonlpocdhkaaDoorKit
import Derived.Deep.Slices
import Derived.Deep.Fields
import Derived.ChangeSame
import Derived.SliceStrings
namespace Go.Proofs.YtppeonlpocdhkaaDoor
open Go.RowKit Go.ChangeShapes Go.WideShapes Go.Deep
/-- A schema: types by number, each a name and its attributes. -/
structure Sch where
  n : Nat
  nm : Nat → ByteArray
  ln : Nat → Nat
  atr : Nat → Nat → ByteArray
/-- A slice of texts reads so, and lies below block B. -/
def StrRd (w : World) (B : Nat) (A : Option Addr) (n : Nat) (f : Nat → ByteArray) : Prop :=
  n * 16 ≤ 140737488351232 ∧ (n ≠ 0 → ∃ b off, A = some ⟨b, off, none⟩ ∧ b < B ∧ ∀ j, j < n → w.cell? ⟨b, off + j, none⟩ = some (.string (f j)))
/-- A slice of types reads so. -/
def TypRd (w : World) (B : Nat) (A : Option Addr) (S : Sch) : Prop :=
  S.n * 40 ≤ 140737488351232 ∧ (S.n ≠ 0 → ∃ b off, A = some ⟨b, off, none⟩ ∧ b < B ∧ ∀ j, j < S.n →
    w.cell? ⟨b, off + j * 2, none⟩ = some (.string (S.nm j)) ∧ ∃ aa ac, w.cell? ⟨b, off + j * 2 + 1, none⟩ = some (.slice aa (S.ln j) ac) ∧ StrRd w B aa (S.ln j) (S.atr j))
section
variable {w w' : World} {B B' n : Nat} {A : Option Addr} {f : Nat → ByteArray} {S : Sch}
theorem StrRd.keep (h : StrRd w B A n f) (hk : ∀ p : Addr, p.block < B → w'.cell? p = w.cell? p) : StrRd w' B A n f :=
  ⟨h.1, fun hn => by
    obtain ⟨b, off, e, hb, hc⟩ := h.2 hn
    exact ⟨b, off, e, hb, fun j hj => (hk _ hb).trans (hc j hj)⟩⟩
theorem StrRd.more (h : StrRd w B A n f) (hB : B ≤ B') : StrRd w B' A n f :=
  ⟨h.1, fun hn => by
    obtain ⟨b, off, e, hb, hc⟩ := h.2 hn
    exact ⟨b, off, e, by omega, hc⟩⟩
theorem StrRd.below (h : StrRd w B A n f) (hb : Below B w w') : StrRd w' B A n f := h.keep fun _ hp => hb.cell hp
theorem TypRd.keep (h : TypRd w B A S) (hk : ∀ p : Addr, p.block < B → w'.cell? p = w.cell? p) : TypRd w' B A S :=
  ⟨h.1, fun hn => by
    obtain ⟨b, off, e, hb, hc⟩ := h.2 hn
    refine ⟨b, off, e, hb, fun j hj => ?_⟩
    obtain ⟨h1, aa, ac, h2, h3⟩ := hc j hj
    exact ⟨(hk _ hb).trans h1, aa, ac, (hk _ hb).trans h2, h3.keep hk⟩⟩
theorem TypRd.more (h : TypRd w B A S) (hB : B ≤ B') : TypRd w B' A S :=
  ⟨h.1, fun hn => by
    obtain ⟨b, off, e, hb, hc⟩ := h.2 hn
    refine ⟨b, off, e, by omega, fun j hj => ?_⟩
    obtain ⟨h1, aa, ac, h2, h3⟩ := hc j hj
    exact ⟨h1, aa, ac, h2, h3.more hB⟩⟩
theorem TypRd.below (h : TypRd w B A S) (hb : Below B w w') : TypRd w' B A S := h.keep fun _ hp => hb.cell hp
theorem StrRd.drewN (h : StrRd w B A n f) (k : Nat) : StrRd (w.drewN k) B A n f := h
theorem TypRd.drewN (h : TypRd w B A S) (k : Nat) : TypRd (w.drewN k) B A S := h
/-- Whatever comes later reads the same. -/
theorem TypRd.later (h : TypRd w w.heap.size A S) (hb : Below w.heap.size w w') : TypRd w' w'.heap.size A S := (h.below hb).more hb.size
theorem StrRd.later (h : StrRd w w.heap.size A n f) (hb : Below w.heap.size w w') : StrRd w' w'.heap.size A n f := (h.below hb).more hb.size
end
theorem addr_of_cell {w : World} {a : Addr} {v : Value} (h : w.cell? a = some v) : a = ⟨a.block, a.off, none⟩ ∧ a.block < w.heap.size := by
  unfold World.cell? at h
  split at h
  · rename_i hh
    have hlt := (Array.getElem?_eq_some_iff.1 hh).1
    split at h
    · cases h
    · rename_i hs
      refine ⟨?_, hlt⟩
      cases a with
      | mk b o s =>
        cases s with
        | none => rfl
        | some s => simp at hs
  · cases h
theorem cell_alloc {w : World} {a : Addr} {v : Value} (h : w.cell? a = some v) (o : Obj) : (w.alloc o).cell? a = some v := (World.cell?_alloc_lt w o a (addr_of_cell h).2).trans h
theorem add_none (b off i : Nat) : (⟨b, off, none⟩ : Addr).add i = ⟨b, off + i, none⟩ := by
  unfold Addr.add
  split
  · rename_i h; subst h; rfl
  · rfl
section
variable {H : Type} {P : Program}
theorem reach_slice {t e : TypeId} {es sp : List (DataW H)} (ht : P.underlying t = some (.slice e)) (h : Reached P t (.slice es sp)) : (es.length + sp.length) * P.bytesOf e ≤ 140737488351232 ∧ ∀ d ∈ es, Reached P e d := by
  simp only [Reached, DataW.weights, ht, List.all_cons, List.all_append, Bool.and_eq_true, reachBytes] at h
  refine ⟨of_decide_eq_true h.1, ?_⟩
  have h2 := h.2.1
  clear h ht
  induction es with
  | nil => simp
  | cons d r ih =>
    simp only [DataW.weightsAll, List.all_append, Bool.and_eq_true] at h2
    intro x hx
    rcases List.mem_cons.1 hx with rfl | hx
    · exact h2.1
    · exact ih h2.2 x hx
theorem reach_struct {t : TypeId} {fs : Array Field} {ds : List (DataW H)} (ht : P.underlying t = some (.struct fs)) (h : Reached P t (.agg ds)) : ReachedAll P (fs.toList.map (·.type)) ds := by
  simpa only [Reached, DataW.weights, ht, ReachedAll] using h
end
section
variable {H : Type} {enc : TypeId × Value → H} {P : Program} {w : World} {base : Nat} {spare : Nat → Bool} {held : Bool}
theorem open_slice_fields {t e : TypeId} {fs : Array Field} {fuel : Nat} {cs : List Value} {x : DataW H × List MemPlace} (ht : P.underlying t = some (.slice e)) (he : P.underlying e = some (.struct fs))
    (hone : oneCellFields P fs = true) (hC : P.cellsOf e = fs.size) (h : DataW.trod enc P w base spare held fuel t cs = some x) :
    (cs = [.slice none 0 0] ∧ x = (.nil, [])) ∨
    ∃ (a : Addr) (len cap m : Nat) (D : Nat → DataW H) (Pl : Nat → List MemPlace), cs = [.slice (some a) len cap] ∧ base ≤ a.block ∧ len ≤ cap ∧ cap ≤ maxLen ∧ m = (if spare a.block then cap else len) ∧
      x = (.slice ((List.range len).map D) ((List.range (m - len)).map fun j => D (len + j)), MemPlace.row a (m * fs.size) ++ (List.range m).flatMap Pl) ∧
      ∀ i, i < m → ∃ (ys : List (DataW H × List MemPlace)) (n : Nat), D i = .agg (ys.map (·.1)) ∧ Pl i = ys.flatMap (·.2) ∧ ys.length = fs.size ∧
        ∀ (j : Nat) (f : Field), fs[j]? = some f → ∃ (v : Value) (y : DataW H × List MemPlace), w.cell? (a.add (i * fs.size + j)) = some v ∧ ys[j]? = some y ∧ DataW.trod enc P w base spare held n f.type [v] = some y := by
  rcases open_slice ht h with h0 | ⟨a, len, cap, m, n, D, Pl, hcs, hb, hl, hm, hmm, hx, hi⟩
  · exact .inl h0
  · refine .inr ⟨a, len, cap, m, D, Pl, hcs, hb, hl, hm, hmm, by rw [hC] at hx; exact hx, fun i him => ?_⟩
    obtain ⟨cs', hc, ht'⟩ := hi i him
    rw [hC] at hc
    obtain ⟨ys, n', hn', hy, hlen, hyl, hf⟩ := DataW.trod_struct he ht'
    obtain ⟨_, hcl, hat⟩ := World.cells?_some hc
    simp only [Prod.mk.injEq] at hy
    refine ⟨ys, n', hy.1, hy.2, hyl, fun j f hj => ?_⟩
    obtain ⟨ho, hk⟩ := hone_of hone j f hj
    have hjl : j < fs.size := (Array.getElem?_eq_some_iff.1 hj).1
    have hcell := hat j hjl
    have hv : cs'[j]? = some (cs'[j]'(by omega)) := List.getElem?_eq_getElem (by omega)
    have h1 := hf j f hj
    rw [ho, hk] at h1
    have hone' : (cs'.drop j).take 1 = [cs'[j]'(by omega)] := by
      rw [List.drop_eq_getElem_cons (by omega)]
      rfl
    rw [hone'] at h1
    have hys : ys[j]? = some (ys[j]'(by omega)) := List.getElem?_eq_getElem (by omega)
    refine ⟨_, _, ?_, hys, h1.trans hys⟩
    rw [← Go.Deep.add_add, hcell, hv]
end
section
variable {H : Type} {enc : TypeId × Value → H} {w : World} {base : Nat} {sp : Nat → Bool} {held : Bool}
theorem open_strs {n : Nat} {v : Value} {y : DataW H × List MemPlace} (h : DataW.trod enc Tryd.prog w base sp held n 38 [v] = some y) (hr : Reached Tryd.prog 38 y.1) :
    ∃ aa al ac f, v = .slice aa al ac ∧ StrRd w w.heap.size aa al f := by
  rcases open_strings Tryd.underlying38 Tryd.underlying9 (by kernel_rfl) h with ⟨e, _⟩ | ⟨a, len, cap, ss, e, hb, hl, hm, hlen, hx, hc, hs⟩
  · injection e with e
    exact ⟨none, 0, 0, fun _ => .empty, e, by omega, fun h => absurd rfl h⟩
  · injection e with e
    have hle : len ≤ ss.length := by rw [hlen]; split <;> omega
    rw [hx] at hr
    have hb16 := (reach_slice Tryd.underlying38 hr).1
    have h16 : Tryd.prog.bytesOf 9 = 16 := by kernel_rfl
    rw [h16] at hb16
    have hl1 : (strs (H := H) (ss.take len)).length = len := by simp [strs]; omega
    rw [hl1] at hb16
    refine ⟨some a, len, cap, fun i => ss.getD i .empty, e, by omega, fun hn => ?_⟩
    have h0 := addr_of_cell (hc 0 (by omega))
    have ha : a = ⟨a.block, a.off, none⟩ := h0.1
    have hlt : a.block < w.heap.size := h0.2
    refine ⟨a.block, a.off, congrArg some ha, hlt, fun j hj => ?_⟩
    have := hc j (by omega)
    rw [ha, add_none] at this
    exact this
theorem open_types {n : Nat} {v : Value} {y : DataW H × List MemPlace} (h : DataW.trod enc Tryd.prog w base sp held n 23 [v] = some y) (hr : Reached Tryd.prog 23 y.1) :
    ∃ aa ac S, v = .slice aa S.n ac ∧ TypRd w w.heap.size aa S := by
  rcases open_slice_fields Tryd.underlying23 Tryd.underlying40 (by kernel_rfl) (by kernel_rfl) h with ⟨e, _⟩ | ⟨a, len, cap, m, D, Pl, e, hb, hl, hm, hmm, hx, hf⟩
  · injection e with e
    exact ⟨none, 0, ⟨0, fun _ => .empty, fun _ => 0, fun _ _ => .empty⟩, e, by simp, fun h => absurd rfl h⟩
  · injection e with e
    have hle : len ≤ m := by rw [hmm]; split <;> omega
    rw [hx] at hr
    obtain ⟨hb40, hall⟩ := reach_slice Tryd.underlying23 hr
    have h40 : Tryd.prog.bytesOf 40 = 40 := by kernel_rfl
    rw [h40, List.length_map, List.length_range] at hb40
    have key : ∀ i, ∃ t : ByteArray × Nat × (Nat → ByteArray), i < len → w.cell? (a.add (i * 2)) = some (.string t.1) ∧ ∃ aa ac, w.cell? (a.add (i * 2 + 1)) = some (.slice aa t.2.1 ac) ∧ StrRd w w.heap.size aa t.2.1 t.2.2 := by
      intro i
      by_cases hi : i < len
      · obtain ⟨ys, n', hD, _, hyl, hfl⟩ := hf i (by omega)
        obtain ⟨v0, y0, hc0, hy0, ht0⟩ := hfl 0 _ rfl
        obtain ⟨v1, y1, hc1, hy1, ht1⟩ := hfl 1 _ rfl
        have hri := hall (D i) (List.mem_map.2 ⟨i, by simpa using hi, rfl⟩)
        rw [hD] at hri
        have hra := reach_struct Tryd.underlying40 hri
        obtain ⟨⟩ | ⟨z0, _ | ⟨z1, ys⟩⟩ := ys
        · simp at hy0
        · simp at hy1
        obtain rfl : z0 = y0 := by simpa using hy0
        obtain rfl : z1 = y1 := by simpa using hy1
        obtain ⟨s, e1, e2, _⟩ := DataW.trod_string Tryd.underlying9 ht0
        obtain ⟨aa, al, ac, f, e3, hs⟩ := open_strs ht1 (reach_cons (reach_cons hra).2).1
        injection e1 with e1
        subst e1
        subst e3
        exact ⟨(s, al, f), fun _ => ⟨hc0, aa, ac, hc1, hs⟩⟩
      · exact ⟨(.empty, 0, fun _ => .empty), fun h => absurd h hi⟩
    obtain ⟨g, hg⟩ := Classical.axiomOfChoice key
    refine ⟨some a, cap, ⟨len, fun i => (g i).1, fun i => (g i).2.1, fun i => (g i).2.2⟩, e, by show len * 40 ≤ _; omega, fun hn => ?_⟩
    have h0 := addr_of_cell (hg 0 (Nat.pos_of_ne_zero hn)).1
    rw [Nat.zero_mul] at h0
    have ha0 : a.add 0 = a := rfl
    rw [ha0] at h0
    refine ⟨a.block, a.off, congrArg some h0.1, h0.2, fun j hj => ?_⟩
    obtain ⟨k1, aa, ac, k2, k3⟩ := hg j hj
    rw [h0.1, add_none] at k1 k2
    exact ⟨k1, aa, ac, k2, k3⟩
set_option maxRecDepth 8000 in
/-- A schema that is handed in. -/
theorem open_schema {r : Reach} {b0 : Nat} {v : Value} {d : DataW H} {p : List MemPlace} (hv : Value.okWide Tryd.prog w r b0 25 v) (h : DataW.Trod enc Tryd.prog w base sp held 25 v d p)
    (hr : Reached Tryd.prog 25 d) : ∃ A S cap, v = .agg #[.slice A S.n cap] ∧ TypRd w w.heap.size A S := by
  obtain ⟨cs, rfl, hsz⟩ := okWide_struct Tryd.underlying25 hv
  have hc1 : Tryd.prog.cellsOf 25 = 1 := by kernel_rfl
  have h1 : cs.size = 1 := hsz.trans hc1
  obtain ⟨l⟩ := cs
  match l, h1 with
  | [c0], _ =>
    obtain ⟨fuel, hf⟩ := h
    obtain ⟨xs, n, _, hx, _, hlen, hg⟩ := DataW.trod_struct Tryd.underlying25 hf
    match xs, hlen with
    | [y0], _ =>
      simp only [Prod.mk.injEq] at hx
      have g0 := hg 0 _ rfl
      have hd : d = .agg [y0.1] := by simpa using hx.1
      rw [hd] at hr
      have hra := (reach_cons (reach_struct Tryd.underlying25 hr)).1
      obtain ⟨aa, ac, S, e, hT⟩ := open_types (v := c0) (y := y0) (n := n) (by
        have hc1 : Tryd.prog.cellsOf 23 = 1 := by kernel_rfl
        simpa [Value.cells, hc1] using g0) hra
      subst e
      exact ⟨aa, S, ac, rfl, hT⟩
end
end Go.Proofs.YtppeonlpocdhkaaDoor

/-
  Several texts in one: Kit, Rd, RowOwn, Nodes, Letters, Letters2, Shape, Mem, NameWalk, IntC, Blk.
-/
import Derived.Test.YtagcbljfaflhoaaDoorRows
import Derived.WalkKit
import Derived.WalkSpells
import Derived.WalkLawsBesides
import Derived.ProofKit
import Derived.OpenShut
import Derived.Deep.QuietTactic
import Derived.BigQuiet
import Derived.Lib.Hide
import Derived.Deep.DeepHandedRow
import Derived.Lib.LaidTab
import Derived.Lib.SmallJoins
import Derived.Deep.Slices
import Derived.Deep.Fields
import Derived.ChangeSame
import Derived.SliceStrings
import Derived.Deep.AppendLies
import Derived.Laws.OwnMore
import Derived.Laws.AppendOwnNone
import Derived.Lib.OwnKind
import Derived.Lib.BufferRead
import Derived.Laws.RangeAny
import Derived.Lib.ConvBytes
import Derived.Lib.Builder
set_option linter.unusedVariables false
set_option linter.unusedSimpArgs false
/-! ### Small laws that every proof of this seat leans on: steps of 'Below', the last step of a law's row (the call returns true and nothing that was there has turned). -/
namespace Go.Proofs.YtagcbljfaflhoaaDoor
open Go.RowKit Go.ChangeShapes Go.WideShapes Go.ChangeAt

/-! ### Steps of 'Below w.heap.size w' -/
theorem bnew {w wk : World} (h : Below w.heap.size w wk) (o : Obj) : Below w.heap.size w (wk.alloc o) := h.alloc h.size o
theorem bcall {w wk w1 : World} (h : Below w.heap.size w wk) (h1 : Below wk.heap.size wk w1) : Below w.heap.size w w1 := h.trans (h1.mono h.size)
theorem bdrew {w wk : World} (h : Below w.heap.size w wk) : Below w.heap.size w wk.drew := h.drew
theorem bdrewN {B : Nat} {w wk : World} (h : Below B w wk) (n : Nat) : Below B w (wk.drewN n) := ⟨h.os, h.tape, h.output, h.size, h.block⟩
theorem bset {w wk : World} (h : Below w.heap.size w wk) {p : Addr} (hp : w.heap.size ≤ p.block) (u : Value) : Below w.heap.size w (wk.setCell p u) := h.setCell hp u
theorem bcell {W w1 : World} (hb : Below W.heap.size W w1) : (∀ b o, b < W.heap.size → w1.cell? ⟨b, o, none⟩ = W.cell? ⟨b, o, none⟩) ∧ (∀ b o, b < W.heap.size → w1.frozen? ⟨b, o, none⟩ = W.frozen? ⟨b, o, none⟩) :=
  ⟨fun b o h => hb.cell (p := ⟨b, o, none⟩) h, fun b o h => hb.frozen (p := ⟨b, o, none⟩) h⟩

/-! ### What a call hands back -/
theorem ret_bool {a b : Bool} (h : a = b) : Ending.returned (.bool a) = .returned (.bool b) := by rw [h]
theorem ret_int {k : IntKind} {a b : Int} (h : a = b) : Ending.returned (.int k a) = .returned (.int k b) := by rw [h]

/-! ### The row's last step: the law has returned true, and nothing that was there has turned -/
section
variable {H : Type} {enc : TypeId × Value → H} {P : Program}
theorem trodAll_stays (hl : laidOutB P = true) {W W' : World} (hb : Below W.heap.size W W') {sp : Nat → Bool} : ∀ {ts : List TypeId} {vs : List Value} {ds : List (DataW H)} {ps : List MemPlace},
    (∀ t ∈ ts, P.readableRec t = true ∧ t < P.types.size) → DataW.TrodAll enc P W 0 (fun _ => true) true ts vs ds ps → (∀ p ∈ ps, p.block < W.heap.size) → (∀ p ∈ ps, sp p.block = true) → DataW.TrodAll enc P W' 0 sp true ts vs ds ps
  | [], [], [], _, _, h, _, _ => h
  | t :: ts, v :: vs, d :: ds, ps, hr, h, hlt, hs => by
    obtain ⟨p, q, h1, h2, rfl⟩ := h
    refine ⟨p, q, WideElems.Trod_stays hl (hr t (by simp)).1 (hr t (by simp)).2 h1 (fun x hx => hb.same (hlt x (by simp [hx]))) (fun x hx => hs x (by simp [hx])), ?_, rfl⟩
    exact trodAll_stays hl hb (fun t' ht' => hr t' (by simp [ht'])) h2 (fun x hx => hlt x (by simp [hx])) (fun x hx => hs x (by simp [hx]))
  | [], _ :: _, _, _, _, h, _, _ => h.elim
  | [], [], _ :: _, _, _, h, _, _ => h.elim
  | _ :: _, [], _, _, _, h, _, _ => h.elim
  | _ :: _, _ :: _, [], _, _, h, _, _ => h.elim

theorem law_post {f : Func} {s : ChangeSpec} {W W' : World} {args : Array Value} {ds gs : List (DataW H)} {before : List MemPlace} {B : TypeId}
    (hl : laidOutB P = true) (hr : ∀ t ∈ f.params.toList, P.readableRec t = true ∧ t < P.types.size) (hrt : f.resultTypes = #[B]) (hB : P.underlying B = some .bool) (hv : s.vars = [])
    (hW : DataW.Whole enc P f.params.toList s.vars false W args.toList ds gs before)
    (hfn : s.fn H ds = { results := [.lit (.bool true)], args := ds }) (hb : Below W.heap.size W W') :
    s.post enc P f false true false false W args (.bool true) W' := by
  have hW0 := hW
  have hlt : ∀ p ∈ before, p.block < W.heap.size := fun p hp => hW.lt p hp
  obtain ⟨p, q, hA, hV, rfl, hz, hn⟩ := hW
  rw [hv] at hV
  obtain ⟨rfl, rfl⟩ := trodVars_none hV
  simp only [List.append_nil] at *
  have hfn' : s.fn H (ds ++ []) = { results := [.lit (.bool true)], args := ds } := by rw [List.append_nil]; exact hfn
  have hargs : ∀ sp : Nat → Bool, (∀ x ∈ p, sp x.block = true) → DataW.TrodAll enc P W' 0 sp true f.params.toList args.toList (s.fn H (ds ++ [])).args p := fun sp hs => by
    rw [hfn']
    exact trodAll_stays hl hb hr hA hlt hs
  have hres : ∀ (b : Nat) (sp : Nat → Bool) (hd : Bool), DataW.TrodAll enc P W' b sp hd f.resultTypes.toList ((Value.bool true).resultList f.resultTypes.size) (s.fn H (ds ++ [])).results [] := fun b sp hd => by
    rw [hfn', hrt]
    exact trodAll_cons_mk (shut_bool hB _) trodAll_mk0
  have hvars : ∀ sp : Nat → Bool, DataW.TrodVars enc P W' sp s.vars (s.fn H (ds ++ [])).vars [] := fun sp => by
    rw [hfn', hv]
    rfl
  refine ⟨ds, [], p, [], p, [], hW0, hres _ _ _, hargs _ (fun x hx => by simpa using hlt x hx), hvars _, World.keptBut_mono (fun x hx => ⟨hx, Or.inr (by simpa using hx)⟩) (hb.frame (· ∈ p)), fun h => by simp at h⟩
end
/-! ### A package-level variable that the row lists -/
theorem laidVars_at {P : Program} {W : World} : ∀ {laid : List (String × DataW Unit)} {ps : List MemPlace}, DataW.LaidVars P W laid ps → ∀ (i : Nat) {n : String} {d : DataW Unit}, laid[i]? = some (n, d) →
    ∃ (g : Nat) (t : TypeId) (cs : Array Value) (fuel : Nat) (p : List MemPlace), P.globalNamed n = some g ∧ (P.globals[g]?).map (·.type) = some t ∧ W.var? P n = some cs ∧ DataW.trod (fun _ => ()) P W 0 (fun _ => true) false fuel t cs.toList = some (d, p)
  | [], _, _, i, _, _, hi => by simp at hi
  | (n', d') :: r, ps, h, i, n, d, hi => by
    obtain ⟨g, t, cs, fuel, p, q, h1, h2, h3, h4, h5, _⟩ := h
    cases i with
    | zero =>
      simp only [List.getElem?_cons_zero, Option.some.injEq, Prod.mk.injEq] at hi
      obtain ⟨rfl, rfl⟩ := hi
      exact ⟨g, t, cs, fuel, p, h1, h2, h3, h4⟩
    | succ i => exact laidVars_at h5 i (by simpa using hi)

theorem laid_at {P : Program} {W : World} {laid : List (String × DataW Unit)} (h : laidMet P laid W) (i : Nat) {n : String} {d : DataW Unit} (hi : laid[i]? = some (n, d)) {g : Nat} (hg : P.globalNamed n = some g) {t : TypeId} (ht : (P.globals[g]?).map (·.type) = some t) :
    ∃ (cs : Array Value) (fuel : Nat) (p : List MemPlace), W.var? P n = some cs ∧ DataW.trod (fun _ => ()) P W 0 (fun _ => true) false fuel t cs.toList = some (d, p) := by
  obtain ⟨ps, hv, _⟩ := h
  obtain ⟨g', t', cs, fuel, p, h1, h2, h3, h4⟩ := laidVars_at hv i hi
  obtain rfl := Option.some.inj (hg.symm.trans h1)
  obtain rfl := Option.some.inj (ht.symm.trans h2)
  exact ⟨cs, fuel, p, h3, h4⟩

/-- An array of one-cell elements: element by element. -/
theorem arr_cells {H : Type} {enc : TypeId × Value → H} {P : Program} {w : World} {base : Nat} {sp : Nat → Bool} {held : Bool} {fuel : Nat} {t e : TypeId} {n : Nat} {cs : List Value} {ds : List (DataW H)} {p : List MemPlace}
    (ht : P.underlying t = some (.array n e)) (hce : P.cellsOf e = 1) (hct : P.cellsOf t = n) (h : DataW.trod enc P w base sp held fuel t cs = some (.agg ds, p)) :
    cs.length = n ∧ ds.length = n ∧ ∀ (i : Nat) d, ds[i]? = some d → ∃ v f q, cs[i]? = some v ∧ DataW.trod enc P w base sp held f e [v] = some (d, q) := by
  cases fuel with
  | zero => simp [DataW.trod] at h
  | succ fuel =>
    simp only [DataW.trod, ht, hce, hct, Nat.mul_one] at h
    split at h
    · rename_i hl
      obtain ⟨xs, hm, hx⟩ := Option.map_eq_some_iff.1 h
      have hxs : xs.map (·.1) = ds := by
        have := congrArg Prod.fst hx
        simpa using this
      have hxl : xs.length = n := by simpa using Lib.mapM_length hm
      have hdl : ds.length = n := by rw [← hxs]; simpa using hxl
      refine ⟨hl, hdl, fun i d hd => ?_⟩
      have hi : i < n := by
        have := (List.getElem?_eq_some_iff.1 hd).1
        omega
      obtain ⟨b, hb, hf⟩ := Lib.mapM_at hm i i (by simp [hi])
      have hbd : b.1 = d := by
        rw [← hxs] at hd
        simpa [hb] using hd
      have hc : (cs.drop i).take 1 = [cs[i]'(by omega)] := by
        rw [List.drop_eq_getElem_cons (by omega)]
        rfl
      rw [hc] at hf
      exact ⟨cs[i]'(by omega), fuel, b.2, List.getElem?_eq_getElem (by omega), by rw [hf, ← hbd]⟩
    · cases h

/-- A table of texts that is listed: its cells. -/
theorem strTab {P : Program} {W : World} {laid : List (String × DataW Unit)} (h : laidMet P laid W) (i : Nat) {n : String} (ls : List (List UInt8)) (hi : laid[i]? = some (n, .agg (ls.map fun s => .lit (.string s)))) {g : Nat} (hg : P.globalNamed n = some g) {t e : TypeId} {m : Nat}
    (hty : (P.globals[g]?).map (·.type) = some t) (ht : P.underlying t = some (.array m e)) (he : P.underlying e = some .string) (hce : P.cellsOf e = 1) (hct : P.cellsOf t = m) :
    W.var? P n = some (ls.map fun s => Value.string ⟨s.toArray⟩).toArray := by
  obtain ⟨cs, fuel, p, hv, hd⟩ := laid_at h i hi hg hty
  obtain ⟨h1, h2, h3⟩ := arr_cells ht hce hct hd
  rw [hv]
  congr 1
  apply Array.ext'
  rw [List.toList_toArray]
  apply List.ext_getElem?
  intro k
  by_cases hk : k < m
  · have hkl : k < ls.length := by simpa using (by omega : k < (ls.map fun s => (DataW.lit (.string s) : DataW Unit)).length)
    obtain ⟨v, f, q, hc, hf⟩ := h3 k (.lit (.string ls[k])) (by simp [hkl])
    obtain ⟨s, e1, e2, _⟩ := DataW.trod_string he hf
    simp only [List.cons.injEq, and_true] at e1
    subst e1
    simp only [Prod.mk.injEq, DataW.lit.injEq, Lit.string.injEq] at e2
    rw [hc]
    simp [hkl, e2.1]
  · rw [List.getElem?_eq_none (by omega), List.getElem?_eq_none (by simp at h2 ⊢; omega)]

/-- What a table's cells hold, wherever nothing below has turned. -/
theorem var_block {P : Program} {W : World} {n : String} {g : Nat} {cs : Array Value} (hg : P.globalNamed n = some g) (h : W.var? P n = some cs) : ∃ t fr, W.heap[g]? = some (.cells cs t fr) := by
  simp only [World.var?, hg, Option.bind_some] at h
  split at h
  · rename_i cs' t fr hh
    obtain rfl := Option.some.inj h
    exact ⟨t, fr, hh⟩
  · cases h
theorem block_below {W w : World} {g : Nat} {o : Obj} (h : W.heap[g]? = some o) (hb : Below W.heap.size W w) : w.heap[g]? = some o :=
  (hb.block g (Array.getElem?_eq_some_iff.1 h).1).trans h
/-- For the witness' world: a variable's block holds these cells. -/
def setCells (cs : Array Value) : Obj → Obj
  | .cells _ t fr => .cells cs t fr
  | o => o
/-! ### The form's reach, argument by argument -/
section
variable {H : Type} {P : Program}
def Reached (P : Program) (t : TypeId) (d : DataW H) : Prop := (d.weights P t).all (· ≤ reachBytes) = true
def ReachedAll (P : Program) (ts : List TypeId) (ds : List (DataW H)) : Prop := (DataW.weightsEach P ts ds).all (· ≤ reachBytes) = true
theorem reach_cons {t : TypeId} {ts : List TypeId} {d : DataW H} {r : List (DataW H)} (h : ReachedAll P (t :: ts) (d :: r)) : Reached P t d ∧ ReachedAll P ts r := by
  simpa only [ReachedAll, Reached, DataW.weightsEach, List.all_append, Bool.and_eq_true] using h
theorem reach_string {t : TypeId} {b : List UInt8} (h : Reached P t (.lit (.string b) : DataW H)) : b.length ≤ 140737488351232 := by
  simp only [Reached, DataW.weights, reachBytes, List.all_cons, List.all_nil, Bool.and_true] at h
  exact of_decide_eq_true h
end
end Go.Proofs.YtagcbljfaflhoaaDoor

/-! ### Rows in memory, whatever their elements: what they read as, and how a slice that is handed in reads. -/
namespace Go.Proofs.YtagcbljfaflhoaaDoor
open Go.RowKit Go.ChangeShapes Go.WideShapes Go.Deep
/-- A slice of n elements of sz cells each (bt bytes each) reads so, and lies below block B. -/
def RowRd (w : World) (B : Nat) (A : Option Addr) (n sz bt : Nat) (C : Nat → Nat → Value) : Prop :=
  n * bt ≤ 140737488351232 ∧ (n ≠ 0 → ∃ b off, A = some ⟨b, off, none⟩ ∧ b < B ∧ ∀ j, j < n → ∀ i, i < sz → w.cell? ⟨b, off + (j * sz + i), none⟩ = some (C j i))
section
variable {w w' : World} {B B' n sz bt : Nat} {A : Option Addr} {C C' : Nat → Nat → Value}
theorem RowRd.keep (h : RowRd w B A n sz bt C) (hk : ∀ p : Addr, p.block < B → w'.cell? p = w.cell? p) : RowRd w' B A n sz bt C :=
  ⟨h.1, fun hn => by
    obtain ⟨b, off, e, hb, hc⟩ := h.2 hn
    exact ⟨b, off, e, hb, fun j hj i hi => (hk _ hb).trans (hc j hj i hi)⟩⟩
theorem RowRd.more (h : RowRd w B A n sz bt C) (hB : B ≤ B') : RowRd w B' A n sz bt C :=
  ⟨h.1, fun hn => by
    obtain ⟨b, off, e, hb, hc⟩ := h.2 hn
    exact ⟨b, off, e, by omega, hc⟩⟩
theorem RowRd.below (h : RowRd w B A n sz bt C) (hb : Below B w w') : RowRd w' B A n sz bt C := h.keep fun _ hp => hb.cell hp
theorem RowRd.later (h : RowRd w w.heap.size A n sz bt C) (hb : Below w.heap.size w w') : RowRd w' w'.heap.size A n sz bt C := (h.below hb).more hb.size
theorem RowRd.congr (h : RowRd w B A n sz bt C) (hc : ∀ j, j < n → ∀ i, i < sz → C j i = C' j i) : RowRd w B A n sz bt C' :=
  ⟨h.1, fun hn => by
    obtain ⟨b, off, e, hb, h2⟩ := h.2 hn
    exact ⟨b, off, e, hb, fun j hj i hi => by rw [← hc j hj i hi]; exact h2 j hj i hi⟩⟩
theorem RowRd.take {m : Nat} (h : RowRd w B A n sz bt C) (hm : m ≤ n) : RowRd w B A m sz bt C :=
  ⟨Nat.le_trans (Nat.mul_le_mul_right _ hm) h.1, fun hn => by
    obtain ⟨b, off, e, hb, hc⟩ := h.2 (by omega)
    exact ⟨b, off, e, hb, fun j hj i hi => hc j (by omega) i hi⟩⟩
theorem RowRd.nil (w : World) (B : Nat) (A : Option Addr) (sz bt : Nat) (C : Nat → Nat → Value) : RowRd w B A 0 sz bt C := ⟨by simp, fun h => absurd rfl h⟩
/-- The cells of element j, wherever the row's cells stand as they stood. -/
theorem RowRd.spot (h : RowRd w B A n sz bt C) (hn : 0 < n) : ∃ b off, A = some ⟨b, off, none⟩ ∧ b < B ∧ (∀ j, j < n → ∀ i, i < sz → w.cell? ⟨b, off + j * sz + i, none⟩ = some (C j i)) ∧ ∀ j, j < n → 0 < sz → w.cell? ⟨b, off + j * sz, none⟩ = some (C j 0) := by
  obtain ⟨b, off, e, hb, hc⟩ := h.2 (by omega)
  exact ⟨b, off, e, hb, fun j hj i hi => by rw [Nat.add_assoc]; exact hc j hj i hi, fun j hj h0 => hc j hj 0 h0⟩
theorem RowRd.spot1 (h : RowRd w B A n 1 bt C) (hn : 0 < n) : ∃ b off, A = some ⟨b, off, none⟩ ∧ b < B ∧ ∀ j, j < n → w.cell? ⟨b, off + j, none⟩ = some (C j 0) := by
  obtain ⟨b, off, e, hb, hc⟩ := h.2 (by omega)
  exact ⟨b, off, e, hb, fun j hj => by have := hc j hj 0 (by omega); rwa [Nat.mul_one, Nat.add_zero] at this⟩
end
theorem rd_addr {w : World} {a : Addr} {v : Value} (h : w.cell? a = some v) : a = ⟨a.block, a.off, none⟩ ∧ a.block < w.heap.size := by
  unfold World.cell? at h
  split at h
  · rename_i hh
    have hlt := (Array.getElem?_eq_some_iff.1 hh).1
    split at h
    · cases h
    · rename_i hs
      refine ⟨?_, hlt⟩
      cases a with
      | mk b o s =>
        cases s with
        | none => rfl
        | some s => simp at hs
  · cases h
theorem rd_alloc {w : World} {a : Addr} {v : Value} (h : w.cell? a = some v) (o : Obj) : (w.alloc o).cell? a = some v := (World.cell?_alloc_lt w o a (rd_addr h).2).trans h
theorem rd_later {w w' : World} {a : Addr} {v : Value} (h : w.cell? a = some v) (hb : Below w.heap.size w w') : w'.cell? a = some v := (hb.cell (rd_addr h).2).trans h
theorem rd_add (b off i : Nat) : (⟨b, off, none⟩ : Addr).add i = ⟨b, off + i, none⟩ := by
  unfold Addr.add
  split
  · rename_i h; subst h; rfl
  · rfl
section
variable {H : Type} {P : Program}
theorem reached_slice {t e : TypeId} {es sp : List (DataW H)} (ht : P.underlying t = some (.slice e)) (h : Reached P t (.slice es sp)) : (es.length + sp.length) * P.bytesOf e ≤ 140737488351232 ∧ ∀ d ∈ es, Reached P e d := by
  simp only [Reached, DataW.weights, ht, List.all_cons, List.all_append, Bool.and_eq_true, reachBytes] at h
  refine ⟨of_decide_eq_true h.1, ?_⟩
  have h2 := h.2.1
  clear h ht
  induction es with
  | nil => simp
  | cons d r ih =>
    simp only [DataW.weightsAll, List.all_append, Bool.and_eq_true] at h2
    intro x hx
    rcases List.mem_cons.1 hx with rfl | hx
    · exact h2.1
    · exact ih h2.2 x hx
theorem reached_struct {t : TypeId} {fs : Array Field} {ds : List (DataW H)} (ht : P.underlying t = some (.struct fs)) (h : Reached P t (.agg ds)) : ReachedAll P (fs.toList.map (·.type)) ds := by
  simpa only [Reached, DataW.weights, ht, ReachedAll] using h
end
section
variable {H : Type} {enc : TypeId × Value → H} {P : Program} {w : World} {base : Nat} {sp : Nat → Bool} {held : Bool}
/-- A slice that is handed in, of whatever elements: each with its cells and its own reading. -/
theorem rd_slice {t e : TypeId} {sz bt fuel : Nat} {v : Value} {y : DataW H × List MemPlace} (ht : P.underlying t = some (.slice e)) (hs : P.cellsOf e = sz) (hsz : 0 < sz) (hbt : P.bytesOf e = bt)
    (h : DataW.trod enc P w base sp held fuel t [v] = some y) (hr : Reached P t y.1) :
    ∃ (A : Option Addr) (n cap : Nat) (E : Nat → List Value), v = .slice A n cap ∧ n ≤ cap ∧ (A = none → cap = 0) ∧ (∀ j, j < n → (E j).length = sz ∧ ∃ f y', DataW.trod enc P w base sp held f e (E j) = some y' ∧ Reached P e y'.1) ∧ RowRd w w.heap.size A n sz bt (fun j i => ((E j)[i]?).getD (.bool false)) := by
  rcases open_slice ht h with ⟨ev, _⟩ | ⟨a, len, cap, m, k, D, Pl, ev, hb, hl, hm, hmm, hx, hi⟩
  · injection ev with ev
    exact ⟨none, 0, 0, fun _ => [], ev, Nat.le_refl _, fun _ => rfl, fun j hj => absurd hj (Nat.not_lt_zero _), RowRd.nil _ _ _ _ _ _⟩
  · injection ev with ev
    have hle : len ≤ m := by rw [hmm]; split <;> omega
    rw [hx] at hr
    obtain ⟨hby, hall⟩ := reached_slice ht hr
    rw [hbt, List.length_map, List.length_range] at hby
    have key : ∀ i, ∃ cs : List Value, i < len → cs.length = sz ∧ (∀ j, j < sz → w.cell? ((a.add (i * sz)).add j) = cs[j]?) ∧ DataW.trod enc P w base sp held k e cs = some (D i, Pl i) := by
      intro i
      by_cases hil : i < len
      · obtain ⟨cs, hc, ht'⟩ := hi i (by omega)
        rw [hs] at hc
        obtain ⟨_, hcl, hat⟩ := World.cells?_some hc
        exact ⟨cs, fun _ => ⟨hcl, hat, ht'⟩⟩
      · exact ⟨[], fun h => absurd h hil⟩
    obtain ⟨E, hE⟩ := Classical.axiomOfChoice key
    refine ⟨some a, len, cap, E, ev, hl, fun h => (by cases h), fun j hj => ?_, ?_, fun hn => ?_⟩
    · obtain ⟨h1, _, h3⟩ := hE j hj
      exact ⟨h1, k, _, h3, hall (D j) (List.mem_map.2 ⟨j, by simpa using hj, rfl⟩)⟩
    · exact Nat.le_trans (Nat.mul_le_mul_right _ (Nat.le_add_right _ _)) hby
    · obtain ⟨h1, h2, _⟩ := hE 0 (by omega)
      have h0 := h2 0 hsz
      rw [List.getElem?_eq_getElem (by omega)] at h0
      have haa : (a.add (0 * sz)).add 0 = a := by rw [Nat.zero_mul]; rfl
      rw [haa] at h0
      obtain ⟨e1, e2⟩ := rd_addr h0
      refine ⟨a.block, a.off, congrArg some e1, e2, fun j hj i hi' => ?_⟩
      obtain ⟨k1, k2, _⟩ := hE j hj
      have := k2 i hi'
      rw [e1, rd_add, rd_add, List.getElem?_eq_getElem (by omega)] at this
      rw [Nat.add_assoc] at this
      rw [this]
      show some _ = some (((E j)[i]?).getD _)
      rw [List.getElem?_eq_getElem (by omega)]
      rfl
/-- A slice of integers. -/
theorem rd_ints {t e : TypeId} {k : IntKind} {bt fuel : Nat} {v : Value} {y : DataW H × List MemPlace} (ht : P.underlying t = some (.slice e)) (he : P.underlying e = some (.int k)) (hs : P.cellsOf e = 1) (hbt : P.bytesOf e = bt)
    (h : DataW.trod enc P w base sp held fuel t [v] = some y) (hr : Reached P t y.1) :
    ∃ (A : Option Addr) (n cap : Nat) (f : Nat → Int), v = .slice A n cap ∧ n ≤ cap ∧ (A = none → cap = 0) ∧ RowRd w w.heap.size A n 1 bt (fun j _ => .int k (f j)) ∧ ∀ j, j < n → (Lit.int k (f j)).wf = true := by
  obtain ⟨A, n, cap, E, rfl, hl, h0, hE, hR⟩ := rd_slice ht hs (by omega) hbt h hr
  have key : ∀ j, ∃ z : Int, j < n → E j = [.int k z] ∧ (Lit.int k z).wf = true := by
    intro j
    by_cases hj : j < n
    · obtain ⟨_, f, y', ht', _⟩ := hE j hj
      obtain ⟨z, e1, _, hw⟩ := DataW.trod_int he ht'
      exact ⟨z, fun _ => ⟨e1, hw⟩⟩
    · exact ⟨0, fun h => absurd h hj⟩
  obtain ⟨f, hf⟩ := Classical.axiomOfChoice key
  refine ⟨A, n, cap, f, rfl, hl, h0, hR.congr fun j hj i hi => ?_, fun j hj => (hf j hj).2⟩
  rw [(hf j hj).1]
  obtain rfl : i = 0 := by omega
  rfl
/-- A slice of texts. -/
theorem rd_strs {t e : TypeId} {bt fuel : Nat} {v : Value} {y : DataW H × List MemPlace} (ht : P.underlying t = some (.slice e)) (he : P.underlying e = some .string) (hs : P.cellsOf e = 1) (hbt : P.bytesOf e = bt)
    (h : DataW.trod enc P w base sp held fuel t [v] = some y) (hr : Reached P t y.1) :
    ∃ (A : Option Addr) (n cap : Nat) (f : Nat → ByteArray), v = .slice A n cap ∧ n ≤ cap ∧ (A = none → cap = 0) ∧ RowRd w w.heap.size A n 1 bt (fun j _ => .string (f j)) := by
  obtain ⟨A, n, cap, E, rfl, hl, h0, hE, hR⟩ := rd_slice ht hs (by omega) hbt h hr
  have key : ∀ j, ∃ z : ByteArray, j < n → E j = [.string z] := by
    intro j
    by_cases hj : j < n
    · obtain ⟨_, f, y', ht', _⟩ := hE j hj
      obtain ⟨z, e1, _⟩ := DataW.trod_string he ht'
      exact ⟨z, fun _ => e1⟩
    · exact ⟨.empty, fun h => absurd h hj⟩
  obtain ⟨f, hf⟩ := Classical.axiomOfChoice key
  refine ⟨A, n, cap, f, rfl, hl, h0, hR.congr fun j hj i hi => ?_⟩
  rw [hf j hj]
  obtain rfl : i = 0 := by omega
  rfl
/-- A slice of slices of integers. -/
theorem rd_intss {t e e2 : TypeId} {k : IntKind} {bt fuel : Nat} {v : Value} {y : DataW H × List MemPlace} (ht : P.underlying t = some (.slice e)) (he : P.underlying e = some (.slice e2)) (he2 : P.underlying e2 = some (.int k))
    (hs : P.cellsOf e = 1) (hbt : P.bytesOf e = 24) (hs2 : P.cellsOf e2 = 1) (hbt2 : P.bytesOf e2 = bt) (h : DataW.trod enc P w base sp held fuel t [v] = some y) (hr : Reached P t y.1) :
    ∃ (A : Option Addr) (n cap : Nat) (V : Nat → Value) (L : Nat → Nat) (F : Nat → Nat → Int), v = .slice A n cap ∧ n ≤ cap ∧ (A = none → cap = 0) ∧ RowRd w w.heap.size A n 1 24 (fun j _ => V j) ∧
      ∀ j, j < n → ∃ a c, V j = .slice a (L j) c ∧ L j ≤ c ∧ (a = none → c = 0) ∧ RowRd w w.heap.size a (L j) 1 bt (fun i _ => .int k (F j i)) ∧ ∀ i, i < L j → (Lit.int k (F j i)).wf = true := by
  obtain ⟨A, n, cap, E, rfl, hl, h0, hE, hR⟩ := rd_slice ht hs (by omega) hbt h hr
  have key : ∀ j, ∃ z : Value × Nat × (Nat → Int), j < n → E j = [z.1] ∧ ∃ a c, z.1 = .slice a z.2.1 c ∧ z.2.1 ≤ c ∧ (a = none → c = 0) ∧ RowRd w w.heap.size a z.2.1 1 bt (fun i _ => .int k (z.2.2 i)) ∧ ∀ i, i < z.2.1 → (Lit.int k (z.2.2 i)).wf = true := by
    intro j
    by_cases hj : j < n
    · obtain ⟨h1, f, y', ht', hr'⟩ := hE j hj
      match hE' : E j, h1 with
      | [c0], _ =>
        rw [hE'] at ht'
        obtain ⟨a, m, c, g, e1, e2, e3, e4, e5⟩ := rd_ints he he2 hs2 hbt2 ht' hr'
        exact ⟨(c0, m, g), fun _ => ⟨rfl, a, c, e1, e2, e3, e4, e5⟩⟩
    · exact ⟨(.bool false, 0, fun _ => 0), fun h => absurd h hj⟩
  obtain ⟨z, hz⟩ := Classical.axiomOfChoice key
  refine ⟨A, n, cap, fun j => (z j).1, fun j => (z j).2.1, fun j => (z j).2.2, rfl, hl, h0, hR.congr fun j hj i hi => ?_, fun j hj => (hz j hj).2⟩
  rw [(hz j hj).1]
  obtain rfl : i = 0 := by omega
  rfl
end
end Go.Proofs.YtagcbljfaflhoaaDoor

/-! ### Rows of the call's own, whatever their elements; a copy of a row by one append. -/
namespace Go.Proofs.YtagcbljfaflhoaaDoor
open Go.RowKit Go.ChangeShapes Go.WideShapes Go.Deep
/-- The cells of n elements of sz cells each, one behind the other. -/
def flat (C : Nat → Nat → Value) (sz n : Nat) : List Value := (List.range (n * sz)).map fun k => C (k / sz) (k % sz)
theorem flat_length (C : Nat → Nat → Value) (sz n : Nat) : (flat C sz n).length = n * sz := by simp [flat]
theorem flat_at (C : Nat → Nat → Value) {sz n j i : Nat} (hj : j < n) (hi : i < sz) : (flat C sz n)[j * sz + i]? = some (C j i) := by
  have h1 : j * sz + i < n * sz := by
    have : (j + 1) * sz ≤ n * sz := Nat.mul_le_mul_right _ hj
    rw [Nat.succ_mul] at this
    omega
  have h2 : (j * sz + i) / sz = j := by rw [Nat.mul_comm, Nat.mul_add_div (by omega), Nat.div_eq_of_lt hi, Nat.add_zero]
  have h3 : (j * sz + i) % sz = i := by rw [Nat.mul_comm, Nat.mul_add_mod, Nat.mod_eq_of_lt hi]
  simp [flat, h1, h2, h3]
theorem flat_zero (C : Nat → Nat → Value) (sz : Nat) : flat C sz 0 = [] := by simp [flat]
theorem flat_ext {C : Nat → Nat → Value} {sz n : Nat} {l : List Value} (hl : l.length = n * sz) (h : ∀ j, j < n → ∀ i, i < sz → l[j * sz + i]? = some (C j i)) : l = flat C sz n := by
  apply List.ext_getElem?
  intro k
  by_cases hk : k < n * sz
  · have hs : 0 < sz := by
      rcases Nat.eq_zero_or_pos sz with e | e
      · subst e; omega
      · exact e
    have h1 : k / sz < n := (Nat.div_lt_iff_lt_mul hs).2 hk
    have h2 : k % sz < sz := Nat.mod_lt _ hs
    have e : k = k / sz * sz + k % sz := by rw [Nat.mul_comm]; exact (Nat.div_add_mod k sz).symm
    rw [e, h _ h1 _ h2, flat_at C h1 h2]
  · rw [List.getElem?_eq_none (by omega), List.getElem?_eq_none (by rw [flat_length]; omega)]
theorem flat_succ (C : Nat → Nat → Value) (sz n : Nat) : flat C sz (n + 1) = flat C sz n ++ (List.range sz).map (C n) := by
  symm
  apply flat_ext
  · rw [List.length_append, flat_length, List.length_map, List.length_range, Nat.succ_mul]
  · intro j hj i hi
    by_cases e : j = n
    · subst e
      rw [List.getElem?_append_right (by rw [flat_length]; omega), flat_length, Nat.add_sub_cancel_left]
      simp [hi]
    · have h1 : j < n := by omega
      have h2 : j * sz + i < n * sz := by
        have : (j + 1) * sz ≤ n * sz := Nat.mul_le_mul_right _ h1
        rw [Nat.succ_mul] at this
        omega
      rw [List.getElem?_append_left (by rw [flat_length]; exact h2), flat_at C h1 hi]
theorem flat_congr {C C' : Nat → Nat → Value} {sz n : Nat} (h : ∀ j, j < n → ∀ i, i < sz → C j i = C' j i) : flat C sz n = flat C' sz n :=
  flat_ext (flat_length C sz n) fun j hj i hi => by rw [flat_at C hj hi, h j hj i hi]
theorem flat_take (C : Nat → Nat → Value) {sz m n : Nat} (h : m ≤ n) : (flat C sz n).take (m * sz) = flat C sz m := by
  apply flat_ext
  · rw [List.length_take, flat_length, Nat.min_eq_left (Nat.mul_le_mul_right _ h)]
  · intro j hj i hi
    have h2 : j * sz + i < m * sz := by
      have : (j + 1) * sz ≤ m * sz := Nat.mul_le_mul_right _ hj
      rw [Nat.succ_mul] at this
      omega
    rw [List.getElem?_take_of_lt h2, flat_at C (by omega) hi]
section
variable {w w' : World} {B n sz bt : Nat} {e : TypeId} {v : Value} {C : Nat → Nat → Value} {xs : List Value}
theorem rowown_shape (h : w.ownsRow B e sz v n xs) : ∃ A c, v = .slice A n c ∧ n ≤ c ∧ (A = none → c = 0) := by
  rcases h.2 with ⟨rfl, rfl⟩ | ⟨g, cap, cur, rfl, _, _, hc, _⟩
  · exact ⟨none, 0, rfl, Nat.le_refl _, fun _ => rfl⟩
  · exact ⟨_, _, rfl, hc, fun h => by cases h⟩
theorem rowown_one (h : w.ownsRow B e sz v n xs) : v.oneCell' = true := by
  obtain ⟨A, c, rfl, _⟩ := rowown_shape h
  rfl
theorem rowown_rd {A : Option Addr} {c : Nat} (h : w.ownsRow B e sz (.slice A n c) n (flat C sz n)) (hn : n * bt ≤ 140737488351232) : RowRd w w.heap.size A n sz bt C := by
  refine ⟨hn, fun h0 => ?_⟩
  obtain ⟨g, cap, hv, hB, hlt⟩ := h.form (by omega)
  injection hv with hA _ hc
  subst hA hc
  refine ⟨g, 0, rfl, hlt, fun j hj i hi => ?_⟩
  have h2 : j * sz + i < n * sz := by
    have : (j + 1) * sz ≤ n * sz := Nat.mul_le_mul_right _ hj
    rw [Nat.succ_mul] at this
    omega
  rw [Nat.zero_add, h.cellAt _ h2, flat_at C hj hi]
theorem rowown_below (h : w.ownsRow B e sz v n xs) (hb : Below w.heap.size w w') : w'.ownsRow B e sz v n xs := by
  refine h.kept (row := none) ⟨hb.os, hb.tape, hb.output, hb.size, fun i hi _ => hb.block i hi⟩ ?_
  cases v.ownBlock <;> simp
theorem rowown_kept {row : Option Nat} (h : w.ownsRow B e sz v n xs) (hg : w.grownBy w' row) (hne : ∀ g, row = some g → v.ownBlock ≠ some g) : w'.ownsRow B e sz v n xs := by
  refine h.kept hg ?_
  cases hr : row with
  | none => cases v.ownBlock <;> simp
  | some g => right; exact hne g hr
theorem rowown_ne (h : w.ownsRow B e sz v n xs) {x : Nat} (hx : x < B) : v.ownBlock ≠ some x := fun hv => by
  have := (h.lt x hv).1
  omega
theorem rowown_type {e' : TypeId} {B' sz' n' : Nat} {v' : Value} {xs' : List Value} (h : w.ownsRow B e sz v n xs) (h' : w.ownsRow B' e' sz' v' n' xs') (he : e ≠ e') {g : Nat} (hg : v.ownBlock = some g) : v'.ownBlock ≠ some g := by
  intro hg'
  obtain ⟨c, fz, h1⟩ := Lib.ownsRow_kind h g hg
  obtain ⟨c', fz', h2⟩ := Lib.ownsRow_kind h' g hg'
  rw [h1] at h2
  injection h2 with h2
  injection h2 with _ h2
  exact he h2
theorem rowown_far {g i : Nat} (h : w.ownsRow B e sz v n xs) (hg : v.ownBlock ≠ some g) (u : Value) : (w.setCell ⟨g, i, none⟩ u).ownsRow B e sz v n xs := by
  refine h.kept (row := some g) ⟨rfl, rfl, rfl, by simp, fun k _ hk => Below.heap_setCell w _ u k (fun e => hk (by rw [e]))⟩ (Or.inr hg)
/-- The row without its last elements. -/
theorem rowown_cut {A : Option Addr} {c m : Nat} (h : w.ownsRow B e sz (.slice A n c) n (flat C sz n)) (hA : A ≠ none) (hm : m ≤ n) : w.ownsRow B e sz (.slice A m c) m (flat C sz m) := by
  refine ⟨flat_length C sz m, ?_⟩
  rcases h.2 with ⟨e1, _⟩ | ⟨g, cap, cur, e1, h1, h2, h3, h4, h5, h6⟩
  · injection e1 with e1; exact absurd e1 hA
  · injection e1 with e1 _ e2
    subst e1 e2
    refine Or.inr ⟨g, c, cur, rfl, h1, h2, by omega, h4, h5, ?_⟩
    rw [← flat_take C hm, ← h6, List.take_take, Nat.min_eq_left (Nat.mul_le_mul_right _ hm)]
/-- What an append has turned lies in the row or behind all that was there. -/
theorem below_grown {B0 : Nat} {w0 : World} {row : Option Nat} (h : Below B0 w0 w) (hg : w.grownBy w' row) (hs : B0 ≤ w.heap.size) (hne : ∀ x, row = some x → B0 ≤ x) : Below B0 w0 w' := h.grown hg hs hne
end
/-- 'append(out, l...)', out nil: a copy. -/
theorem wpList_append_copy {P : Program} (w : World) {ops : Array Oper} {rest : List Oper} {o : Oper} {a : Act} {Q : Exit → Act → World → Prop} (hgd : o.guard = none) (s x : Operand) (t : TypeId)
    (ho : o.op = .call { callee := .builtin .append, args := #[s, x], argTypes := #[t, t] })
    (e : TypeId) (i : TypeInfo) (z : Value) (size bytes : Nat) (ht : P.underlying t = some (.slice e)) (hi : P.info? e = some i) (hz : i.zero = some z)
    (hsize : i.size = size) (hby : i.bytes = bytes) (hzs : z.cells.size = size) (hsz : 0 < size) (hbz : 0 < bytes)
    (hs : a.eval s = .slice none 0 0) (A : Option Addr) (n c B : Nat) (C : Nat → Nat → Value) (hx : a.eval x = .slice A n c) (hl : n ≤ c) (hA : A = none → c = 0) (hR : RowRd w B A n size bytes C) (h1 : ∀ j, j < n → ∀ i, i < size → (C j i).oneCell' = true)
    (h : ∀ v' w', w'.ownsRow w.heap.size e size v' n (flat C size n) → Below w.heap.size w w' → wpList P ops Q rest (a.put o.dst v') w') : wpList P ops Q (o :: rest) a w := by
  have hn0 : w.ownsRow w.heap.size e size (.slice none 0 0) 0 [] := World.ownsRow_nil _ _ _ _
  cases A with
  | none =>
    obtain rfl : c = 0 := hA rfl
    obtain rfl : n = 0 := by omega
    exact wpList_append_own_none hgd s x t ho w.heap.size e i size ht hi _ 0 [] hs hn0 hx (h _ _ (by rw [flat_zero]; exact hn0) (Below.refl _ _))
  | some ad =>
    have hb := hR.1
    have hnn : n ≤ 140737488351232 := Nat.le_trans (Nat.le_mul_of_pos_right n hbz) hb
    refine wpList_append_own w hgd s x t ho w.heap.size e i z size bytes ht hi hz hsize hby hzs hsz (.slice none 0 0) 0 [] hs hn0 ad n c (flat C size n) hx (flat_length C size n) ?_ ?_ (by unfold maxLen; omega) (by rw [Nat.zero_add]; omega) (Nat.le_refl _) fun v' w' hown hg _ => ?_
    · intro k u hk
      have hk' : k < n * size := by
        have := (List.getElem?_eq_some_iff.1 hk).1
        rwa [flat_length] at this
      have hn : n ≠ 0 := by intro e; subst e; omega
      obtain ⟨b, off, e1, _, hc⟩ := hR.2 hn
      injection e1 with e1
      subst e1
      have h1 : k / size < n := (Nat.div_lt_iff_lt_mul hsz).2 hk'
      have h2 : k % size < size := Nat.mod_lt _ hsz
      have e : k = k / size * size + k % size := by rw [Nat.mul_comm]; exact (Nat.div_add_mod k size).symm
      rw [e, flat_at C h1 h2] at hk
      injection hk with hk
      rw [rd_add, e, hc _ h1 _ h2, hk]
    · intro u hu
      obtain ⟨k, hk, rfl⟩ := List.mem_map.1 hu
      have hk' : k < n * size := by simpa using hk
      exact h1 _ ((Nat.div_lt_iff_lt_mul hsz).2 hk') _ (Nat.mod_lt _ hsz)
    · rw [Nat.zero_add, List.nil_append] at hown
      exact h v' w' hown ((Below.refl w.heap.size w).grown hg (Nat.le_refl _) (fun x hx => by simp [Value.ownBlock] at hx))
end Go.Proofs.YtagcbljfaflhoaaDoor

/-! ### Trees' nodes in memory: what they read as, and how a list of nodes that is handed in reads. -/
namespace Go.Proofs.YtagcbljfaflhoaaDoor
open Go.RowKit Go.ChangeShapes Go.WideShapes Go.Deep
/-- A node. -/
structure Nod where
  op : Int
  n : Int
  vr : ByteArray
  at_ : ByteArray
  a : Int
  b : Int
def nodCell (x : Nod) : Nat → Value
  | 0 => .int .i64 x.op
  | 1 => .int .i64 x.n
  | 2 => .string x.vr
  | 3 => .string x.at_
  | 4 => .int .i64 x.a
  | _ => .int .i64 x.b
theorem nodCell_one (x : Nod) (i : Nat) : (nodCell x i).oneCell' = true := by
  unfold nodCell
  split <;> rfl
def nodArr (x : Nod) : Array Value := #[.int .i64 x.op, .int .i64 x.n, .string x.vr, .string x.at_, .int .i64 x.a, .int .i64 x.b]
def I64 (n : Int) : Prop := -9223372036854775808 ≤ n ∧ n ≤ 9223372036854775807
structure NodWf (x : Nod) : Prop where
  op : I64 x.op
  n : I64 x.n
  a : I64 x.a
  b : I64 x.b
  vr : x.vr.size ≤ maxLen
  at_ : x.at_.size ≤ maxLen
/-- A list of nodes reads so. -/
def NodRd (w : World) (B : Nat) (A : Option Addr) (n : Nat) (f : Nat → Nod) : Prop := RowRd w B A n 6 64 (fun j => nodCell (f j))
section
variable {w w' : World} {B n : Nat} {A : Option Addr} {f : Nat → Nod}
theorem NodRd.below (h : NodRd w B A n f) (hb : Below B w w') : NodRd w' B A n f := RowRd.below h hb
theorem NodRd.later (h : NodRd w w.heap.size A n f) (hb : Below w.heap.size w w') : NodRd w' w'.heap.size A n f := RowRd.later h hb
theorem NodRd.small (h : NodRd w B A n f) : n ≤ 2199023255488 := by have := h.1; omega
/-- The cells of the nodes, as a walk comes to them. -/
theorem NodRd.spot (h : NodRd w B A n f) (hn : 0 < n) : ∃ b off, A = some ⟨b, off, none⟩ ∧ b < B ∧ ∀ j, j < n →
    w.cell? ⟨b, off + j * 6, none⟩ = some (.int .i64 (f j).op) ∧ w.cell? ⟨b, off + j * 6 + 1, none⟩ = some (.int .i64 (f j).n) ∧ w.cell? ⟨b, off + j * 6 + 2, none⟩ = some (.string (f j).vr) ∧
    w.cell? ⟨b, off + j * 6 + 3, none⟩ = some (.string (f j).at_) ∧ w.cell? ⟨b, off + j * 6 + 4, none⟩ = some (.int .i64 (f j).a) ∧ w.cell? ⟨b, off + j * 6 + 5, none⟩ = some (.int .i64 (f j).b) := by
  obtain ⟨b, off, e, hb, h1, h2⟩ := RowRd.spot h hn
  exact ⟨b, off, e, hb, fun j hj => ⟨h2 j hj (by omega), h1 j hj 1 (by omega), h1 j hj 2 (by omega), h1 j hj 3 (by omega), h1 j hj 4 (by omega), h1 j hj 5 (by omega)⟩⟩
end
section
variable {H : Type} {enc : TypeId × Value → H} {w : World} {base : Nat} {sp : Nat → Bool} {held : Bool}
/-- A list of nodes that is handed in. -/
theorem rd_nodes {fuel : Nat} {v : Value} {y : DataW H × List MemPlace} (h : DataW.trod enc Tryd.prog w base sp held fuel 22 [v] = some y) (hr : Reached Tryd.prog 22 y.1) :
    ∃ (A : Option Addr) (n cap : Nat) (f : Nat → Nod), v = .slice A n cap ∧ n ≤ cap ∧ (A = none → cap = 0) ∧ NodRd w w.heap.size A n f ∧ ∀ j, j < n → NodWf (f j) := by
  have hc6 : Tryd.prog.cellsOf 60 = 6 := by kernel_rfl
  have hb64 : Tryd.prog.bytesOf 60 = 64 := by kernel_rfl
  obtain ⟨A, n, cap, E, rfl, hl, h0, hE, hR⟩ := rd_slice Tryd.underlying22 hc6 (by omega) hb64 h hr
  have k1 : Tryd.prog.cellsOf 58 = 1 := by kernel_rfl
  have k2 : Tryd.prog.cellsOf 2 = 1 := by kernel_rfl
  have k3 : Tryd.prog.cellsOf 9 = 1 := by kernel_rfl
  have k4 : Tryd.prog.cellsOf 3 = 1 := by kernel_rfl
  have key : ∀ j, ∃ x : Nod, j < n → (∀ i, i < 6 → (E j)[i]? = some (nodCell x i)) ∧ NodWf x := by
    intro j
    by_cases hj : j < n
    · obtain ⟨hlen, f, y', ht', _⟩ := hE j hj
      match hE' : E j, hlen with
      | [c0, c1, c2, c3, c4, c5], _ =>
        rw [hE'] at ht'
        obtain ⟨xs, m, _, hx, _, hl2, hg⟩ := DataW.trod_struct Tryd.underlying60 ht'
        match xs, hl2 with
        | [y0, y1, y2, y3, y4, y5], _ =>
          have g0 := hg 0 _ rfl
          have g1 := hg 1 _ rfl
          have g2 := hg 2 _ rfl
          have g3 := hg 3 _ rfl
          have g4 := hg 4 _ rfl
          have g5 := hg 5 _ rfl
          simp [k1, k2, k3, k4] at g0 g1 g2 g3 g4 g5
          obtain ⟨op, e0, _, w0⟩ := DataW.trod_int Tryd.underlying58 g0
          obtain ⟨nn, e1, _, w1⟩ := DataW.trod_int Tryd.underlying2 g1
          obtain ⟨vr, e2, _, w2⟩ := DataW.trod_string Tryd.underlying9 g2
          obtain ⟨at_, e3, _, w3⟩ := DataW.trod_string Tryd.underlying9 g3
          obtain ⟨a, e4, _, w4⟩ := DataW.trod_int Tryd.underlying3 g4
          obtain ⟨b, e5, _, w5⟩ := DataW.trod_int Tryd.underlying3 g5
          injection e0 with e0
          injection e1 with e1
          injection e2 with e2
          injection e3 with e3
          injection e4 with e4
          injection e5 with e5
          subst e0 e1 e2 e3 e4 e5
          refine ⟨⟨op, nn, vr, at_, a, b⟩, fun _ => ⟨fun i hi => ?_, bounds_i64 w0, bounds_i64 w1, bounds_i64 w4, bounds_i64 w5, w2, w3⟩⟩
          obtain rfl | rfl | rfl | rfl | rfl | rfl : i = 0 ∨ i = 1 ∨ i = 2 ∨ i = 3 ∨ i = 4 ∨ i = 5 := by omega
          all_goals rfl
    · exact ⟨⟨0, 0, .empty, .empty, 0, 0⟩, fun h => absurd h hj⟩
  obtain ⟨f, hf⟩ := Classical.axiomOfChoice key
  refine ⟨A, n, cap, f, rfl, hl, h0, hR.congr fun j hj i hi => ?_, fun j hj => (hf j hj).2⟩
  rw [(hf j hj).1 i hi]
  rfl
end
end Go.Proofs.YtagcbljfaflhoaaDoor

/-! ### Plain facts on letters of any case: a byte made great, a text made great, and when a text is a keyword in letters of any case. -/
namespace Go.Proofs.YtagcbljfaflhoaaDoor
open Go.RowKit
/-- A byte, a small letter made great. -/
def up (c : UInt8) : UInt8 := if 97 ≤ c.toNat ∧ c.toNat ≤ 122 then c - 32 else c
theorem up_small {c : UInt8} (h1 : 97 ≤ c.toNat) (h2 : c.toNat ≤ 122) : ((up c).toNat : Int) = (c.toNat : Int) - 32 := by
  unfold up
  rw [if_pos ⟨h1, h2⟩, UInt8.toNat_sub_of_le]
  · simp
    omega
  · rw [UInt8.le_iff_toNat_le]
    simp
    omega
theorem up_other {c : UInt8} (h : ¬ (97 ≤ c.toNat ∧ c.toNat ≤ 122)) : up c = c := if_neg h
/-- Is s the keyword k, in letters of any case? -/
def alikeB (s k : ByteArray) : Bool := s.data.toList.map up == k.data.toList
/-- The first i letters of s, made great, are k's. -/
def likeTo (s k : ByteArray) (i : Nat) : Prop := (s.data.toList.map up).take i = k.data.toList.take i
theorem likeTo_zero (s k : ByteArray) : likeTo s k 0 := by simp [likeTo]
theorem likeTo_step {s k : ByteArray} {i : Nat} (h : likeTo s k i) (hs : i < s.size) (hk : i < k.size) (he : up s[i] = k[i]) : likeTo s k (i + 1) := by
  unfold likeTo at *
  have h1 : i < (s.data.toList.map up).length := by simpa using hs
  have h2 : i < k.data.toList.length := by simpa using hk
  rw [List.take_succ_eq_append_getElem h1, List.take_succ_eq_append_getElem h2, h]
  congr 2
  rw [List.getElem_map]
  exact he
theorem likeTo_all {s k : ByteArray} (hz : s.size = k.size) (h : likeTo s k s.size) : alikeB s k = true := by
  unfold likeTo at h
  unfold alikeB
  have h1 : (s.data.toList.map up).length = s.size := by simp
  have h2 : k.data.toList.length = k.size := by simp
  rw [List.take_of_length_le (by omega), List.take_of_length_le (by omega)] at h
  simpa using h
theorem alike_miss {s k : ByteArray} {i : Nat} (hs : i < s.size) (hk : i < k.size) (he : ¬ up s[i] = k[i]) : alikeB s k = false := by
  unfold alikeB
  rw [beq_eq_false_iff_ne]
  intro h
  apply he
  have h1 : (s.data.toList.map up)[i]? = k.data.toList[i]? := by rw [h]
  have h2 : i < s.data.toList.length := by simpa using hs
  have h3 : i < k.data.toList.length := by simpa using hk
  rw [List.getElem?_map, List.getElem?_eq_getElem h2, List.getElem?_eq_getElem h3] at h1
  exact Option.some.inj h1
theorem alike_short {s k : ByteArray} (h : s.size ≠ k.size) : alikeB s k = false := by
  unfold alikeB
  rw [beq_eq_false_iff_ne]
  intro he
  apply h
  have := congrArg List.length he
  simpa using this
theorem up_ne_small {c d : UInt8} (h1 : (97 : Int) ≤ c.toNat) (h2 : (c.toNat : Int) ≤ 122) (h : ((c.toNat : Int) - 32 != (d.toNat : Int)) = true) : ¬ up c = d := by
  intro e
  have h3 := up_small (c := c) (by omega) (by omega)
  rw [e] at h3
  rw [bne_iff_ne] at h
  omega
theorem up_eq_small {c d : UInt8} (h1 : (97 : Int) ≤ c.toNat) (h2 : (c.toNat : Int) ≤ 122) (h : ((c.toNat : Int) - 32 != (d.toNat : Int)) = false) : up c = d := by
  have h3 := up_small (c := c) (by omega) (by omega)
  rw [bne_eq_false_iff_eq] at h
  apply UInt8.toNat_inj.1
  omega
theorem up_ne_other {c d : UInt8} (h1 : ¬ (97 ≤ c.toNat ∧ c.toNat ≤ 122)) (h : ((c.toNat : Int) != (d.toNat : Int)) = true) : ¬ up c = d := by
  rw [up_other h1]
  rintro rfl
  simp at h
theorem up_eq_other {c d : UInt8} (h1 : ¬ (97 ≤ c.toNat ∧ c.toNat ≤ 122)) (h : ((c.toNat : Int) != (d.toNat : Int)) = false) : up c = d := by
  rw [up_other h1]
  rw [bne_eq_false_iff_eq] at h
  apply UInt8.toNat_inj.1
  omega
end Go.Proofs.YtagcbljfaflhoaaDoor

/-! ### Plain facts on names: letters, digits, words, keywords. -/
namespace Go.Proofs.YtagcbljfaflhoaaDoor
open Go.RowKit
/-- A letter, by its number. -/
def ltrI (n : Int) : Bool := (decide (65 ≤ n) && decide (n ≤ 90)) || (decide (97 ≤ n) && decide (n ≤ 122))
def digI (n : Int) : Bool := decide (48 ≤ n) && decide (n ≤ 57)
def wordI (n : Int) : Bool := ltrI n || digI n || n == 95
/-- The keywords, as the rows list them. -/
def kwList : List (List UInt8) := [[80, 65, 84, 84, 69, 82, 78], [83, 69, 81], [85, 83, 73, 78, 71], [65, 78, 89], [78, 69, 88, 84], [83, 84, 82, 73, 67, 84], [87, 72, 69, 82, 69], [87, 73, 84, 72, 73, 78], [80, 65, 82, 84, 73, 84, 73, 79, 78], [66, 89], [82, 69, 84, 85, 82, 78], [65, 78, 68], [79, 82], [78, 79, 84], [84, 82, 85, 69], [70, 65, 76, 83, 69], [67, 79, 85, 78, 84], [83, 85, 77], [77, 73, 78], [77, 65, 88], [70, 73, 82, 83, 84], [76, 65, 83, 84], [80, 82, 69, 86], [65, 70, 84, 69, 82], [65, 76, 76], [80, 65, 83, 84], [79, 78, 67, 69]]
/-- The table's array as a program loads it whole. -/
def kwArr : Array Value := (kwList.map fun s => Value.string ⟨s.toArray⟩).toArray
/-- Keyword i. -/
def kwAt (i : Nat) : ByteArray := ⟨(kwList.getD i []).toArray⟩
/-- A text, its letters made great. -/
def upper (s : ByteArray) : ByteArray := ⟨(s.data.toList.map up).toArray⟩
theorem kwAt_size (i : Nat) : (kwAt i).size ≤ 27 := by
  by_cases h : i < 27
  · have : ∀ j, j < 27 → (kwAt j).size ≤ 27 := by decide
    exact this i h
  · have : kwAt i = ⟨#[]⟩ := by
      unfold kwAt
      rw [List.getD_eq_getElem?_getD, List.getElem?_eq_none (by simp [kwList]; omega)]
      rfl
    rw [this]
    exact Nat.zero_le _
theorem kwArr_at {j : Nat} (hj : j < 27) : kwArr[j]? = some (.string (kwAt j)) := by
  have hl : j < kwList.length := hj
  simp [kwArr, kwAt, hl, List.getD_eq_getElem?_getD]
theorem kwArr_cell {w : World} {g : Nat} {tt : TypeId} {fr : Nat × Nat} (hb : w.heap[g]? = some (.cells kwArr tt fr)) (j : Nat) (hj : j < 27) : w.cell? ⟨g, j, none⟩ = some (.string (kwAt j)) := by
  rw [cell_of_row w g j kwArr tt fr hb, kwArr_at hj]
theorem run_kwAt (P : Program) {t e : TypeId} (ht : P.underlying t = some (.array 27 e)) (hs : (P.info? e).map (·.size) = some 1) (hu : P.underlying e = some .string) (j : Nat) (hj : j < 27) (w : World) :
    (Instr.index t (.agg kwArr) (.int .i64 (j : Int))).run P w = .ok (.string (kwAt j)) w := by
  obtain ⟨i, hi, hz⟩ := Option.map_eq_some_iff.1 hs
  simp [Instr.index, run_underlying ht, asIntOf, sizeOf, typeInfo, hi, hz, part, isAgg, run_underlying hu, kwArr_at hj, hj, go_sem]
theorem eq_upper (s k : ByteArray) : (k.toList == (upper s).toList) = alikeB s k := by
  rw [Go.ByteArray.toList_eq, Go.ByteArray.toList_eq, Bool.eq_iff_iff, beq_iff_eq, alikeB, beq_iff_eq]
  simp only [upper]
  exact eq_comm
theorem upper_eq (s k : ByteArray) : ((upper s).toList == k.toList) = alikeB s k := by
  rw [← eq_upper, Bool.eq_iff_iff, beq_iff_eq, beq_iff_eq]
  exact eq_comm
/-- Is s a keyword? -/
def isKw (s : ByteArray) : Bool := (List.range 27).any fun i => alikeB s (kwAt i)
theorem isKw_hit {s : ByteArray} {j : Nat} (hj : j < 27) (h : alikeB s (kwAt j) = true) : isKw s = true := by
  unfold isKw
  rw [List.any_eq_true]
  exact ⟨j, by simpa using hj, h⟩
theorem isKw_none {s : ByteArray} (h : ∀ k, k < 27 → alikeB s (kwAt k) = false) : isKw s = false := by
  unfold isKw
  rw [List.any_eq_false]
  intro x hx
  rw [h x (by simpa using hx)]
  simp
/-- The first byte. -/
def first0 (s : ByteArray) : UInt8 := s.data.toList.headD 0
/-- Is s a name? -/
def nameB (s : ByteArray) : Bool := decide (0 < s.size) && decide (s.size ≤ 16) && (s.data.toList.all fun c => wordI c.toNat) && !digI (first0 s).toNat && !isKw s
theorem head_at {s : ByteArray} (h : 0 < s.size) : first0 s = s[0] := by
  obtain ⟨⟨l⟩⟩ := s
  cases l with
  | nil => simp [ByteArray.size] at h
  | cons c l => rfl
theorem name_small {s : ByteArray} (h : ¬ 0 < s.size) : nameB s = false := by simp [nameB, h]
theorem name_great {s : ByteArray} (h : ¬ s.size ≤ 16) : nameB s = false := by simp [nameB, h]
theorem name_digit {s : ByteArray} (h : 0 < s.size) (hd : digI (s[0].toNat) = true) : nameB s = false := by simp [nameB, head_at h, hd]
theorem name_word {s : ByteArray} {j : Nat} (h : j < s.size) (hd : wordI (s[j].toNat) = false) : nameB s = false := by
  have : (s.data.toList.all fun c => wordI c.toNat) = false := by
    rw [List.all_eq_false]
    have h2 : j < s.data.toList.length := by simpa using h
    refine ⟨s.data.toList[j], List.getElem_mem h2, ?_⟩
    have : s.data.toList[j] = s[j] := rfl
    rw [this, hd]
    simp
  simp [nameB, this]
theorem all_words {s : ByteArray} (h : ∀ j (hj : j < s.size), wordI (s[j].toNat) = true) : (s.data.toList.all fun c => wordI c.toNat) = true := by
  rw [List.all_eq_true]
  intro c hc
  obtain ⟨j, hj, rfl⟩ := List.getElem_of_mem hc
  exact h j (by simpa using hj)
theorem name_kw {s : ByteArray} {j : Nat} (hj : j < 27) (h : alikeB s (kwAt j) = true) : nameB s = false := by simp [nameB, isKw_hit hj h]
theorem name_yes {s : ByteArray} (h0 : 0 < s.size) (h1 : s.size ≤ 16) (h2 : ∀ j (hj : j < s.size), wordI (s[j].toNat) = true) (h3 : digI (s[0].toNat) = false) (h4 : ∀ k, k < 27 → alikeB s (kwAt k) = false) : nameB s = true := by
  simp [nameB, h0, h1, head_at h0, h3, all_words h2, isKw_none h4]
theorem word_high {n : Int} (h : 128 ≤ n) : wordI n = false := by
  simp [wordI, ltrI, digI]
  omega
end Go.Proofs.YtagcbljfaflhoaaDoor

/-! ### When a list of nodes is a well shaped tree, plain. -/
namespace Go.Proofs.YtagcbljfaflhoaaDoor
open Go.RowKit
/-- How many operands an operator takes; -1: there is no such operator. -/
def arity (op : Int) : Int := if 1 ≤ op ∧ op ≤ 11 then 0 else if op = 12 ∨ op = 13 then 1 else if 14 ≤ op ∧ op ≤ 26 then 2 else -1
/-- Are a node's number and names as its operator wants them? -/
def numB (op n : Int) : Bool := if op = 1 then decide (0 ≤ n) else decide (n = 0)
def varB (op : Int) (v : ByteArray) : Bool := if 4 ≤ op ∧ op ≤ 11 then nameB v else v.toList.isEmpty
def attB (op : Int) (v : ByteArray) : Bool := if 4 ≤ op ∧ op ≤ 11 ∧ op ≠ 5 then nameB v else v.toList.isEmpty
def fieldsB (x : Nod) : Bool := numB x.op x.n && varB x.op x.vr && attB x.op x.at_
/-- Where the subtree of node i begins, if it is well shaped over what stands ahead of it. -/
def nodeRes (x : Nod) (l : Nat → Nat) (i : Nat) : Option Nat :=
  if fieldsB x = true then
    if arity x.op = 0 then (if x.a = -1 ∧ x.b = -1 then some i else none)
    else if arity x.op = 1 then (if 1 ≤ i ∧ x.a = (i : Int) - 1 ∧ x.b = -1 then some (l (i - 1)) else none)
    else if arity x.op = 2 then (if 1 ≤ i ∧ x.b = (i : Int) - 1 ∧ 1 ≤ l (i - 1) ∧ x.a = (l (i - 1) : Int) - 1 then some (l x.a.toNat) else none)
    else none
  else none
def lget (l : List Nat) (j : Nat) : Nat := l.getD j 0
/-- By node where its subtree begins, of the first n nodes. -/
def bg (f : Nat → Nod) : Nat → Option (List Nat)
  | 0 => some []
  | n + 1 => match bg f n with
    | none => none
    | some l => match nodeRes (f n) (lget l) n with
      | none => none
      | some v => some (l ++ [v])
/-- Is it a well shaped tree? -/
def treeB (n : Nat) (f : Nat → Nod) : Bool := match bg f n with
  | none => false
  | some l => decide (0 < n ∧ lget l (n - 1) = 0)
section
variable {f : Nat → Nod} {n k v : Nat} {l : List Nat}
theorem bg_next (h : bg f k = some l) (hr : nodeRes (f k) (lget l) k = some v) : bg f (k + 1) = some (l ++ [v]) := by rw [bg, h]; simp only [hr]
theorem bg_stop (h : bg f k = some l) (hr : nodeRes (f k) (lget l) k = none) : bg f (k + 1) = none := by rw [bg, h]; simp only [hr]
theorem bg_none (h : bg f k = none) : ∀ m, k ≤ m → bg f m = none := by
  intro m hm
  induction m with
  | zero => obtain rfl : k = 0 := by omega
            exact h
  | succ m ih =>
    by_cases e : k = m + 1
    · subst e; exact h
    · rw [bg, ih (by omega)]
theorem tree_stop (h : bg f k = some l) (hr : nodeRes (f k) (lget l) k = none) (hk : k < n) : treeB n f = false := by rw [treeB, bg_none (bg_stop h hr) n (by omega)]
theorem tree_end (h : bg f n = some l) : treeB n f = decide (0 < n ∧ lget l (n - 1) = 0) := by rw [treeB, h]
theorem lget_left {j : Nat} (h : j < l.length) (v : Nat) : lget (l ++ [v]) j = lget l j := by simp [lget, List.getD_eq_getElem?_getD, List.getElem?_append_left h]
theorem lget_last (l : List Nat) (v : Nat) : lget (l ++ [v]) l.length = v := by simp [lget, List.getD_eq_getElem?_getD]
theorem bg_len (h : bg f n = some l) : l.length = n := by
  induction n generalizing l with
  | zero => simp [bg] at h; subst h; rfl
  | succ n ih =>
    cases hb : bg f n with
    | none => rw [bg_none hb (n + 1) (by omega)] at h; cases h
    | some l' =>
      cases hr : nodeRes (f n) (lget l') n with
      | none => rw [bg_stop hb hr] at h; cases h
      | some v =>
        rw [bg_next hb hr] at h
        injection h with h
        subst h
        simp [ih hb]
theorem nodeRes_le {x : Nod} {l : Nat → Nat} {i v : Nat} (hl : ∀ j, j < i → l j ≤ j) (h : nodeRes x l i = some v) : v ≤ i := by
  unfold nodeRes at h
  split at h
  · split at h
    · split at h
      · injection h with h; omega
      · cases h
    · split at h
      · split at h
        · rename_i hc
          injection h with h
          have := hl (i - 1) (by omega)
          omega
        · cases h
      · split at h
        · split at h
          · rename_i hc
            injection h with h
            have h1 := hl (i - 1) (by omega)
            have h2 := hl x.a.toNat (by omega)
            omega
          · cases h
        · cases h
  · cases h
theorem bg_le (h : bg f n = some l) : ∀ j, j < n → lget l j ≤ j := by
  induction n generalizing l with
  | zero => intro j hj; omega
  | succ n ih =>
    cases hb : bg f n with
    | none => rw [bg_none hb (n + 1) (by omega)] at h; cases h
    | some l' =>
      cases hr : nodeRes (f n) (lget l') n with
      | none => rw [bg_stop hb hr] at h; cases h
      | some v =>
        rw [bg_next hb hr] at h
        injection h with h
        subst h
        have hl := bg_len hb
        intro j hj
        by_cases e : j = n
        · subst e
          have := nodeRes_le (ih hb) hr
          rw [← hl, lget_last]
          omega
        · rw [lget_left (by omega)]
          exact ih hb j (by omega)
end
/-! ### The stack of subtrees that no node has taken yet: their roots, the last one at the end -/
def stk (l : Nat → Nat) : Nat → List Nat
  | 0 => []
  | i + 1 => if h : l i ≤ i then stk l (l i) ++ [i] else []
section
variable {l l' : Nat → Nat} {i : Nat}
theorem stk_zero (l : Nat → Nat) : stk l 0 = [] := by rw [stk]
theorem stk_succ (h : l i ≤ i) : stk l (i + 1) = stk l (l i) ++ [i] := by rw [stk, dif_pos h]
theorem stk_congr : ∀ i, (∀ j, j < i → l j = l' j) → (∀ j, j < i → l j ≤ j) → stk l i = stk l' i := by
  intro i
  induction i using Nat.strongRecOn with
  | _ i ih =>
    intro h1 h2
    cases i with
    | zero => rw [stk_zero, stk_zero]
    | succ i =>
      have h3 := h2 i (by omega)
      have h4 := h1 i (by omega)
      rw [stk_succ h3, stk_succ (by rw [← h4]; exact h3), ← h4, ih (l i) (by omega) (fun j hj => h1 j (by omega)) (fun j hj => h2 j (by omega))]
theorem stk_pos (h : ∀ j, j < i → l j ≤ j) (hi : 0 < i) : stk l i = stk l (l (i - 1)) ++ [i - 1] := by
  obtain ⟨k, rfl⟩ : ∃ k, i = k + 1 := ⟨i - 1, by omega⟩
  exact stk_succ (h k (by omega))
theorem stk_len (h : ∀ j, j < i → l j ≤ j) : (stk l i).length ≤ i := by
  induction i using Nat.strongRecOn with
  | _ i ih =>
    rcases Nat.eq_zero_or_pos i with e | e
    · subst e; rw [stk_zero]; simp
    · rw [stk_pos h e, List.length_append]
      have := h (i - 1) (by omega)
      have := ih (l (i - 1)) (by omega) (fun j hj => h j (by omega))
      simp only [List.length_cons, List.length_nil]
      omega
theorem stk_lt (h : ∀ j, j < i → l j ≤ j) : ∀ x ∈ stk l i, x < i := by
  induction i using Nat.strongRecOn with
  | _ i ih =>
    rcases Nat.eq_zero_or_pos i with e | e
    · subst e; rw [stk_zero]; simp
    · rw [stk_pos h e]
      have h1 := h (i - 1) (by omega)
      intro x hx
      rcases List.mem_append.1 hx with hx | hx
      · have := ih (l (i - 1)) (by omega) (fun j hj => h j (by omega)) x hx
        omega
      · simp at hx; omega
end
end Go.Proofs.YtagcbljfaflhoaaDoor

/-! ### Words for memory: a row of bytes of the call's own made a text. -/
namespace Go.Proofs.YtagcbljfaflhoaaDoor
open Go.RowKit
/-- Bytes as cells. -/
def byteCells (xs : List UInt8) : List Value := xs.map fun c => .int .u8 (c.toNat : Int)
theorem byteCells_one (xs : List UInt8) : ∀ u ∈ byteCells xs, u.oneCell' = true := by
  intro u hu
  obtain ⟨c, _, rfl⟩ := List.mem_map.1 hu
  rfl
theorem push_all (xs : List UInt8) : ∀ (s : ByteArray), (xs.map fun c => (c.toNat : Int)).foldl (fun r n => r.push (UInt8.ofNat n.toNat)) s = ⟨(s.data.toList ++ xs).toArray⟩ := by
  induction xs with
  | nil => intro s; simp
  | cons c xs ih =>
    intro s
    simp only [List.map_cons, List.foldl_cons]
    rw [ih]
    simp [ByteArray.push]
/-- 'string(b)' of a row of the call's own. -/
theorem run_string_own {P : Program} (w : World) (src dst e : TypeId) (hs : P.underlying src = some (.slice e)) (he : P.underlying e = some (.int .u8)) (hd : P.underlying dst = some .string)
    {base n : Nat} {v : Value} {xs : List UInt8} (hown : w.ownsRow base e 1 v n (byteCells xs)) : (convert src dst v).run P w = .ok (.string ⟨xs.toArray⟩) w := by
  have hl : xs.length = n := by have := hown.1; simpa [byteCells] using this
  rcases hown.2 with ⟨rfl, rfl⟩ | ⟨g, cap, cur, rfl, _⟩
  · have : xs = [] := List.eq_nil_of_length_eq_zero hl
    subst this
    exact Lib.run_convert_nil_bytes w src dst e 0 hs he hd
  · have hc := hown.cells (g := g) rfl
    rw [run_convert_bytes_string w src dst e _ _ _ hs he hd]
    have hload := run_loadCells_list (P := P) (w := w) ⟨g, 0, none⟩ (byteCells xs) hc
    have hlen : (byteCells xs).length = n := by simp [byteCells, hl]
    rw [hlen] at hload
    have h2 := run_bytesToString (P := P) w ⟨g, 0, none⟩ n cap (xs.map fun c => (c.toNat : Int)) (by rw [hload]; congr 1; simp [byteCells])
    rw [h2, push_all]
    simp
theorem info_of {P : Program} {e : TypeId} {z : Value} {size bytes : Nat} (h : (P.info? e).map (fun i => (i.zero, i.size, i.bytes)) = some (some z, size, bytes)) :
    ∃ i, P.info? e = some i ∧ i.zero = some z ∧ i.size = size ∧ i.bytes = bytes := info_parts h
end Go.Proofs.YtagcbljfaflhoaaDoor

/-! ### The walks of event.IsName and of what it calls: every string. -/
namespace Go.Proofs.YtagcbljfaflhoaaDoor
open Go.RowKit Go.ChangeShapes Go.WideShapes Go.ChangeAt
theorem wordByte_any (n : Int) (w : World) : Calls Tryd.prog 105 #[.int .i32 n] w fun e w' => e = .returned (.bool (wordI n)) ∧ w' = w := by
  go_enter Tryd.func105, Tryd.ntmps105
  go_wp2
  all_goals go_ret
  all_goals refine ⟨ret_bool ?_, rfl⟩
  all_goals (rw [Bool.eq_iff_iff]; simp only [wordI, ltrI, digI, Bool.or_eq_true, Bool.and_eq_true, decide_eq_true_eq, beq_iff_eq, iff_true, true_iff, Bool.false_eq_true, iff_false, false_iff]; omega)
/-- The row that 'upper' works on: j letters made great. -/
def half (s : ByteArray) (j : Nat) : List UInt8 := (s.data.toList.take j).map up ++ s.data.toList.drop j
theorem half_len (s : ByteArray) (j : Nat) : (half s j).length = s.size := by simp [half]; omega
theorem half_zero (s : ByteArray) : half s 0 = s.data.toList := by simp [half]
theorem half_all (s : ByteArray) : half s s.size = s.data.toList.map up := by
  unfold half
  rw [List.take_of_length_le (by simp), List.drop_of_length_le (by simp)]
  simp
theorem byte_at {s : ByteArray} {j : Nat} (h : j < s.size) : s.data.toList[j]? = some s[j] := by
  rw [List.getElem?_eq_getElem (by simpa using h)]
  rfl
theorem half_at {s : ByteArray} {j : Nat} (h : j < s.size) : (half s j)[j]? = some s[j] := by
  have h1 : ((s.data.toList.take j).map up).length = j := by simp; omega
  unfold half
  rw [List.getElem?_append_right (by omega), h1, Nat.sub_self, List.getElem?_drop, Nat.add_zero, byte_at h]
theorem half_set {s : ByteArray} {j : Nat} (h : j < s.size) : (half s j).set j (up s[j]) = half s (j + 1) := by
  have h1 : j < s.data.toList.length := by simpa using h
  have e1 : s.data.toList.drop j = s[j] :: s.data.toList.drop (j + 1) := by
    rw [List.drop_eq_getElem_cons h1]
    rfl
  have e2 : (s.data.toList.take (j + 1)).map up = (s.data.toList.take j).map up ++ [up s[j]] := by
    rw [List.take_succ_eq_append_getElem h1, List.map_append]
    rfl
  have e3 : ((s.data.toList.take j).map up).length = j := by simp; omega
  unfold half
  rw [e1, e2]
  generalize (s.data.toList.take j).map up = a at e3
  subst e3
  simp
theorem half_same {s : ByteArray} {j : Nat} (h : j < s.size) (he : up s[j] = s[j]) : half s (j + 1) = half s j := by
  rw [← half_set h, he]
  apply List.ext_getElem?
  intro i
  by_cases e : i = j
  · subst e
    rw [half_at h, List.getElem?_set_self (by rw [half_len]; exact h)]
  · rw [List.getElem?_set_ne (Ne.symm e)]
/-- A block holds these bytes from its head on, and they may be written. -/
def ByteRow (w : World) (B : Nat) (xs : List UInt8) : Prop := ∀ (i : Nat) (c : UInt8), xs[i]? = some c → w.cell? ⟨B, i, none⟩ = some (.int .u8 (c.toNat : Int)) ∧ w.frozen? ⟨B, i, none⟩ = false
theorem ByteRow.set_ {w : World} {B : Nat} {xs : List UInt8} (h : ByteRow w B xs) (j : Nat) (c : UInt8) : ByteRow (w.setCell ⟨B, j, none⟩ (.int .u8 (c.toNat : Int))) B (xs.set j c) := by
  intro i d hi
  by_cases e : i = j
  · subst e
    have hl : i < xs.length := by
      have := (List.getElem?_eq_some_iff.1 hi).1
      simpa using this
    rw [List.getElem?_set_self hl] at hi
    obtain rfl := Option.some.inj hi
    obtain ⟨h1, h2⟩ := h i _ (List.getElem?_eq_getElem hl)
    exact ⟨World.cell?_setCell_same _ _ _ h1, by rw [World.frozen?_setCell]; exact h2⟩
  · rw [List.getElem?_set_ne (Ne.symm e)] at hi
    obtain ⟨h1, h2⟩ := h i d hi
    refine ⟨?_, by rw [World.frozen?_setCell]; exact h2⟩
    rw [World.cell?_setCell_other _ _ _ _ (by intro h; injection h with _ h; exact e h.symm)]
    exact h1
theorem byteRow_conv (w : World) (e : TypeId) (s : ByteArray) : ByteRow (Lib.bytesWorld w e s) w.heap.size s.data.toList := by
  intro i c hi
  have hi' : i < s.size := by simpa using (List.getElem?_eq_some_iff.1 hi).1
  refine ⟨?_, ?_⟩
  · rw [Lib.bytesWorld_cell w e s i hi', List.getD_eq_getElem?_getD, hi]
    rfl
  · simp [World.frozen?, Lib.bytesWorld_at_new, Lib.bytesCells]
    omega
/-- 'string(b)' of a row of bytes. -/
theorem run_string_row {P : Program} (w : World) (src dst e : TypeId) (hs : P.underlying src = some (.slice e)) (he : P.underlying e = some (.int .u8)) (hd : P.underlying dst = some .string)
    {B n cap : Nat} {xs : List UInt8} (hr : ByteRow w B xs) (hl : xs.length = n) : (convert src dst (.slice (some ⟨B, 0, none⟩) n cap)).run P w = .ok (.string ⟨xs.toArray⟩) w := by
  have hc : ∀ j v, (byteCells xs)[j]? = some v → w.cell? ((⟨B, 0, none⟩ : Addr).add j) = some v := by
    intro j v hv
    rw [byteCells, List.getElem?_map, Option.map_eq_some_iff] at hv
    obtain ⟨c, hc, rfl⟩ := hv
    have hadd : (⟨B, 0, none⟩ : Addr).add j = ⟨B, j, none⟩ := by unfold Addr.add; split <;> simp_all
    rw [hadd]
    exact (hr j c hc).1
  rw [run_convert_bytes_string w src dst e _ _ _ hs he hd]
  have hload := run_loadCells_list (P := P) (w := w) ⟨B, 0, none⟩ (byteCells xs) hc
  have hlen : (byteCells xs).length = n := by simp [byteCells, hl]
  rw [hlen] at hload
  have h2 := run_bytesToString (P := P) w ⟨B, 0, none⟩ n cap (xs.map fun c => (c.toNat : Int)) (by rw [hload]; congr 1; simp [byteCells])
  rw [h2, push_all]
  simp
theorem below_conv (w : World) (e : TypeId) (s : ByteArray) : Below w.heap.size w (Lib.bytesWorld w e s) :=
  ⟨by simp [Lib.bytesWorld, World.freeze, World.alloc, World.drew, -World.alloc_eq, -World.drew_eq], by simp [Lib.bytesWorld, World.freeze, World.alloc, World.drew, -World.alloc_eq, -World.drew_eq], by simp [Lib.bytesWorld, World.freeze, World.alloc, World.drew, -World.alloc_eq, -World.drew_eq], by rw [Lib.bytesWorld_size]; omega, fun k hk => Lib.bytesWorld_at_old w e s k hk⟩
set_option maxHeartbeats 400000 in
theorem upper_any (s : ByteArray) (w : World) (hs : s.size ≤ 140737488351232) :
    Calls Tryd.prog 106 #[.string s] w fun e w' => e = .returned (.string (upper s)) ∧ Below w.heap.size w w' := by
  have hcv := Lib.run_convert_string_bytes (P := Tryd.prog) w 9 124 5 s Tryd.underlying9 Tryd.underlying124 Tryd.underlying5
  have hr0 := byteRow_conv w 5 s
  have hb0 := below_conv w 5 s
  generalize Lib.bytesWorld w 5 s = w0 at hcv hr0 hb0
  generalize grownCap w s.size 0 5 = cap at hcv
  have HR0 := Lib.hid hr0
  clear hr0
  go_enter Tryd.func106, Tryd.ntmps106
  go_wp2
  clear hcv
  go_loopw [10] (fun i wr => ∃ j : Nat, j ≤ s.size ∧ i = .int .i64 j ∧ Hid (ByteRow wr w.heap.size (half s j)) ∧ Below w.heap.size w wr) (fun i _ => s.size - (intOf i).toNat)
  case atStart => exact ⟨0, Nat.zero_le _, rfl, Lib.hid (by rw [half_zero]; exact HR0.out), hb0⟩
  case round =>
    obtain ⟨j, hj, rfl, HR, hb⟩ := hrel
    have hbs := hb.size
    by_cases hlt : j < s.size
    · have hcell := HR.out j s[j] (half_at hlt)
      obtain ⟨hcell, hfz⟩ := hcell
      go_wp2
      all_goals go_roundw
      case rel =>
        have e : (s[j].toNat : Int) - 97 + 65 = ((up s[j]).toNat : Int) := by rw [up_small (by omega) (by omega)]; omega
        exact ⟨j + 1, by omega, by go_num, Lib.hid (by rw [e, ← half_set hlt]; exact HR.out.set_ j (up s[j])), bset hb (Nat.le_refl _) _⟩
      case measure => simp [intOf]; omega
      case rel => exact ⟨j + 1, by omega, by go_num, Lib.hid (by rw [half_same hlt (up_other (by omega))]; exact HR.out), hb⟩
      case measure => simp [intOf]; omega
      case rel => exact ⟨j + 1, by omega, by go_num, Lib.hid (by rw [half_same hlt (up_other (by omega))]; exact HR.out), hb⟩
      case measure => simp [intOf]; omega
    · have hje : j = s.size := by omega
      have hcv2 := run_string_row (P := Tryd.prog) wr 124 9 5 Tryd.underlying124 Tryd.underlying5 Tryd.underlying9 (cap := cap) HR.out (half_len s j)
      have HJ := Lib.hid hje
      clear hje
      go_wp2
      go_ret
      exact ⟨by rw [HJ.out, half_all]; rfl, hb⟩
theorem empty_of {s : ByteArray} (h : s.size = 0) : s.toList.isEmpty = true := by
  rw [Go.ByteArray.toList_eq, List.isEmpty_iff_length_eq_zero]
  simpa using h
theorem nonempty_of {s : ByteArray} (h : 0 < s.size) : s.toList.isEmpty = false := by
  cases he : s.toList.isEmpty
  · rfl
  · rw [Go.ByteArray.toList_eq, List.isEmpty_iff_length_eq_zero] at he
    simp at he
    simp [he, ByteArray.size] at h
theorem isName_small (s : ByteArray) (w : World) (h : s.size = 0) : Calls Tryd.prog 81 #[.string s] w fun e w' => e = .returned (.bool (nameB s)) ∧ Below w.heap.size w w' := by
  have HN := Lib.hid (name_small (s := s) (by omega))
  have he := empty_of h
  clear h
  go_enter Tryd.func81, Tryd.ntmps81
  go_wp2_with fail
  go_ret
  exact ⟨ret_bool HN.out.symm, Below.refl _ _⟩
theorem isName_great (s : ByteArray) (w : World) (h : 16 < s.size) : Calls Tryd.prog 81 #[.string s] w fun e w' => e = .returned (.bool (nameB s)) ∧ Below w.heap.size w w' := by
  have HN := Lib.hid (name_great (s := s) (by omega))
  have he := nonempty_of (s := s) (by omega)
  go_enter Tryd.func81, Tryd.ntmps81
  go_wp2_with fail
  go_ret
  exact ⟨ret_bool HN.out.symm, Below.refl _ _⟩
theorem dig_iff {n : Int} : digI n = true ↔ 48 ≤ n ∧ n ≤ 57 := by simp [digI]
theorem dig_not {n : Int} (h : n < 48 ∨ 57 < n) : digI n = false := by
  rw [Bool.eq_false_iff, ne_eq, dig_iff]
  omega
theorem isName_digit (s : ByteArray) (w : World) (h0 : 0 < s.size) (h1 : s.size ≤ 16) (hd1 : 48 ≤ s[0].toNat) (hd2 : s[0].toNat ≤ 57) : Calls Tryd.prog 81 #[.string s] w fun e w' => e = .returned (.bool (nameB s)) ∧ Below w.heap.size w w' := by
  have HN := Lib.hid (name_digit h0 (dig_iff.2 ⟨by omega, by omega⟩))
  have he := nonempty_of h0
  go_enter Tryd.func81, Tryd.ntmps81
  go_wp2_with fail
  go_ret
  exact ⟨ret_bool HN.out.symm, Below.refl _ _⟩
set_option maxHeartbeats 1000000 in
theorem isName_rest (s : ByteArray) (w : World) (h0 : 0 < s.size) (h1 : s.size ≤ 16) (hd : s[0].toNat < 48 ∨ 57 < s[0].toNat) {tt : TypeId} {fr : Nat × Nat} (hb : w.heap[0]? = some (.cells kwArr tt fr)) :
    Calls Tryd.prog 81 #[.string s] w fun e w' => e = .returned (.bool (nameB s)) ∧ Below w.heap.size w w' := by
  have he := nonempty_of h0
  have HB := Lib.hid hb
  clear hb
  have HD := Lib.hid hd
  have hix := fun j hj w => run_kwAt Tryd.prog Tryd.underlying123 (by kernel_rfl) Tryd.underlying9 j hj w
  rcases hd with hd | hd
  all_goals
    go_enter Tryd.func81, Tryd.ntmps81
    go_wp2_with fail
    go_loopw [4] (fun _ wr => ∃ j : Nat, j ≤ s.size ∧ wr = w.iter s j ∧ Hid (∀ k (hk : k < s.size), k < j → wordI (s[k].toNat) = true)) (fun _ wr => s.size - wr.iterPos w.heap.size)
    case atStart => exact ⟨0, Nat.zero_le _, rfl, Lib.hid (fun _ _ h => absurd h (Nat.not_lt_zero _))⟩
    case round =>
      obtain ⟨j, hj, rfl, HL⟩ := hrel
      by_cases hlt : j < s.size
      · by_cases hasc : s[j].toNat < 128
        · have hnx := fun ty => run_next_ascii (P := Tryd.prog) w s j ty hlt hasc
          cases hw : wordI (s[j].toNat)
          all_goals
            have HW := Lib.hid hw
            clear hw
            go_wp2_with fail
            refine (wordByte_any _ _).mono ?_
            rintro e w' ⟨rfl, rfl⟩
            rw [HW.out]
            go_wp2_with fail
          · go_ret
            exact ⟨ret_bool (name_word hlt HW.out).symm, bnew (Below.refl _ _) _⟩
          · go_roundw
            case rel =>
              refine ⟨j + 1, by omega, rfl, Lib.hid (fun k hk hkj => ?_)⟩
              by_cases e : k = j
              · subst e; exact HW.out
              · exact HL.out k hk (by omega)
            case measure => simp; omega
        · have hnx := fun ty => run_next_any (P := Tryd.prog) w s j ty hlt
          have hhi := (decode_high s j hlt (by omega)).1
          generalize Utf8.decode s j = dc at hnx hhi
          have hw : wordI (dc.1 : Int) = false := word_high (by omega)
          have HW := Lib.hid hw
          have HW2 := Lib.hid (word_high (n := (s[j].toNat : Int)) (by omega))
          clear hw
          go_wp2_with fail
          refine (wordByte_any _ _).mono ?_
          rintro e w' ⟨rfl, rfl⟩
          rw [HW.out]
          go_wp2_with fail
          go_ret
          exact ⟨ret_bool (name_word hlt HW2.out).symm, bnew (Below.refl _ _) _⟩
      · have hnx := fun ty => run_next_end (P := Tryd.prog) w s j ty hlt
        go_wp2_with fail
        refine (upper_any s _ (by omega)).mono ?_
        rintro e w1 ⟨rfl, hb1⟩
        have hbw : Below w.heap.size w w1 := bcall (bnew (Below.refl _ _) (.stringIter s j)) hb1
        have HB1 := Lib.hid (block_below HB.out hbw)
        have HALL := Lib.hid (show ∀ k (hk : k < s.size), wordI (s[k].toNat) = true from fun k hk => HL.out k hk (by omega))
        clear hnx hb1
        go_wp2_with (refine wpList_load_row rfl 123 _ rfl 0 rfl tt _ fr _ HB1.out Tryd.underlying123 rfl (by kernel_rfl) ?_)
        go_loop [36] (fun i => ∃ j : Nat, j ≤ 27 ∧ i = .int .i64 j ∧ Hid (∀ k, k < j → alikeB s (kwAt k) = false)) (fun i => 27 - (intOf i).toNat)
        case atStart => exact ⟨0, by omega, rfl, Lib.hid (fun _ h => absurd h (Nat.not_lt_zero _))⟩
        case round =>
          obtain ⟨m, hm, rfl, HM⟩ := hrel
          by_cases hlt2 : m < 27
          · have hx := hix m hlt2
            have heq := upper_eq s (kwAt m)
            cases hp : alikeB s (kwAt m)
            all_goals
              have HP := Lib.hid hp
              rw [hp] at heq
              clear hp
              go_wp2_with fail
            · go_round
              case rel =>
                refine ⟨m + 1, by omega, by go_num, Lib.hid (fun k hk => ?_)⟩
                by_cases e : k = m
                · subst e; exact HP.out
                · exact HM.out k (by omega)
              case measure => simp [intOf]; omega
            · go_ret
              exact ⟨ret_bool (name_kw hlt2 HP.out).symm, hbw⟩
          · go_wp2_with fail
            go_ret
            exact ⟨ret_bool (name_yes h0 h1 HALL.out (dig_not (by have := HD.out; omega)) (fun k hk => HM.out k (by omega))).symm, hbw⟩
theorem isName_any (s : ByteArray) (w : World) {tt : TypeId} {fr : Nat × Nat} (hb : w.heap[0]? = some (.cells kwArr tt fr)) :
    Calls Tryd.prog 81 #[.string s] w fun e w' => e = .returned (.bool (nameB s)) ∧ Below w.heap.size w w' := by
  by_cases h0 : s.size = 0
  · exact isName_small s w h0
  by_cases h1 : 16 < s.size
  · exact isName_great s w h1
  have h0' : 0 < s.size := by omega
  by_cases hd : 48 ≤ s[0].toNat ∧ s[0].toNat ≤ 57
  · exact isName_digit s w h0' (by omega) hd.1 hd.2
  · exact isName_rest s w h0' (by omega) (by omega) hb
end Go.Proofs.YtagcbljfaflhoaaDoor

/-! ### Numbers as cells. -/
namespace Go.Proofs.YtagcbljfaflhoaaDoor
open Go.RowKit
/-- f, but x at j. -/
def upd1 {α : Type} (f : Nat → α) (j : Nat) (x : α) : Nat → α := fun i => if i = j then x else f i
/-- The cells of numbers. -/
def intC (f : Nat → Int) : Nat → Nat → Value := fun j _ => .int .i64 (f j)
/-- A list of numbers reads so. -/
def IntRd (w : World) (B : Nat) (A : Option Addr) (n : Nat) (f : Nat → Int) : Prop := RowRd w B A n 1 8 (intC f)
section
variable {w w' : World} {B n : Nat} {A : Option Addr} {f : Nat → Int}
theorem IntRd.below (h : IntRd w B A n f) (hb : Below B w w') : IntRd w' B A n f := RowRd.below h hb
theorem IntRd.later (h : IntRd w w.heap.size A n f) (hb : Below w.heap.size w w') : IntRd w' w'.heap.size A n f := RowRd.later h hb
theorem IntRd.spot (h : IntRd w B A n f) (hn : 0 < n) : ∃ b off, A = some ⟨b, off, none⟩ ∧ b < B ∧ ∀ j, j < n → w.cell? ⟨b, off + j, none⟩ = some (.int .i64 (f j)) := RowRd.spot1 h hn
end
theorem intC_snoc {w : World} {B k : Nat} {e : TypeId} {D : Nat → Int} (M : Int) (v : Value) (h : w.ownsRow B e 1 v (k + 1) (flat (intC D) 1 k ++ [.int .i64 M])) : w.ownsRow B e 1 v (k + 1) (flat (intC (upd1 D k M)) 1 (k + 1)) := by
  have a1 : ∀ j, j < k → ∀ i, i < 1 → intC (upd1 D k M) j i = intC D j i := fun j hj i _ => by simp only [intC, upd1, if_neg (show ¬ j = k by omega)]
  rw [flat_succ, flat_congr a1]
  simpa [intC, upd1] using h
theorem intC_cell {w : World} {B k g cap : Nat} {e : TypeId} {D : Nat → Int} (h : w.ownsRow B e 1 (.slice (some ⟨g, 0, none⟩) k cap) k (flat (intC D) 1 k)) {j : Nat} (hj : j < k) : w.cell? ⟨g, j, none⟩ = some (.int .i64 (D j)) := by
  rw [h.cellAt _ (by omega)]
  have h4 := flat_at (intC D) (sz := 1) (n := k) (j := j) (i := 0) hj (by omega)
  rwa [Nat.mul_one, Nat.add_zero] at h4
end Go.Proofs.YtagcbljfaflhoaaDoor

/-! ### Blocks whose cells are known: after a store, behind what turns nothing below. -/
namespace Go.Proofs.YtagcbljfaflhoaaDoor
open Go.RowKit
section
variable {w w' : World} {b : Nat} {cs : Array Value} {T : TypeId} {fr : Nat × Nat}
theorem blk_set (h : w.heap[b]? = some (.cells cs T fr)) (j : Nat) (u : Value) : (w.setCell ⟨b, j, none⟩ u).heap[b]? = some (.cells (cs.setIfInBounds j u) T fr) := by
  simp [World.setCell, Array.getElem?_modify, h]
theorem blk_other (h : w.heap[b]? = some (.cells cs T fr)) {p : Addr} (hp : p.block ≠ b) (u : Value) : (w.setCell p u).heap[b]? = some (.cells cs T fr) :=
  (Below.heap_setCell w p u b (fun e => hp e.symm)).trans h
theorem blk_lt (h : w.heap[b]? = some (.cells cs T fr)) : b < w.heap.size := (Array.getElem?_eq_some_iff.1 h).1
theorem blk_below (h : w.heap[b]? = some (.cells cs T fr)) (hb : Below w.heap.size w w') : w'.heap[b]? = some (.cells cs T fr) := (hb.block b (blk_lt h)).trans h
theorem blk_grown {row : Option Nat} (h : w.heap[b]? = some (.cells cs T fr)) (hg : w.grownBy w' row) (hne : row ≠ some b) : w'.heap[b]? = some (.cells cs T fr) := (hg.block b (blk_lt h) (fun e => hne e.symm)).trans h
theorem blk_cell (h : w.heap[b]? = some (.cells cs T fr)) {j : Nat} {v : Value} (hv : cs[j]? = some v) : w.cell? ⟨b, j, none⟩ = some v := (Lib.cell_of_heap h j).trans hv
theorem blk_free (h : w.heap[b]? = some (.cells cs T (0, 0))) (j : Nat) : w.frozen? ⟨b, j, none⟩ = false := Lib.frozen_of_heap h j
theorem blk_new (w : World) (cs : Array Value) (T : TypeId) : (w.alloc (.cells cs T)).heap[w.heap.size]? = some (.cells cs T (0, 0)) := heap_alloc_new w _
theorem blk_alloc (h : w.heap[b]? = some (.cells cs T fr)) (o : Obj) : (w.alloc o).heap[b]? = some (.cells cs T fr) := (Lib.alloc_old w o b (blk_lt h)).trans h
end
/-- A row stays while a block of another type is written to. -/
theorem own_blk {w : World} {B n sz b : Nat} {e T : TypeId} {v : Value} {xs : List Value} {cs : Array Value} {fr : Nat × Nat} (h : w.ownsRow B e sz v n xs) (hb : w.heap[b]? = some (.cells cs T fr)) (hT : T ≠ e) (j : Nat) (u : Value) :
    (w.setCell ⟨b, j, none⟩ u).ownsRow B e sz v n xs := by
  refine rowown_far h (fun hv => ?_) u
  obtain ⟨c, fz, h1⟩ := Lib.ownsRow_kind h b hv
  rw [h1] at hb
  injection hb with hb
  injection hb with _ hb
  exact hT hb.symm
end Go.Proofs.YtagcbljfaflhoaaDoor

/-
  Blocks of numbers, of truths, of nodes that a call makes and writes over; copy of elements of several cells.
-/
import Derived.Test.YtagcbljfaflhoaaDoorRowOwn
import Derived.Test.YtagcbljfaflhoaaDoorBlk
import Derived.Test.YtagcbljfaflhoaaDoorIntC
import Derived.Laws.CopyOwn
import Derived.OwnWalk
set_option linter.unusedVariables false
namespace Go.Proofs.YtagcbljfaflhoaaDoor
open Go.RowKit Go.ChangeShapes Go.WideShapes Go.Deep
/-- n numbers. -/
def numArr (D : Nat → Int) (n : Nat) : Array Value := ((List.range n).map fun j => Value.int .i64 (D j)).toArray
/-- n truths. -/
def bolArr (D : Nat → Bool) (n : Nat) : Array Value := ((List.range n).map fun j => Value.bool (D j)).toArray
section
variable {D D' : Nat → Int} {E E' : Nat → Bool} {n j : Nat}
theorem numArr_get (h : j < n) : (numArr D n)[j]? = some (.int .i64 (D j)) := by simp [numArr, h]
theorem bolArr_get (h : j < n) : (bolArr E n)[j]? = some (.bool (E j)) := by simp [bolArr, h]
theorem numArr_size : (numArr D n).size = n := by simp [numArr]
theorem bolArr_size : (bolArr E n).size = n := by simp [bolArr]
theorem numArr_congr (h : ∀ j, j < n → D j = D' j) : numArr D n = numArr D' n := by
  unfold numArr
  congr 1
  apply List.map_congr_left
  intro j hj
  rw [h j (List.mem_range.1 hj)]
theorem bolArr_congr (h : ∀ j, j < n → E j = E' j) : bolArr E n = bolArr E' n := by
  unfold bolArr
  congr 1
  apply List.map_congr_left
  intro j hj
  rw [h j (List.mem_range.1 hj)]
theorem numArr_set {x : Int} : (numArr D n).setIfInBounds j (.int .i64 x) = numArr (fun i => if i = j then x else D i) n := by
  apply Array.ext'
  simp only [numArr, Array.toList_setIfInBounds]
  apply List.ext_getElem?
  intro i
  rw [List.getElem?_set]
  by_cases hi : i < n
  · by_cases e : j = i
    · subst e; simp [hi]
    · have e2 : ¬ i = j := fun h => e h.symm
      simp [e, e2, hi]
  · by_cases e : j = i
    · subst e; simp [hi]
    · simp [e, hi]
theorem bolArr_set {x : Bool} : (bolArr E n).setIfInBounds j (.bool x) = bolArr (fun i => if i = j then x else E i) n := by
  apply Array.ext'
  simp only [bolArr, Array.toList_setIfInBounds]
  apply List.ext_getElem?
  intro i
  rw [List.getElem?_set]
  by_cases hi : i < n
  · by_cases e : j = i
    · subst e; simp [hi]
    · have e2 : ¬ i = j := fun h => e h.symm
      simp [e, e2, hi]
  · by_cases e : j = i
    · subst e; simp [hi]
    · simp [e, hi]
theorem numArr_flat : numArr D n = (flat (intC D) 1 n).toArray := by
  unfold numArr
  congr 1
  refine flat_ext (by simp) fun j hj i hi => ?_
  obtain rfl : i = 0 := by omega
  simp [intC, hj]
end
/-- A row that fills its block. -/
theorem own_full {w : World} {B sz n g : Nat} {e : TypeId} {xs : List Value} (h : w.ownsRow B e sz (.slice (some ⟨g, 0, none⟩) n n) n xs) : w.heap[g]? = some (.cells xs.toArray e (0, 0)) ∧ B ≤ g ∧ n ≤ maxLen := by
  rcases h.2 with ⟨h1, _⟩ | ⟨g', cap, cur, h1, h2, h3, h4, h5, h6, h7⟩
  · cases h1
  · injection h1 with h1 _ h8
    injection h1 with h1
    injection h1 with h1
    subst h1 h8
    refine ⟨?_, h2, h5⟩
    rw [h3, ← h7, List.take_of_length_le (by simp; omega)]
theorem full_own {w : World} {B sz n g : Nat} {e : TypeId} {xs : List Value} (h : w.heap[g]? = some (.cells xs.toArray e (0, 0))) (hB : B ≤ g) (hn : n ≤ maxLen) (hx : xs.length = n * sz) : w.ownsRow B e sz (.slice (some ⟨g, 0, none⟩) n n) n xs :=
  ⟨hx, Or.inr ⟨g, n, xs.toArray, rfl, hB, h, Nat.le_refl _, hn, by simpa using hx, by simp [← hx]⟩⟩
theorem made_nums (n : Nat) : (madeCells (Value.int .i64 0).cells (n * 1)).toList.toArray = numArr (fun _ => 0) n := by
  apply Array.ext'
  apply List.ext_getElem?
  intro i
  simp only [madeCells, numArr, Nat.mul_one]
  by_cases h : i < n
  · simp [h, Value.cells, Nat.mod_one]
  · simp [h]
theorem made_bols (n : Nat) : (madeCells (Value.bool false).cells (n * 1)).toList.toArray = bolArr (fun _ => false) n := by
  apply Array.ext'
  apply List.ext_getElem?
  intro i
  simp only [madeCells, bolArr, Nat.mul_one]
  by_cases h : i < n
  · simp [h, Value.cells, Nat.mod_one]
  · simp [h]
/-- One cell of a flat block written over. -/
theorem flat_put {C : Nat → Nat → Value} {sz n i q : Nat} {v : Value} (hi : i < n) (hq : q < sz) : (flat C sz n).toArray.setIfInBounds (i * sz + q) v = (flat (fun j p => if j = i ∧ p = q then v else C j p) sz n).toArray := by
  apply Array.ext'
  simp only [Array.toList_setIfInBounds]
  refine flat_ext (by rw [List.length_set, flat_length]) fun j hj p hp => ?_
  rw [List.getElem?_set]
  by_cases e : i * sz + q = j * sz + p
  · have h1 : i = j := by
      have a1 : (i * sz + q) / sz = i := by rw [Nat.mul_comm, Nat.mul_add_div (by omega), Nat.div_eq_of_lt hq, Nat.add_zero]
      have a2 : (j * sz + p) / sz = j := by rw [Nat.mul_comm, Nat.mul_add_div (by omega), Nat.div_eq_of_lt hp, Nat.add_zero]
      rw [← a1, ← a2, e]
    subst h1
    have h2 : q = p := by omega
    subst h2
    have h3 : i * sz + q < n * sz := by
      have : (i + 1) * sz ≤ n * sz := Nat.mul_le_mul_right _ hi
      rw [Nat.succ_mul] at this
      omega
    simp [flat_length, h3]
  · rw [if_neg e, flat_at C hj hp, if_neg (fun h => e (by rw [h.1, h.2]))]
/-- The cells of a row from element 'first' on. -/
theorem rd_from {w : World} {B n sz bt b off first k : Nat} {C : Nat → Nat → Value} (h : RowRd w B (some ⟨b, off, none⟩) n sz bt C) (hk : first + k ≤ n) : ∀ (j : Nat) (v : Value), (flat (fun j => C (first + j)) sz k)[j]? = some v → w.cell? ((⟨b, off + first * sz, none⟩ : Addr).add j) = some v := by
  intro j v hv
  have hj : j < k * sz := by
    have := (List.getElem?_eq_some_iff.1 hv).1
    rwa [flat_length] at this
  have hs : 0 < sz := by
    rcases Nat.eq_zero_or_pos sz with e | e
    · subst e; omega
    · exact e
  have h1 : j / sz < k := (Nat.div_lt_iff_lt_mul hs).2 hj
  have h2 : j % sz < sz := Nat.mod_lt _ hs
  have e : j = j / sz * sz + j % sz := by rw [Nat.mul_comm]; exact (Nat.div_add_mod j sz).symm
  rw [e, flat_at _ h1 h2] at hv
  injection hv with hv
  have hk0 : 0 < k := Nat.lt_of_le_of_lt (Nat.zero_le _) h1
  obtain ⟨b', off', e1, _, hc⟩ := h.2 (by omega)
  injection e1 with e1
  injection e1 with e1 e2
  subst e1 e2
  have h3 := hc (first + j / sz) (Nat.lt_of_lt_of_le (Nat.add_lt_add_left h1 first) hk) (j % sz) h2
  have e4 : off + first * sz + j = off + ((first + j / sz) * sz + j % sz) := by
    rw [Nat.add_mul]
    generalize j / sz * sz = x at e ⊢
    generalize j % sz = y at e ⊢
    generalize first * sz = z
    omega
  rw [rd_add, ← hv, ← h3, e4]
/-- 'copy(dst, src)', elements of sz cells each: dst's row is known whole and written over whole. -/
theorem run_copy_sz {P : Program} (w : World) (dT sT ty elem : TypeId) (sz g n dCap : Nat) (a : Addr) (sLen sCap : Nat) (cur : Array Value) (t : TypeId) (cs : List Value)
    (hu : P.underlying dT = some (.slice elem)) (hs : (P.info? elem).map (·.size) = some sz)
    (hg : w.heap[g]? = some (.cells cur t (0, 0))) (hn : Nat.min sLen n = n) (hl : cs.length = n * sz)
    (hsrc : ∀ j v, cs[j]? = some v → w.cell? (a.add j) = some v) (hfit : cs.length = cur.size) (h1 : ∀ v ∈ cs, v.oneCell' = true) :
    (Builtin.copy_ #[dT, sT] ty #[.slice (some ⟨g, 0, none⟩) n dCap, .slice (some a) sLen sCap]).run P w = .ok (goInt n) (w.setRow g cs.toArray) := by
  have hl' := run_loadCells_list (P := P) w a cs hsrc
  have hst := run_storeCells_at P g 0 t cs 0 cur w hg (by omega) h1
  have e : (cur.toList.take (0 + 0) ++ cs ++ cur.toList.drop (0 + 0 + cs.length)).toArray = cs.toArray := by
    have : cur.toList.drop cs.length = [] := List.drop_eq_nil_of_le (by simp; omega)
    simp [this]
  rw [e] at hst
  rw [hl] at hl'
  cases hq : P.info? elem with
  | none => simp [hq] at hs
  | some i =>
    have hi : i.size = sz := by simpa [hq] using hs
    simp [Builtin.copy_, run_underlying hu, Builtin.lenOf, Builtin.firstCells, sizeOf, typeInfo, hq, hi, hn, hl', hst]
theorem wpList_copy_sz {P : Program} {w : World} {ops : Array Oper} {rest : List Oper} {o : Oper} {a : Act} {Q : Exit → Act → World → Prop} (hgd : o.guard = none) (d s : Operand) (dT sT : TypeId)
    (ho : o.op = .call { callee := .builtin .copy, args := #[d, s], argTypes := #[dT, sT] }) (elem : TypeId) (sz : Nat) (hu : P.underlying dT = some (.slice elem)) (hsz : (P.info? elem).map (·.size) = some sz)
    (g n dCap : Nat) (ad : Addr) (sLen sCap : Nat) (hd : a.eval d = .slice (some ⟨g, 0, none⟩) n dCap) (hs : a.eval s = .slice (some ad) sLen sCap)
    (cur : Array Value) (t : TypeId) (hg : w.heap[g]? = some (.cells cur t (0, 0))) (cs : List Value) (hn : Nat.min sLen n = n) (hl : cs.length = n * sz)
    (hsrc : ∀ j v, cs[j]? = some v → w.cell? (ad.add j) = some v) (hfit : cs.length = cur.size) (h1 : ∀ v ∈ cs, v.oneCell' = true)
    (h : wpList P ops Q rest (a.put o.dst (goInt n)) (w.setRow g cs.toArray)) : wpList P ops Q (o :: rest) a w := by
  refine wpList_plain hgd fun K hK => ?_
  have hrun := run_copy_sz (P := P) w dT sT o.type elem sz g n dCap ad sLen sCap cur t cs hu hsz hg hn hl hsrc hfit h1
  unfold Oper.wp
  simp [execOp, ho, resolve, invoke, builtin, hd, hs, hrun, Result.andThen]
  exact hK _ _ h
end Go.Proofs.YtagcbljfaflhoaaDoor

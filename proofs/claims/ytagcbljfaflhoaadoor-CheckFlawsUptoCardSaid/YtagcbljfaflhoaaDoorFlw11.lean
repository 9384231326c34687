/-
  Several texts in one: RefTree, TwinTree6, Arrs, TreeFns, Kinds, TreeSame6.
-/
import Derived.Test.YtagcbljfaflhoaaDoorFlw10
import Derived.Test.YtagcbljfaflhoaaDoorFlw0
import Derived.OwnWalk
import Derived.Handy
import Derived.Laws.CopyOwn
import Derived.Test.YtagcbljfaflhoaaDoorFlw8
import Derived.Test.YtagcbljfaflhoaaDoorFlw2
import Derived.Deep.QuietTactic
import Derived.BigQuiet
import Derived.Laws.StructEq
set_option linter.unusedSimpArgs false
set_option linter.unusedVariables false
/-! ### The walk of the reference's Tree. -/
namespace Go.Proofs.YtagcbljfaflhoaaDoor
open Go.RowKit Go.ChangeShapes Go.WideShapes Go.ChangeAt Go.Deep Go.Joins
set_option maxRecDepth 100000 in
set_option maxHeartbeats 1000000 in
theorem refTree_any (A : Option Addr) (n c : Nat) (f : Nat → Nod) (w : World) (h : NodRd w w.heap.size A n f) {tt : TypeId} {fr : Nat × Nat} (hkw : w.heap[0]? = some (.cells kwArr tt fr)) :
    Calls Tryd.prog 31 #[.slice A n c] w fun e w' => e = .returned (.bool (treeB n f)) ∧ Below w.heap.size w w' := by
  have hn := h.small
  have HT := Lib.hid h
  have HK := Lib.hid hkw
  clear h hkw
  go_enter Tryd.func31, Tryd.ntmps31
  go_wp2_with fail
  refine (begins5_any A n c f _ HT.out HK.out).mono ?_
  rintro e w2 ⟨he, hb2⟩
  cases hg : bg f n with
  | none =>
    rw [hg] at he
    have he : e = _ := he
    subst he
    have HE := Lib.hid (show treeB n f = false by rw [treeB, hg])
    clear hg
    go_wp2_with fail
    go_ret
    exact ⟨by rw [HE.out]; rfl, hb2⟩
  | some l =>
    rw [hg] at he
    obtain ⟨v, rfl, hown⟩ := he
    have HE := Lib.hid (tree_end hg)
    have hl := bg_len hg
    rw [hl] at hown
    have HL := Lib.hid hl
    clear hg hl
    rcases Nat.eq_zero_or_pos n with h0 | h0
    · subst h0
      obtain ⟨oA, oc, rfl, _⟩ := rowown_shape hown
      go_wp2_with fail
      go_ret
      exact ⟨by rw [HE.out]; rfl, hb2⟩
    · obtain ⟨n1, rfl⟩ : ∃ n1, n = n1 + 1 := ⟨n - 1, by omega⟩
      obtain ⟨g, cap, rfl, _⟩ := hown.form (by omega)
      have y1 := l_cell hown HL.out (show n1 < n1 + 1 by omega)
      have hpos : (0 : Int) < ((n1 + 1 : Nat) : Int) := by omega
      go_wp2_with fail
      go_ret
      refine ⟨ret_bool ?_, hb2⟩
      rw [HE.out, Bool.eq_iff_iff, decide_eq_true_eq]
      have e : n1 + 1 - 1 = n1 := rfl
      rw [e]
      simp
end Go.Proofs.YtagcbljfaflhoaaDoor

/-! ### Lists of nodes: their copy by one append. -/
namespace Go.Proofs.YtagcbljfaflhoaaDoor
open Go.RowKit Go.ChangeShapes Go.WideShapes Go.ChangeAt Go.Deep Go.Joins
theorem infoNode : (Tryd.prog.info? 60).map (fun i => (i.zero, i.size, i.bytes)) = some (some (.agg #[.int .i64 0, .int .i64 0, .string .empty, .string .empty, .int .i64 0, .int .i64 0]), 6, 64) := by kernel_rfl
set_option maxRecDepth 100000 in
theorem twinTree6_any (A : Option Addr) (n c : Nat) (f : Nat → Nod) (w : World) (hl : n ≤ c) (hA : A = none → c = 0) (h : NodRd w w.heap.size A n f) :
    Calls Tryd.prog 12 #[.slice A n c] w fun e w' => ∃ v', e = .returned v' ∧ Below w.heap.size w w' ∧ w'.ownsRow w.heap.size 60 6 v' n (flat (fun j => nodCell (f j)) 6 n) := by
  obtain ⟨i0, hi0, hz0, hz1, hz2⟩ := info_parts infoNode
  have HT := Lib.hid h
  have HA := Lib.hid hA
  clear h hA
  go_enter Tryd.func12, Tryd.ntmps12
  go_wp2_with (at_builtin; go_loud (refine wpList_append_copy _ rfl _ _ _ rfl 60 i0 _ 6 64 Tryd.underlying22 hi0 hz0 hz1 hz2 rfl (by omega) (by omega) rfl A n c w.heap.size (fun j => nodCell (f j)) rfl hl HA.out HT.out (fun j _ i _ => nodCell_one (f j) i) ?_; intro v' w1 hown hb))
  go_ret
  exact ⟨v', rfl, hb, hown⟩
end Go.Proofs.YtagcbljfaflhoaaDoor

/-! ### Blocks of numbers, of truths, of nodes that a call makes and writes over; copy of elements of several cells. -/
namespace Go.Proofs.YtagcbljfaflhoaaDoor
open Go.RowKit Go.ChangeShapes Go.WideShapes Go.Deep
/-- n numbers. -/
def numArr (D : Nat → Int) (n : Nat) : Array Value := ((List.range n).map fun j => Value.int .i64 (D j)).toArray
/-- n truths. -/
def bolArr (D : Nat → Bool) (n : Nat) : Array Value := ((List.range n).map fun j => Value.bool (D j)).toArray
section
variable {D D' : Nat → Int} {E E' : Nat → Bool} {n j : Nat}
theorem numArr_get (h : j < n) : (numArr D n)[j]? = some (.int .i64 (D j)) := by simp [numArr, h]
theorem bolArr_get (h : j < n) : (bolArr E n)[j]? = some (.bool (E j)) := by simp [bolArr, h]
theorem numArr_size : (numArr D n).size = n := by simp [numArr]
theorem bolArr_size : (bolArr E n).size = n := by simp [bolArr]
theorem numArr_congr (h : ∀ j, j < n → D j = D' j) : numArr D n = numArr D' n := by
  unfold numArr
  congr 1
  apply List.map_congr_left
  intro j hj
  rw [h j (List.mem_range.1 hj)]
theorem bolArr_congr (h : ∀ j, j < n → E j = E' j) : bolArr E n = bolArr E' n := by
  unfold bolArr
  congr 1
  apply List.map_congr_left
  intro j hj
  rw [h j (List.mem_range.1 hj)]
theorem numArr_set {x : Int} : (numArr D n).setIfInBounds j (.int .i64 x) = numArr (fun i => if i = j then x else D i) n := by
  apply Array.ext'
  simp only [numArr, Array.toList_setIfInBounds]
  apply List.ext_getElem?
  intro i
  rw [List.getElem?_set]
  by_cases hi : i < n
  · by_cases e : j = i
    · subst e; simp [hi]
    · have e2 : ¬ i = j := fun h => e h.symm
      simp [e, e2, hi]
  · by_cases e : j = i
    · subst e; simp [hi]
    · simp [e, hi]
theorem bolArr_set {x : Bool} : (bolArr E n).setIfInBounds j (.bool x) = bolArr (fun i => if i = j then x else E i) n := by
  apply Array.ext'
  simp only [bolArr, Array.toList_setIfInBounds]
  apply List.ext_getElem?
  intro i
  rw [List.getElem?_set]
  by_cases hi : i < n
  · by_cases e : j = i
    · subst e; simp [hi]
    · have e2 : ¬ i = j := fun h => e h.symm
      simp [e, e2, hi]
  · by_cases e : j = i
    · subst e; simp [hi]
    · simp [e, hi]
theorem numArr_flat : numArr D n = (flat (intC D) 1 n).toArray := by
  unfold numArr
  congr 1
  refine flat_ext (by simp) fun j hj i hi => ?_
  obtain rfl : i = 0 := by omega
  simp [intC, hj]
end
/-- A row that fills its block. -/
theorem own_full {w : World} {B sz n g : Nat} {e : TypeId} {xs : List Value} (h : w.ownsRow B e sz (.slice (some ⟨g, 0, none⟩) n n) n xs) : w.heap[g]? = some (.cells xs.toArray e (0, 0)) ∧ B ≤ g ∧ n ≤ maxLen := by
  rcases h.2 with ⟨h1, _⟩ | ⟨g', cap, cur, h1, h2, h3, h4, h5, h6, h7⟩
  · cases h1
  · injection h1 with h1 _ h8
    injection h1 with h1
    injection h1 with h1
    subst h1 h8
    refine ⟨?_, h2, h5⟩
    rw [h3, ← h7, List.take_of_length_le (by simp; omega)]
theorem full_own {w : World} {B sz n g : Nat} {e : TypeId} {xs : List Value} (h : w.heap[g]? = some (.cells xs.toArray e (0, 0))) (hB : B ≤ g) (hn : n ≤ maxLen) (hx : xs.length = n * sz) : w.ownsRow B e sz (.slice (some ⟨g, 0, none⟩) n n) n xs :=
  ⟨hx, Or.inr ⟨g, n, xs.toArray, rfl, hB, h, Nat.le_refl _, hn, by simpa using hx, by simp [← hx]⟩⟩
theorem made_nums (n : Nat) : (madeCells (Value.int .i64 0).cells (n * 1)).toList.toArray = numArr (fun _ => 0) n := by
  apply Array.ext'
  apply List.ext_getElem?
  intro i
  simp only [madeCells, numArr, Nat.mul_one]
  by_cases h : i < n
  · simp [h, Value.cells, Nat.mod_one]
  · simp [h]
theorem made_bols (n : Nat) : (madeCells (Value.bool false).cells (n * 1)).toList.toArray = bolArr (fun _ => false) n := by
  apply Array.ext'
  apply List.ext_getElem?
  intro i
  simp only [madeCells, bolArr, Nat.mul_one]
  by_cases h : i < n
  · simp [h, Value.cells, Nat.mod_one]
  · simp [h]
/-- One cell of a flat block written over. -/
theorem flat_put {C : Nat → Nat → Value} {sz n i q : Nat} {v : Value} (hi : i < n) (hq : q < sz) : (flat C sz n).toArray.setIfInBounds (i * sz + q) v = (flat (fun j p => if j = i ∧ p = q then v else C j p) sz n).toArray := by
  apply Array.ext'
  simp only [Array.toList_setIfInBounds]
  refine flat_ext (by rw [List.length_set, flat_length]) fun j hj p hp => ?_
  rw [List.getElem?_set]
  by_cases e : i * sz + q = j * sz + p
  · have h1 : i = j := by
      have a1 : (i * sz + q) / sz = i := by rw [Nat.mul_comm, Nat.mul_add_div (by omega), Nat.div_eq_of_lt hq, Nat.add_zero]
      have a2 : (j * sz + p) / sz = j := by rw [Nat.mul_comm, Nat.mul_add_div (by omega), Nat.div_eq_of_lt hp, Nat.add_zero]
      rw [← a1, ← a2, e]
    subst h1
    have h2 : q = p := by omega
    subst h2
    have h3 : i * sz + q < n * sz := by
      have : (i + 1) * sz ≤ n * sz := Nat.mul_le_mul_right _ hi
      rw [Nat.succ_mul] at this
      omega
    simp [flat_length, h3]
  · rw [if_neg e, flat_at C hj hp, if_neg (fun h => e (by rw [h.1, h.2]))]
/-- The cells of a row from element 'first' on. -/
theorem rd_from {w : World} {B n sz bt b off first k : Nat} {C : Nat → Nat → Value} (h : RowRd w B (some ⟨b, off, none⟩) n sz bt C) (hk : first + k ≤ n) : ∀ (j : Nat) (v : Value), (flat (fun j => C (first + j)) sz k)[j]? = some v → w.cell? ((⟨b, off + first * sz, none⟩ : Addr).add j) = some v := by
  intro j v hv
  have hj : j < k * sz := by
    have := (List.getElem?_eq_some_iff.1 hv).1
    rwa [flat_length] at this
  have hs : 0 < sz := by
    rcases Nat.eq_zero_or_pos sz with e | e
    · subst e; omega
    · exact e
  have h1 : j / sz < k := (Nat.div_lt_iff_lt_mul hs).2 hj
  have h2 : j % sz < sz := Nat.mod_lt _ hs
  have e : j = j / sz * sz + j % sz := by rw [Nat.mul_comm]; exact (Nat.div_add_mod j sz).symm
  rw [e, flat_at _ h1 h2] at hv
  injection hv with hv
  have hk0 : 0 < k := Nat.lt_of_le_of_lt (Nat.zero_le _) h1
  obtain ⟨b', off', e1, _, hc⟩ := h.2 (by omega)
  injection e1 with e1
  injection e1 with e1 e2
  subst e1 e2
  have h3 := hc (first + j / sz) (Nat.lt_of_lt_of_le (Nat.add_lt_add_left h1 first) hk) (j % sz) h2
  have e4 : off + first * sz + j = off + ((first + j / sz) * sz + j % sz) := by
    rw [Nat.add_mul]
    generalize j / sz * sz = x at e ⊢
    generalize j % sz = y at e ⊢
    generalize first * sz = z
    omega
  rw [rd_add, ← hv, ← h3, e4]
/-- 'copy(dst, src)', elements of sz cells each: dst's row is known whole and written over whole. -/
theorem run_copy_sz {P : Program} (w : World) (dT sT ty elem : TypeId) (sz g n dCap : Nat) (a : Addr) (sLen sCap : Nat) (cur : Array Value) (t : TypeId) (cs : List Value)
    (hu : P.underlying dT = some (.slice elem)) (hs : (P.info? elem).map (·.size) = some sz)
    (hg : w.heap[g]? = some (.cells cur t (0, 0))) (hn : Nat.min sLen n = n) (hl : cs.length = n * sz)
    (hsrc : ∀ j v, cs[j]? = some v → w.cell? (a.add j) = some v) (hfit : cs.length = cur.size) (h1 : ∀ v ∈ cs, v.oneCell' = true) :
    (Builtin.copy_ #[dT, sT] ty #[.slice (some ⟨g, 0, none⟩) n dCap, .slice (some a) sLen sCap]).run P w = .ok (goInt n) (w.setRow g cs.toArray) := by
  have hl' := run_loadCells_list (P := P) w a cs hsrc
  have hst := run_storeCells_at P g 0 t cs 0 cur w hg (by omega) h1
  have e : (cur.toList.take (0 + 0) ++ cs ++ cur.toList.drop (0 + 0 + cs.length)).toArray = cs.toArray := by
    have : cur.toList.drop cs.length = [] := List.drop_eq_nil_of_le (by simp; omega)
    simp [this]
  rw [e] at hst
  rw [hl] at hl'
  cases hq : P.info? elem with
  | none => simp [hq] at hs
  | some i =>
    have hi : i.size = sz := by simpa [hq] using hs
    simp [Builtin.copy_, run_underlying hu, Builtin.lenOf, Builtin.firstCells, sizeOf, typeInfo, hq, hi, hn, hl', hst]
theorem wpList_copy_sz {P : Program} {w : World} {ops : Array Oper} {rest : List Oper} {o : Oper} {a : Act} {Q : Exit → Act → World → Prop} (hgd : o.guard = none) (d s : Operand) (dT sT : TypeId)
    (ho : o.op = .call { callee := .builtin .copy, args := #[d, s], argTypes := #[dT, sT] }) (elem : TypeId) (sz : Nat) (hu : P.underlying dT = some (.slice elem)) (hsz : (P.info? elem).map (·.size) = some sz)
    (g n dCap : Nat) (ad : Addr) (sLen sCap : Nat) (hd : a.eval d = .slice (some ⟨g, 0, none⟩) n dCap) (hs : a.eval s = .slice (some ad) sLen sCap)
    (cur : Array Value) (t : TypeId) (hg : w.heap[g]? = some (.cells cur t (0, 0))) (cs : List Value) (hn : Nat.min sLen n = n) (hl : cs.length = n * sz)
    (hsrc : ∀ j v, cs[j]? = some v → w.cell? (ad.add j) = some v) (hfit : cs.length = cur.size) (h1 : ∀ v ∈ cs, v.oneCell' = true)
    (h : wpList P ops Q rest (a.put o.dst (goInt n)) (w.setRow g cs.toArray)) : wpList P ops Q (o :: rest) a w := by
  refine wpList_plain hgd fun K hK => ?_
  have hrun := run_copy_sz (P := P) w dT sT o.type elem sz g n dCap ad sLen sCap cur t cs hu hsz hg hn hl hsrc hfit h1
  unfold Oper.wp
  simp [execOp, ho, resolve, invoke, builtin, hd, hs, hrun, Result.andThen]
  exact hK _ _ h
end Go.Proofs.YtagcbljfaflhoaaDoor

/-! ### The walks of check.size, Size, Sub, IsTruth. -/
namespace Go.Proofs.YtagcbljfaflhoaaDoor
open Go.RowKit Go.ChangeShapes Go.WideShapes Go.ChangeAt Go.Deep Go.Joins
theorem node_a {w : World} {b off n r : Nat} {f : Nat → Nod} {q : Int} (h : w.cell? ⟨b, off + r * 6 + 4, none⟩ = some (.int .i64 (f r).a)) (hq : (f r).a = q) : w.cell? ⟨b, off + r * 6 + 4, none⟩ = some (.int .i64 q) := by rw [← hq]; exact h
theorem node_b {w : World} {b off n r : Nat} {f : Nat → Nod} {q : Int} (h : w.cell? ⟨b, off + r * 6 + 5, none⟩ = some (.int .i64 (f r).b)) (hq : (f r).b = q) : w.cell? ⟨b, off + r * 6 + 5, none⟩ = some (.int .i64 q) := by rw [← hq]; exact h
set_option maxRecDepth 100000 in
set_option maxHeartbeats 2000000 in
theorem size_any (A : Option Addr) (n c : Nat) (f : Nat → Nod) (l : Nat → Nat) (hs : Shp n f l) : ∀ r, r < n → ∀ w : World, NodRd w w.heap.size A n f →
    Calls Tryd.prog 46 #[.slice A n c, .int .i64 (r : Nat)] w fun e w' => e = .returned (.int .i64 ((r - l r + 1 : Nat) : Int)) ∧ w' = w := by
  intro r
  induction r using Nat.strongRecOn with
  | _ r ih =>
    intro hr w h
    have hn := h.small
    have hle := hs.le r hr
    obtain ⟨b, off, rfl, hbl, hcs⟩ := h.spot (by omega)
    obtain ⟨c0, c1, c2, c3, c4, c5⟩ := hcs r hr
    have HT := Lib.hid h
    clear hcs c0 c1 c2 c3 h
    rcases hs.kind r hr with ⟨_, ka, kb, kl⟩ | ⟨_, k1, ka, kb, kl⟩ | ⟨_, k1, kb, k2, ka, kl⟩
    · have d4 := node_a (n := n) c4 ka
      have d5 := node_b (n := n) c5 kb
      clear c4 c5
      go_enter Tryd.func46, Tryd.ntmps46
      go_wp2_with fail
      go_ret
      exact ⟨ret_int (by omega), rfl⟩
    · have d4 := node_a (n := n) (q := ((r - 1 : Nat) : Int)) c4 (by omega)
      have d5 := node_b (n := n) c5 kb
      have IH := Lib.hid (ih (r - 1) (by omega) (by omega))
      have hle1 := hs.le (r - 1) (by omega)
      clear c4 c5 ih ka kb
      obtain ⟨r1, hr1⟩ : ∃ r1, r - 1 = r1 := ⟨_, rfl⟩
      rw [hr1] at d4 IH hle1 kl
      obtain ⟨s1, hs1⟩ : ∃ s1, r1 - l r1 + 1 = s1 := ⟨_, rfl⟩
      rw [hs1] at IH
      have hsb : s1 ≤ 2199023255489 := by omega
      go_enter Tryd.func46, Tryd.ntmps46
      go_wp2_with fail
      refine (IH.out _ HT.out).mono ?_
      rintro e w1 ⟨rfl, rfl⟩
      go_wp2_with fail
      go_ret
      exact ⟨ret_int (by omega), rfl⟩
    · have hle1 := hs.le (r - 1) (by omega)
      have hle2 := hs.le (l (r - 1) - 1) (by omega)
      have d4 := node_a (n := n) (q := ((l (r - 1) - 1 : Nat) : Int)) c4 (by omega)
      have d5 := node_b (n := n) (q := ((r - 1 : Nat) : Int)) c5 (by omega)
      have IA := Lib.hid (ih (l (r - 1) - 1) (by omega) (by omega))
      have IB := Lib.hid (ih (r - 1) (by omega) (by omega))
      clear c4 c5 ih ka kb
      obtain ⟨r1, hr1⟩ : ∃ r1, r - 1 = r1 := ⟨_, rfl⟩
      rw [hr1] at d4 d5 IA IB hle1 hle2 kl k2
      obtain ⟨r2, hr2⟩ : ∃ r2, l r1 - 1 = r2 := ⟨_, rfl⟩
      rw [hr2] at d4 IA hle2 kl
      obtain ⟨s1, hs1⟩ : ∃ s1, r1 - l r1 + 1 = s1 := ⟨_, rfl⟩
      rw [hs1] at IB
      obtain ⟨s2, hs2⟩ : ∃ s2, r2 - l r2 + 1 = s2 := ⟨_, rfl⟩
      rw [hs2] at IA
      have hsb : s1 ≤ 2199023255489 := by omega
      have hsb2 : s2 ≤ 2199023255489 := by omega
      go_enter Tryd.func46, Tryd.ntmps46
      go_wp2_with fail
      refine (IA.out _ HT.out).mono ?_
      rintro e w1 ⟨rfl, rfl⟩
      go_wp2_with fail
      refine (IB.out _ HT.out).mono ?_
      rintro e w2 ⟨rfl, rfl⟩
      go_wp2_with fail
      go_ret
      exact ⟨ret_int (by omega), rfl⟩
theorem sizeI_low {n : Nat} {f : Nat → Nod} {root : Int} (h : root < 0) : sizeI n f root = 0 := by rw [sizeI, if_neg (by omega)]
theorem sizeI_high {n : Nat} {f : Nat → Nod} {root : Int} (h : (n : Int) ≤ root) : sizeI n f root = 0 := by rw [sizeI, if_neg (by omega)]
theorem sizeI_bad {n : Nat} {f : Nat → Nod} {root : Int} (h : treeB n f = false) : sizeI n f root = 0 := by rw [sizeI, if_neg (by rw [h]; simp)]
theorem sizeI_in {n r : Nat} {f : Nat → Nod} (h : treeB n f = true) (hr : r < n) : sizeI n f (r : Nat) = r - begF n f r + 1 := by
  rw [sizeI, if_pos ⟨h, by omega, by omega⟩]
  rfl
set_option maxRecDepth 100000 in
set_option maxHeartbeats 2000000 in
theorem checkSize_any (A : Option Addr) (n c : Nat) (f : Nat → Nod) (root : Int) (w : World) (h : NodRd w w.heap.size A n f) {tt : TypeId} {fr : Nat × Nat} (hkw : w.heap[0]? = some (.cells kwArr tt fr)) :
    Calls Tryd.prog 13 #[.slice A n c, .int .i64 root] w fun e w' => e = .returned (.int .i64 ((sizeI n f root : Nat) : Int)) ∧ Below w.heap.size w w' := by
  have hn := h.small
  have HT := Lib.hid h
  have HK := Lib.hid hkw
  clear h hkw
  by_cases h0 : root < 0
  · have HE := Lib.hid (sizeI_low (n := n) (f := f) h0)
    go_enter Tryd.func13, Tryd.ntmps13
    go_wp2_with fail
    go_ret
    exact ⟨by rw [HE.out]; rfl, Below.refl _ _⟩
  · by_cases h1 : (n : Int) ≤ root
    · have HE := Lib.hid (sizeI_high (n := n) (f := f) h1)
      go_enter Tryd.func13, Tryd.ntmps13
      go_wp2_with fail
      go_ret
      exact ⟨by rw [HE.out]; rfl, Below.refl _ _⟩
    · obtain ⟨r, rfl⟩ : ∃ r : Nat, root = r := ⟨root.toNat, by omega⟩
      have hr : r < n := by omega
      cases ht : treeB n f
      · have HE := Lib.hid (sizeI_bad (n := n) (f := f) (root := (r : Int)) ht)
        have HF := Lib.hid ht
        clear ht
        go_enter Tryd.func13, Tryd.ntmps13
        go_wp2_with (go_at_call 45; refine (showTree_any A n c f _ HT.out HK.out).mono ?_; rintro e w' ⟨rfl, hb⟩; rw [HF.out])
        go_ret
        exact ⟨by rw [HE.out]; rfl, hb⟩
      · have HE := Lib.hid (sizeI_in ht hr)
        have HF := Lib.hid ht
        have HS := Lib.hid (tree_shp ht).2.1
        clear ht
        go_enter Tryd.func13, Tryd.ntmps13
        go_wp2_with (first | (go_at_call 45; refine (showTree_any A n c f _ HT.out HK.out).mono ?_; rintro e w' ⟨rfl, hb⟩; rw [HF.out]) | (go_at_call 46; refine (size_any A n c f _ HS.out r hr _ (HT.out.later hb)).mono ?_; rintro e w2 ⟨rfl, rfl⟩))
        go_ret
        exact ⟨by rw [HE.out]; rfl, hb⟩
/-- Does an operator give a truth? -/
def truthB (op : Int) : Bool := op == 2 || op == 3 || op == 13 || (decide (19 ≤ op) && decide (op ≤ 26))
def isTruthB (n : Nat) (f : Nat → Nod) : Bool := decide (0 < n) && truthB (f (n - 1)).op
set_option maxHeartbeats 1000000 in
theorem truth_any (op : Int) (w : World) : Calls Tryd.prog 48 #[.int .i64 op] w fun e w' => e = .returned (.bool (truthB op)) ∧ w' = w := by
  by_cases h2 : op = 2
  · subst h2
    go_enter Tryd.func48, Tryd.ntmps48
    go_wp2_with fail
    go_ret
    exact ⟨rfl, rfl⟩
  · by_cases h3 : op = 3
    · subst h3
      go_enter Tryd.func48, Tryd.ntmps48
      go_wp2_with fail
      go_ret
      exact ⟨rfl, rfl⟩
    · by_cases h13 : op = 13
      · subst h13
        go_enter Tryd.func48, Tryd.ntmps48
        go_wp2_with fail
        go_ret
        exact ⟨rfl, rfl⟩
      · have e2 : (op == 2) = false := by rw [beq_eq_false_iff_ne]; exact h2
        have e3 : (op == 3) = false := by rw [beq_eq_false_iff_ne]; exact h3
        have e13 : (op == 13) = false := by rw [beq_eq_false_iff_ne]; exact h13
        by_cases h19 : 19 ≤ op
        · have E := Lib.hid (show truthB op = decide (op ≤ 26) by simp [truthB, e2, e3, e13, h19])
          go_enter Tryd.func48, Tryd.ntmps48
          go_wp2_with fail
          go_ret
          exact ⟨by rw [E.out]; rfl, rfl⟩
        · have E := Lib.hid (show truthB op = false by simp [truthB, e2, e3, e13]; omega)
          go_enter Tryd.func48, Tryd.ntmps48
          go_wp2_with fail
          go_ret
          exact ⟨by rw [E.out]; rfl, rfl⟩
set_option maxHeartbeats 1000000 in
theorem refTruth_any (op : Int) (w : World) : Calls Tryd.prog 51 #[.int .i64 op] w fun e w' => e = .returned (.bool (truthB op)) ∧ w' = w := by
  by_cases h2 : op = 2
  · subst h2
    go_enter Tryd.func51, Tryd.ntmps51
    go_wp2_with fail
    go_ret
    exact ⟨rfl, rfl⟩
  · by_cases h3 : op = 3
    · subst h3
      go_enter Tryd.func51, Tryd.ntmps51
      go_wp2_with fail
      go_ret
      exact ⟨rfl, rfl⟩
    · by_cases h13 : op = 13
      · subst h13
        go_enter Tryd.func51, Tryd.ntmps51
        go_wp2_with fail
        go_ret
        exact ⟨rfl, rfl⟩
      · have e2 : (op == 2) = false := by rw [beq_eq_false_iff_ne]; exact h2
        have e3 : (op == 3) = false := by rw [beq_eq_false_iff_ne]; exact h3
        have e13 : (op == 13) = false := by rw [beq_eq_false_iff_ne]; exact h13
        by_cases h19 : 19 ≤ op
        · have E := Lib.hid (show truthB op = decide (op ≤ 26) by simp [truthB, e2, e3, e13, h19])
          go_enter Tryd.func51, Tryd.ntmps51
          go_wp2_with fail
          go_ret
          exact ⟨by rw [E.out]; rfl, rfl⟩
        · have E := Lib.hid (show truthB op = false by simp [truthB, e2, e3, e13]; omega)
          go_enter Tryd.func51, Tryd.ntmps51
          go_wp2_with fail
          go_ret
          exact ⟨by rw [E.out]; rfl, rfl⟩
set_option maxHeartbeats 1000000 in
theorem isTruth_any (A : Option Addr) (n c : Nat) (f : Nat → Nod) (w : World) (h : NodRd w w.heap.size A n f) :
    Calls Tryd.prog 16 #[.slice A n c] w fun e w' => e = .returned (.bool (isTruthB n f)) ∧ w' = w := by
  have hn := h.small
  by_cases h0 : n = 0
  · subst h0
    go_enter Tryd.func16, Tryd.ntmps16
    go_wp2_with fail
    go_ret
    exact ⟨rfl, rfl⟩
  · obtain ⟨m, rfl⟩ : ∃ m, n = m + 1 := ⟨n - 1, by omega⟩
    obtain ⟨b, off, rfl, hbl, hcs⟩ := h.spot (by omega)
    obtain ⟨c0, c1, c2, c3, c4, c5⟩ := hcs m (by omega)
    have E := Lib.hid (show isTruthB (m + 1) f = truthB (f m).op by simp [isTruthB])
    clear hcs c1 c2 c3 c4 c5 h
    go_enter Tryd.func16, Tryd.ntmps16
    go_wp2_with (go_at_call 48; refine (truth_any _ _).mono ?_; rintro e w' ⟨rfl, rfl⟩)
    go_ret
    exact ⟨by rw [E.out]; rfl, rfl⟩
set_option maxHeartbeats 1000000 in
theorem refIsTruth_any (A : Option Addr) (n c : Nat) (f : Nat → Nod) (w : World) (h : NodRd w w.heap.size A n f) :
    Calls Tryd.prog 22 #[.slice A n c] w fun e w' => e = .returned (.bool (isTruthB n f)) ∧ w' = w := by
  have hn := h.small
  by_cases h0 : n = 0
  · subst h0
    go_enter Tryd.func22, Tryd.ntmps22
    go_wp2_with fail
    go_ret
    exact ⟨rfl, rfl⟩
  · obtain ⟨m, rfl⟩ : ∃ m, n = m + 1 := ⟨n - 1, by omega⟩
    obtain ⟨b, off, rfl, hbl, hcs⟩ := h.spot (by omega)
    obtain ⟨c0, c1, c2, c3, c4, c5⟩ := hcs m (by omega)
    have E := Lib.hid (show isTruthB (m + 1) f = truthB (f m).op by simp [isTruthB])
    clear hcs c1 c2 c3 c4 c5 h
    go_enter Tryd.func22, Tryd.ntmps22
    go_wp2_with (go_at_call 51; refine (refTruth_any _ _).mono ?_; rintro e w' ⟨rfl, rfl⟩)
    go_ret
    exact ⟨by rw [E.out]; rfl, rfl⟩
end Go.Proofs.YtagcbljfaflhoaaDoor

/-! ### Are a node's operands of the kinds that it wants: plain, and the walk of check.kinds. -/
namespace Go.Proofs.YtagcbljfaflhoaaDoor
open Go.RowKit Go.ChangeShapes Go.WideShapes Go.ChangeAt Go.Deep Go.Joins
def wantB (op : Int) : Bool := op == 13 || op == 25 || op == 26
def kidB (f : Nat → Nod) (want : Bool) (k : Int) : Bool := !(decide (0 ≤ k) && (truthB (f k.toNat).op != want))
def kindsB (f : Nat → Nod) (x : Nod) : Bool := kidB f (wantB x.op) x.a && kidB f (wantB x.op) x.b
theorem kid_neg {f : Nat → Nod} {want : Bool} {k : Int} (h : k < 0) : kidB f want k = true := by simp only [kidB, decide_eq_false (show ¬ 0 ≤ k by omega)]; rfl
theorem kid_at {f : Nat → Nod} {want q : Bool} {k : Nat} (h : truthB (f k).op = q) : kidB f want (k : Int) = !(q != want) := by
  simp only [kidB, decide_eq_true (show (0 : Int) ≤ (k : Int) by omega), show ((k : Int)).toNat = k from rfl, h, Bool.true_and]
theorem node_truth {w : World} {b off n r : Nat} {f : Nat → Nod} (h : ∀ j, j < n → w.cell? ⟨b, off + j * 6, none⟩ = some (.int .i64 (f j).op) ∧ w.cell? ⟨b, off + j * 6 + 1, none⟩ = some (.int .i64 (f j).n) ∧ w.cell? ⟨b, off + j * 6 + 2, none⟩ = some (.string (f j).vr) ∧
    w.cell? ⟨b, off + j * 6 + 3, none⟩ = some (.string (f j).at_) ∧ w.cell? ⟨b, off + j * 6 + 4, none⟩ = some (.int .i64 (f j).a) ∧ w.cell? ⟨b, off + j * 6 + 5, none⟩ = some (.int .i64 (f j).b)) (hr : r < n) : w.cell? ⟨b, off + r * 6, none⟩ = some (.int .i64 (f r).op) := (h r hr).1
set_option maxRecDepth 100000 in
set_option maxHeartbeats 4000000 in
theorem kinds_any (aT : Option Addr) (n c : Nat) (f : Nat → Nod) (x : Nod) (w : World) (h : NodRd w w.heap.size aT n f) (ha : x.a < n) (hb : x.b < n) :
    Calls Tryd.prog 108 #[.slice aT n c, .agg (nodArr x)] w fun e w' => e = .returned (.bool (kindsB f x)) ∧ Below w.heap.size w w' := by
  obtain ⟨op, nn, vr, at_, a, b⟩ := x
  show Calls _ _ #[.slice aT n c, .agg #[.int .i64 op, .int .i64 nn, .string vr, .string at_, .int .i64 a, .int .i64 b]] w _
  have ha : a < n := ha
  have hb : b < n := hb
  have hn := h.small
  have hb0 := bnew (Below.refl w.heap.size w) (.cells #[.int .i64 op, .int .i64 nn, .string vr, .string at_, .int .i64 a, .int .i64 b] 60)
  have X0 := Lib.hid (blk_new w #[.int .i64 op, .int .i64 nn, .string vr, .string at_, .int .i64 a, .int .i64 b] 60)
  have HT := Lib.hid h
  have i0 : ∀ w, (Instr.index 129 (.agg #[.int .i64 a, .int .i64 b]) (.int .i64 0)).run Tryd.prog w = .ok (.int .i64 a) w := fun _ => by kernel_rfl
  have i1 : ∀ w, (Instr.index 129 (.agg #[.int .i64 a, .int .i64 b]) (.int .i64 1)).run Tryd.prog w = .ok (.int .i64 b) w := fun _ => by kernel_rfl
  clear h
  go_enter Tryd.func108, Tryd.ntmps108
  go_upto_region 1 with fail
  generalize w.alloc _ = w0 at *
  have t0 := blk_cell X0.out (j := 0) rfl
  have t4 := blk_cell X0.out (j := 4) rfl
  have t5 := blk_cell X0.out (j := 5) rfl
  have HT0 := Lib.hid (HT.out.later hb0)
  rcases (by omega : op = 13 ∨ op = 25 ∨ op = 26 ∨ (op ≠ 13 ∧ op ≠ 25 ∧ op ≠ 26)) with ho | ho | ho | ho
  · subst ho
    have hw : wantB 13 = true := rfl
    have HR := Lib.hid (show kindsB f ⟨13, nn, vr, at_, a, b⟩ = (kidB f true a && kidB f true b) by simp only [kindsB, hw])
    go_wp2_with fail
    go_loop [26] (fun i => ∃ k : Nat, k ≤ 2 ∧ i = .int .i64 k ∧ Hid (1 ≤ k → kidB f true a = true) ∧ Hid (2 ≤ k → kidB f true b = true)) (fun i => 2 - (intOf i).toNat)
    case atStart => exact ⟨0, by omega, rfl, Lib.hid (fun h => absurd h (by omega)), Lib.hid (fun h => absurd h (by omega))⟩
    case round =>
      obtain ⟨k, hk, rfl, HA, HB⟩ := hrel
      rcases (by omega : k = 0 ∨ k = 1 ∨ k = 2) with rfl | rfl | rfl
      · by_cases hp : 0 ≤ a
        · obtain ⟨p, rfl⟩ : ∃ p : Nat, a = p := ⟨a.toNat, by omega⟩
          obtain ⟨tb, off, rfl, hbl, hcs⟩ := HT0.out.spot (by omega)
          have d0 := node_truth hcs (r := p) (by omega)
          have hpn : p < n := by omega
          clear hcs
          cases hq : truthB (f p).op
          all_goals
            have HV := Lib.hid (kid_at (want := true) hq)
            go_wp2_with (go_at_call 48; refine (truth_any _ _).mono ?_; rw [hq]; rintro e wq ⟨rfl, hw⟩; have hw := hw.symm; subst hw)
          · go_ret
            exact ⟨by rw [HR.out, HV.out]; rfl, hb0⟩
          · go_round
            case rel => exact ⟨1, by omega, rfl, Lib.hid (fun _ => HV.out.trans rfl), Lib.hid (fun h => absurd h (by omega))⟩
            case measure => simp [intOf]
        · have HV := Lib.hid (kid_neg (f := f) (want := true) (show a < 0 by omega))
          go_wp2_with fail
          go_round
          case rel => exact ⟨1, by omega, rfl, Lib.hid (fun _ => HV.out.trans rfl), Lib.hid (fun h => absurd h (by omega))⟩
          case measure => simp [intOf]
      · by_cases hp : 0 ≤ b
        · obtain ⟨p, rfl⟩ : ∃ p : Nat, b = p := ⟨b.toNat, by omega⟩
          obtain ⟨tb, off, rfl, hbl, hcs⟩ := HT0.out.spot (by omega)
          have d0 := node_truth hcs (r := p) (by omega)
          have hpn : p < n := by omega
          clear hcs
          cases hq : truthB (f p).op
          all_goals
            have HV := Lib.hid (kid_at (want := true) hq)
            go_wp2_with (go_at_call 48; refine (truth_any _ _).mono ?_; rw [hq]; rintro e wq ⟨rfl, hw⟩; have hw := hw.symm; subst hw)
          · go_ret
            exact ⟨by rw [HR.out, HV.out]; simp, hb0⟩
          · go_round
            case rel => exact ⟨2, by omega, rfl, Lib.hid (fun _ => HA.out (by omega)), Lib.hid (fun _ => HV.out.trans rfl)⟩
            case measure => simp [intOf]
        · have HV := Lib.hid (kid_neg (f := f) (want := true) (show b < 0 by omega))
          go_wp2_with fail
          go_round
          case rel => exact ⟨2, by omega, rfl, Lib.hid (fun _ => HA.out (by omega)), Lib.hid (fun _ => HV.out.trans rfl)⟩
          case measure => simp [intOf]
      · have HE := Lib.hid (show kindsB f ⟨13, nn, vr, at_, a, b⟩ = true by rw [HR.out, HA.out (by omega), HB.out (by omega)]; rfl)
        go_wp2_with fail
        go_ret
        exact ⟨by rw [HE.out]; rfl, hb0⟩
  · subst ho
    have hw : wantB 25 = true := rfl
    have HR := Lib.hid (show kindsB f ⟨25, nn, vr, at_, a, b⟩ = (kidB f true a && kidB f true b) by simp only [kindsB, hw])
    go_wp2_with fail
    go_loop [26] (fun i => ∃ k : Nat, k ≤ 2 ∧ i = .int .i64 k ∧ Hid (1 ≤ k → kidB f true a = true) ∧ Hid (2 ≤ k → kidB f true b = true)) (fun i => 2 - (intOf i).toNat)
    case atStart => exact ⟨0, by omega, rfl, Lib.hid (fun h => absurd h (by omega)), Lib.hid (fun h => absurd h (by omega))⟩
    case round =>
      obtain ⟨k, hk, rfl, HA, HB⟩ := hrel
      rcases (by omega : k = 0 ∨ k = 1 ∨ k = 2) with rfl | rfl | rfl
      · by_cases hp : 0 ≤ a
        · obtain ⟨p, rfl⟩ : ∃ p : Nat, a = p := ⟨a.toNat, by omega⟩
          obtain ⟨tb, off, rfl, hbl, hcs⟩ := HT0.out.spot (by omega)
          have d0 := node_truth hcs (r := p) (by omega)
          have hpn : p < n := by omega
          clear hcs
          cases hq : truthB (f p).op
          all_goals
            have HV := Lib.hid (kid_at (want := true) hq)
            go_wp2_with (go_at_call 48; refine (truth_any _ _).mono ?_; rw [hq]; rintro e wq ⟨rfl, hw⟩; have hw := hw.symm; subst hw)
          · go_ret
            exact ⟨by rw [HR.out, HV.out]; rfl, hb0⟩
          · go_round
            case rel => exact ⟨1, by omega, rfl, Lib.hid (fun _ => HV.out.trans rfl), Lib.hid (fun h => absurd h (by omega))⟩
            case measure => simp [intOf]
        · have HV := Lib.hid (kid_neg (f := f) (want := true) (show a < 0 by omega))
          go_wp2_with fail
          go_round
          case rel => exact ⟨1, by omega, rfl, Lib.hid (fun _ => HV.out.trans rfl), Lib.hid (fun h => absurd h (by omega))⟩
          case measure => simp [intOf]
      · by_cases hp : 0 ≤ b
        · obtain ⟨p, rfl⟩ : ∃ p : Nat, b = p := ⟨b.toNat, by omega⟩
          obtain ⟨tb, off, rfl, hbl, hcs⟩ := HT0.out.spot (by omega)
          have d0 := node_truth hcs (r := p) (by omega)
          have hpn : p < n := by omega
          clear hcs
          cases hq : truthB (f p).op
          all_goals
            have HV := Lib.hid (kid_at (want := true) hq)
            go_wp2_with (go_at_call 48; refine (truth_any _ _).mono ?_; rw [hq]; rintro e wq ⟨rfl, hw⟩; have hw := hw.symm; subst hw)
          · go_ret
            exact ⟨by rw [HR.out, HV.out]; simp, hb0⟩
          · go_round
            case rel => exact ⟨2, by omega, rfl, Lib.hid (fun _ => HA.out (by omega)), Lib.hid (fun _ => HV.out.trans rfl)⟩
            case measure => simp [intOf]
        · have HV := Lib.hid (kid_neg (f := f) (want := true) (show b < 0 by omega))
          go_wp2_with fail
          go_round
          case rel => exact ⟨2, by omega, rfl, Lib.hid (fun _ => HA.out (by omega)), Lib.hid (fun _ => HV.out.trans rfl)⟩
          case measure => simp [intOf]
      · have HE := Lib.hid (show kindsB f ⟨25, nn, vr, at_, a, b⟩ = true by rw [HR.out, HA.out (by omega), HB.out (by omega)]; rfl)
        go_wp2_with fail
        go_ret
        exact ⟨by rw [HE.out]; rfl, hb0⟩
  · subst ho
    have hw : wantB 26 = true := rfl
    have HR := Lib.hid (show kindsB f ⟨26, nn, vr, at_, a, b⟩ = (kidB f true a && kidB f true b) by simp only [kindsB, hw])
    go_wp2_with fail
    go_loop [26] (fun i => ∃ k : Nat, k ≤ 2 ∧ i = .int .i64 k ∧ Hid (1 ≤ k → kidB f true a = true) ∧ Hid (2 ≤ k → kidB f true b = true)) (fun i => 2 - (intOf i).toNat)
    case atStart => exact ⟨0, by omega, rfl, Lib.hid (fun h => absurd h (by omega)), Lib.hid (fun h => absurd h (by omega))⟩
    case round =>
      obtain ⟨k, hk, rfl, HA, HB⟩ := hrel
      rcases (by omega : k = 0 ∨ k = 1 ∨ k = 2) with rfl | rfl | rfl
      · by_cases hp : 0 ≤ a
        · obtain ⟨p, rfl⟩ : ∃ p : Nat, a = p := ⟨a.toNat, by omega⟩
          obtain ⟨tb, off, rfl, hbl, hcs⟩ := HT0.out.spot (by omega)
          have d0 := node_truth hcs (r := p) (by omega)
          have hpn : p < n := by omega
          clear hcs
          cases hq : truthB (f p).op
          all_goals
            have HV := Lib.hid (kid_at (want := true) hq)
            go_wp2_with (go_at_call 48; refine (truth_any _ _).mono ?_; rw [hq]; rintro e wq ⟨rfl, hw⟩; have hw := hw.symm; subst hw)
          · go_ret
            exact ⟨by rw [HR.out, HV.out]; rfl, hb0⟩
          · go_round
            case rel => exact ⟨1, by omega, rfl, Lib.hid (fun _ => HV.out.trans rfl), Lib.hid (fun h => absurd h (by omega))⟩
            case measure => simp [intOf]
        · have HV := Lib.hid (kid_neg (f := f) (want := true) (show a < 0 by omega))
          go_wp2_with fail
          go_round
          case rel => exact ⟨1, by omega, rfl, Lib.hid (fun _ => HV.out.trans rfl), Lib.hid (fun h => absurd h (by omega))⟩
          case measure => simp [intOf]
      · by_cases hp : 0 ≤ b
        · obtain ⟨p, rfl⟩ : ∃ p : Nat, b = p := ⟨b.toNat, by omega⟩
          obtain ⟨tb, off, rfl, hbl, hcs⟩ := HT0.out.spot (by omega)
          have d0 := node_truth hcs (r := p) (by omega)
          have hpn : p < n := by omega
          clear hcs
          cases hq : truthB (f p).op
          all_goals
            have HV := Lib.hid (kid_at (want := true) hq)
            go_wp2_with (go_at_call 48; refine (truth_any _ _).mono ?_; rw [hq]; rintro e wq ⟨rfl, hw⟩; have hw := hw.symm; subst hw)
          · go_ret
            exact ⟨by rw [HR.out, HV.out]; simp, hb0⟩
          · go_round
            case rel => exact ⟨2, by omega, rfl, Lib.hid (fun _ => HA.out (by omega)), Lib.hid (fun _ => HV.out.trans rfl)⟩
            case measure => simp [intOf]
        · have HV := Lib.hid (kid_neg (f := f) (want := true) (show b < 0 by omega))
          go_wp2_with fail
          go_round
          case rel => exact ⟨2, by omega, rfl, Lib.hid (fun _ => HA.out (by omega)), Lib.hid (fun _ => HV.out.trans rfl)⟩
          case measure => simp [intOf]
      · have HE := Lib.hid (show kindsB f ⟨26, nn, vr, at_, a, b⟩ = true by rw [HR.out, HA.out (by omega), HB.out (by omega)]; rfl)
        go_wp2_with fail
        go_ret
        exact ⟨by rw [HE.out]; rfl, hb0⟩
  · have h13 : (op == 13) = false := by rw [beq_eq_false_iff_ne]; exact ho.1
    have h25 : (op == 25) = false := by rw [beq_eq_false_iff_ne]; exact ho.2.1
    have h26 : (op == 26) = false := by rw [beq_eq_false_iff_ne]; exact ho.2.2
    have hw : wantB op = false := by simp [wantB, ho]
    have HR := Lib.hid (show kindsB f ⟨op, nn, vr, at_, a, b⟩ = (kidB f false a && kidB f false b) by simp only [kindsB, hw])
    go_wp2_with fail
    go_loop [26] (fun i => ∃ k : Nat, k ≤ 2 ∧ i = .int .i64 k ∧ Hid (1 ≤ k → kidB f false a = true) ∧ Hid (2 ≤ k → kidB f false b = true)) (fun i => 2 - (intOf i).toNat)
    case atStart => exact ⟨0, by omega, rfl, Lib.hid (fun h => absurd h (by omega)), Lib.hid (fun h => absurd h (by omega))⟩
    case round =>
      obtain ⟨k, hk, rfl, HA, HB⟩ := hrel
      rcases (by omega : k = 0 ∨ k = 1 ∨ k = 2) with rfl | rfl | rfl
      · by_cases hp : 0 ≤ a
        · obtain ⟨p, rfl⟩ : ∃ p : Nat, a = p := ⟨a.toNat, by omega⟩
          obtain ⟨tb, off, rfl, hbl, hcs⟩ := HT0.out.spot (by omega)
          have d0 := node_truth hcs (r := p) (by omega)
          have hpn : p < n := by omega
          clear hcs
          cases hq : truthB (f p).op
          all_goals
            have HV := Lib.hid (kid_at (want := false) hq)
            go_wp2_with (go_at_call 48; refine (truth_any _ _).mono ?_; rw [hq]; rintro e wq ⟨rfl, hw⟩; have hw := hw.symm; subst hw)
          · go_round
            case rel => exact ⟨1, by omega, rfl, Lib.hid (fun _ => HV.out.trans rfl), Lib.hid (fun h => absurd h (by omega))⟩
            case measure => simp [intOf]
          · go_ret
            exact ⟨by rw [HR.out, HV.out]; rfl, hb0⟩
        · have HV := Lib.hid (kid_neg (f := f) (want := false) (show a < 0 by omega))
          go_wp2_with fail
          go_round
          case rel => exact ⟨1, by omega, rfl, Lib.hid (fun _ => HV.out.trans rfl), Lib.hid (fun h => absurd h (by omega))⟩
          case measure => simp [intOf]
      · by_cases hp : 0 ≤ b
        · obtain ⟨p, rfl⟩ : ∃ p : Nat, b = p := ⟨b.toNat, by omega⟩
          obtain ⟨tb, off, rfl, hbl, hcs⟩ := HT0.out.spot (by omega)
          have d0 := node_truth hcs (r := p) (by omega)
          have hpn : p < n := by omega
          clear hcs
          cases hq : truthB (f p).op
          all_goals
            have HV := Lib.hid (kid_at (want := false) hq)
            go_wp2_with (go_at_call 48; refine (truth_any _ _).mono ?_; rw [hq]; rintro e wq ⟨rfl, hw⟩; have hw := hw.symm; subst hw)
          · go_round
            case rel => exact ⟨2, by omega, rfl, Lib.hid (fun _ => HA.out (by omega)), Lib.hid (fun _ => HV.out.trans rfl)⟩
            case measure => simp [intOf]
          · go_ret
            exact ⟨by rw [HR.out, HV.out]; simp, hb0⟩
        · have HV := Lib.hid (kid_neg (f := f) (want := false) (show b < 0 by omega))
          go_wp2_with fail
          go_round
          case rel => exact ⟨2, by omega, rfl, Lib.hid (fun _ => HA.out (by omega)), Lib.hid (fun _ => HV.out.trans rfl)⟩
          case measure => simp [intOf]
      · have HE := Lib.hid (show kindsB f ⟨op, nn, vr, at_, a, b⟩ = true by rw [HR.out, HA.out (by omega), HB.out (by omega)]; rfl)
        go_wp2_with fail
        go_ret
        exact ⟨by rw [HE.out]; rfl, hb0⟩
end Go.Proofs.YtagcbljfaflhoaaDoor

/-! ### Two lists of nodes that read alike are the same: layer 6's. -/
namespace Go.Proofs.YtagcbljfaflhoaaDoor
open Go.RowKit Go.ChangeShapes Go.WideShapes Go.ChangeAt Go.Deep Go.Joins
set_option maxRecDepth 100000 in
set_option maxHeartbeats 1000000 in
theorem sameTree6_same (A A' : Option Addr) (n c c' : Nat) (f : Nat → Nod) (w : World) (h : NodRd w w.heap.size A n f) (h' : NodRd w w.heap.size A' n f) :
    Calls Tryd.prog 67 #[.slice A n c, .slice A' n c'] w fun e w' => e = .returned (.bool true) ∧ ∃ q, w' = w.drewN q := by
  have hn := h.small
  have HT := Lib.hid h
  have HT' := Lib.hid h'
  clear h h'
  go_enter Tryd.func67, Tryd.ntmps67
  go_wp2_with fail
  go_loopw [5] (fun i wr => ∃ k : Nat, k ≤ n ∧ i = .int .i64 k ∧ ∃ q, wr = w.drewN q) (fun i _ => n - (intOf i).toNat)
  case atStart => exact ⟨0, Nat.zero_le _, rfl, 0, rfl⟩
  case round =>
    obtain ⟨k, hk, rfl, q, rfl⟩ := hrel
    by_cases hlt : k < n
    · obtain ⟨b, off, rfl, hbl, hcs⟩ := HT.out.spot (by omega)
      obtain ⟨b', off', rfl, hbl', hcs'⟩ := HT'.out.spot (by omega)
      obtain ⟨c0, c1, c2, c3, c4, c5⟩ := hcs k hlt
      obtain ⟨d0, d1, d2, d3, d4, d5⟩ := hcs' k hlt
      clear hcs hcs'
      go_wp2_with fail
      go_quiet (fail)
      go_wp2_with fail
      go_roundw
      case rel => exact ⟨k + 1, by omega, by go_num, _, rfl⟩
      case measure => simp [intOf]; omega
    · go_wp2_with fail
      go_ret
      exact ⟨rfl, q, rfl⟩
set_option maxRecDepth 100000 in
set_option maxHeartbeats 1000000 in
theorem sameTreeLaw6_same (A A' : Option Addr) (n c c' : Nat) (f : Nat → Nod) (w : World) (h : NodRd w w.heap.size A n f) (h' : NodRd w w.heap.size A' n f) :
    Calls Tryd.prog 20 #[.slice A n c, .slice A' n c'] w fun e w' => e = .returned (.bool true) ∧ ∃ q, w' = w.drewN q := by
  have hn := h.small
  have HT := Lib.hid h
  have HT' := Lib.hid h'
  clear h h'
  go_enter Tryd.func20, Tryd.ntmps20
  go_wp2_with fail
  go_loopw [5] (fun i wr => ∃ k : Nat, k ≤ n ∧ i = .int .i64 k ∧ ∃ q, wr = w.drewN q) (fun i _ => n - (intOf i).toNat)
  case atStart => exact ⟨0, Nat.zero_le _, rfl, 0, rfl⟩
  case round =>
    obtain ⟨k, hk, rfl, q, rfl⟩ := hrel
    by_cases hlt : k < n
    · obtain ⟨b, off, rfl, hbl, hcs⟩ := HT.out.spot (by omega)
      obtain ⟨b', off', rfl, hbl', hcs'⟩ := HT'.out.spot (by omega)
      obtain ⟨c0, c1, c2, c3, c4, c5⟩ := hcs k hlt
      obtain ⟨d0, d1, d2, d3, d4, d5⟩ := hcs' k hlt
      clear hcs hcs'
      go_wp2_with fail
      go_quiet (fail)
      go_wp2_with fail
      go_roundw
      case rel => exact ⟨k + 1, by omega, by go_num, _, rfl⟩
      case measure => simp [intOf]; omega
    · go_wp2_with fail
      go_ret
      exact ⟨rfl, q, rfl⟩
end Go.Proofs.YtagcbljfaflhoaaDoor

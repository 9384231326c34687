/-
  Several texts in one: SchemaOwn, CheckSchemaRef, RefCheck.
-/
import Derived.Test.YtagcbljfaflhoaaDoorFlw3
import Derived.Test.YtagcbljfaflhoaaDoorFlw0
import Derived.Deep.AppendLies
import Derived.Laws.OwnMore
import Derived.Lib.OwnKind
import Derived.Maps.RangeWalk
import Derived.Test.YtagcbljfaflhoaaDoorFlw4
import Derived.Test.YtagcbljfaflhoaaDoorFlw8
import Derived.Test.YtagcbljfaflhoaaDoorFlw29
import Derived.Test.YtagcbljfaflhoaaDoorFlw30
set_option linter.unusedSimpArgs false
set_option linter.unusedVariables false
/-! ### A schema of the call's own: rows that may be written. -/
namespace Go.Proofs.YtagcbljfaflhoaaDoor
open Go.RowKit Go.ChangeShapes Go.WideShapes Go.Deep Go.Joins
theorem infoStr : (Tryd.prog.info? 9).map (fun i => (i.zero, i.size, i.bytes)) = some (some (.string .empty), 1, 16) := by kernel_rfl
theorem infoType : (Tryd.prog.info? 78).map (fun i => (i.zero, i.size, i.bytes)) = some (some (.agg #[.string .empty, .slice none 0 0]), 2, 40) := by kernel_rfl
/-- What a cell holds (for a region that loads a cell and stores into it at its end). -/
def cellOr (w : World) (p : Addr) : Value := (w.cell? p).getD undef
theorem cellOr_of {w : World} {p : Addr} {v : Value} (h : w.cell? p = some v) : w.cell? p = some (cellOr w p) := by simp [cellOr, h]
theorem cellOr_eq {w : World} {p : Addr} {v : Value} (h : w.cell? p = some v) : cellOr w p = v := by simp [cellOr, h]
theorem frozen_alloc {w : World} {p : Addr} (hp : p.block < w.heap.size) (h : w.frozen? p = false) (o : Obj) : (w.alloc o).frozen? p = false := (World.frozen?_alloc_old w o p (Nat.ne_of_lt hp)).trans h
def strCells (f : Nat → ByteArray) (n : Nat) : List Value := (List.range n).map fun j => .string (f j)
def rowCells (nm : Nat → ByteArray) (sl : Nat → Value) (n : Nat) : List Value := (List.range n).flatMap fun j => [.string (nm j), sl j]
theorem strCells_succ (f : Nat → ByteArray) (n : Nat) : strCells f (n + 1) = strCells f n ++ [.string (f n)] := by simp [strCells, List.range_succ]
theorem rowCells_succ (nm : Nat → ByteArray) (sl : Nat → Value) (n : Nat) : rowCells nm sl (n + 1) = rowCells nm sl n ++ [.string (nm n), sl n] := by simp [rowCells, List.range_succ]
theorem rowCells_length (nm : Nat → ByteArray) (sl : Nat → Value) (n : Nat) : (rowCells nm sl n).length = n * 2 := by
  induction n with
  | zero => rfl
  | succ n ih => rw [rowCells_succ, List.length_append, ih]; simp; omega
theorem rowCells_congr {nm : Nat → ByteArray} {sl sl' : Nat → Value} {n : Nat} (h : ∀ j, j < n → sl j = sl' j) : rowCells nm sl n = rowCells nm sl' n := by
  induction n with
  | zero => rfl
  | succ n ih => rw [rowCells_succ, rowCells_succ, ih (fun j hj => h j (by omega)), h n (by omega)]
theorem strCells_at (f : Nat → ByteArray) {n j : Nat} (h : j < n) : (strCells f n)[j]? = some (.string (f j)) := by simp [strCells, h]
theorem rowCells_at (nm : Nat → ByteArray) (sl : Nat → Value) {n j : Nat} (h : j < n) : (rowCells nm sl n)[j * 2]? = some (.string (nm j)) ∧ (rowCells nm sl n)[j * 2 + 1]? = some (sl j) := by
  induction n with
  | zero => omega
  | succ n ih =>
    rw [rowCells_succ]
    have hl := rowCells_length nm sl n
    by_cases e : j = n
    · subst e
      rw [List.getElem?_append_right (by omega), List.getElem?_append_right (by omega), hl]
      constructor
      · rw [Nat.sub_self]; rfl
      · rw [show j * 2 + 1 - j * 2 = 1 by omega]; rfl
    · obtain ⟨h1, h2⟩ := ih (by omega)
      rw [List.getElem?_append_left (by omega), List.getElem?_append_left (by omega)]
      exact ⟨h1, h2⟩
/-- A list of types of the call's own. -/
def TypOwn (w : World) (B : Nat) (v : Value) (S : Sch) : Prop :=
  S.n * 40 ≤ 140737488351232 ∧ ∃ sl, w.ownsRow B 78 2 v S.n (rowCells S.nm sl S.n) ∧ (∀ j, j < S.n → S.ln j * 16 ≤ 140737488351232 ∧ w.ownsRow B 9 1 (sl j) (S.ln j) (strCells (S.atr j) (S.ln j))) ∧
    ∀ i j, i < j → j < S.n → (sl i).ownBlock = none ∨ (sl i).ownBlock ≠ (sl j).ownBlock
section
variable {w w' : World} {B base size n : Nat} {e : TypeId} {v : Value} {xs : List Value} {S : Sch}
theorem own_below (h : w.ownsRow B e size v n xs) (hb : Below w.heap.size w w') : w'.ownsRow B e size v n xs := by
  refine h.kept (row := none) ⟨hb.os, hb.tape, hb.output, hb.size, fun i hi _ => hb.block i hi⟩ ?_
  cases v.ownBlock <;> simp
theorem own_ne (h : w.ownsRow B e size v n xs) {x : Nat} (hx : x < B) : v.ownBlock ≠ some x := fun hv => by
  have := (h.lt x hv).1
  omega
theorem own_kept {row : Option Nat} (h : w.ownsRow B e size v n xs) (hg : w.grownBy w' row) (hne : ∀ g, row = some g → v.ownBlock ≠ some g) : w'.ownsRow B e size v n xs := by
  refine h.kept hg ?_
  cases hr : row with
  | none => cases v.ownBlock <;> simp
  | some g => right; exact hne g hr
theorem own_type_ne {e' : TypeId} {B' size' n' : Nat} {v' : Value} {xs' : List Value} (h : w.ownsRow B e size v n xs) (h' : w.ownsRow B' e' size' v' n' xs') (he : e ≠ e') {g : Nat} (hg : v.ownBlock = some g) : v'.ownBlock ≠ some g := by
  intro hg'
  obtain ⟨c, fz, h1⟩ := Lib.ownsRow_kind h g hg
  obtain ⟨c', fz', h2⟩ := Lib.ownsRow_kind h' g hg'
  rw [h1] at h2
  injection h2 with h2
  injection h2 with _ h2
  exact he h2
theorem own_far {g i : Nat} (h : w.ownsRow B e size v n xs) (hg : v.ownBlock ≠ some g) (u : Value) : (w.setCell ⟨g, i, none⟩ u).ownsRow B e size v n xs := by
  refine h.kept (row := some g) ⟨rfl, rfl, rfl, by simp, fun k _ hk => Below.heap_setCell w _ u k (fun e => hk (by rw [e]))⟩ (Or.inr hg)
theorem own_shape (h : w.ownsRow B e size v n xs) : ∃ A c, v = .slice A n c := by
  rcases ownsRow_forms h with ⟨rfl, rfl⟩ | ⟨g, cap, rfl⟩
  · exact ⟨none, 0, rfl⟩
  · exact ⟨_, _, rfl⟩
theorem own_str {A : Option Addr} {c : Nat} {f : Nat → ByteArray} (h : w.ownsRow B e 1 (.slice A n c) n (strCells f n)) (hn : n * 16 ≤ 140737488351232) : StrRd w w.heap.size A n f := by
  refine ⟨hn, fun h0 => ?_⟩
  obtain ⟨g, cap, hv, hB, hlt⟩ := h.form (by omega)
  injection hv with hA _ hc
  subst hA hc
  exact ⟨g, 0, rfl, hlt, fun j hj => by rw [Nat.zero_add, h.cellAt j (by omega), strCells_at f hj]⟩
theorem TypOwn.shape (h : TypOwn w B v S) : ∃ A c, v = .slice A S.n c := by
  obtain ⟨_, sl, h1, _⟩ := h
  exact own_shape h1
theorem TypOwn.rd {A : Option Addr} {c : Nat} (h : TypOwn w B (.slice A S.n c) S) : TypRd w w.heap.size A S := by
  obtain ⟨hn, sl, h1, h2, _⟩ := h
  refine ⟨hn, fun h0 => ?_⟩
  obtain ⟨g, cap, hv, hB, hlt⟩ := h1.form (by omega)
  injection hv with hA _ hc
  subst hA hc
  refine ⟨g, 0, rfl, hlt, fun j hj => ?_⟩
  obtain ⟨r1, r2⟩ := rowCells_at S.nm sl hj
  obtain ⟨hl, h3⟩ := h2 j hj
  obtain ⟨aa, ac, e⟩ := own_shape h3
  refine ⟨by rw [Nat.zero_add, h1.cellAt (j * 2) (by omega), r1], aa, ac, by rw [Nat.zero_add, h1.cellAt (j * 2 + 1) (by omega), r2, e], ?_⟩
  rw [e] at h3
  exact own_str h3 hl
theorem TypOwn.set_below (h : TypOwn w B v S) {p : Addr} (hp : p.block < B) (u : Value) : TypOwn (w.setCell p u) B v S := by
  obtain ⟨hn, sl, h1, h2, h3⟩ := h
  exact ⟨hn, sl, ownsRow_setCell_below h1 hp u, fun j hj => ⟨(h2 j hj).1, ownsRow_setCell_below (h2 j hj).2 hp u⟩, h3⟩
theorem TypOwn.mono {B' : Nat} (h : TypOwn w B v S) (hB : B' ≤ B) : TypOwn w B' v S := by
  obtain ⟨hn, sl, h1, h2, h3⟩ := h
  exact ⟨hn, sl, ownsRow_le h1 hB, fun j hj => ⟨(h2 j hj).1, ownsRow_le (h2 j hj).2 hB⟩, h3⟩
theorem own_one {A : Option Addr} {n c : Nat} : (Value.slice A n c).oneCell' = true := rfl
theorem own_oneCell (h : w.ownsRow B e size v n xs) : v.oneCell' = true := by
  obtain ⟨A, c, rfl⟩ := own_shape h
  rfl
/-- One type more. -/
theorem TypOwn.more {w w1 : World} {base g cap k : Nat} {ov tv : Value} {nm : Nat → ByteArray} {ln : Nat → Nat} {at_ : Nat → Nat → ByteArray} {sl : Nat → Value} {W1 : World} {n0 : Nat} {p : Addr} {u : Value}
    (hk : (k + 1) * 40 ≤ 140737488351232) (hln : ln k * 16 ≤ 140737488351232)
    (hrow : W1.ownsRow base 78 2 ov k (rowCells nm sl k)) (hattr : ∀ j, j < k → ln j * 16 ≤ 140737488351232 ∧ W1.ownsRow base 9 1 (sl j) (ln j) (strCells (at_ j) (ln j)))
    (hdist : ∀ i j, i < j → j < k → (sl i).ownBlock = none ∨ (sl i).ownBlock ≠ (sl j).ownBlock) (hb : Below W1.heap.size W1 w) (hn0 : W1.heap.size ≤ n0) (hbase : base ≤ n0)
    (ht : w.ownsRow n0 9 1 tv (ln k) (strCells (at_ k) (ln k))) (o : Obj)
    (hown : w1.ownsRow base 78 2 (.slice (some ⟨g, 0, none⟩) (k + 1) cap) (k + 1) (rowCells nm sl k ++ [.string (nm k), tv])) (hg : (w.alloc o).grownBy w1 ov.ownBlock) (hp : p.block < base) :
    TypOwn (w1.setCell p u) base (.slice (some ⟨g, 0, none⟩) (k + 1) cap) ⟨k + 1, nm, ln, at_⟩ := by
  have hrow2 : (w.alloc o).ownsRow base 78 2 ov k (rowCells nm sl k) := (own_below hrow hb).alloc o
  have keep : ∀ {B' : Nat} {v : Value} {n : Nat} {xs : List Value}, (w.alloc o).ownsRow B' 9 1 v n xs → w1.ownsRow B' 9 1 v n xs := fun h =>
    own_kept h hg (fun g hg => own_type_ne hrow2 h (by decide) hg)
  have ht1 : w1.ownsRow base 9 1 tv (ln k) (strCells (at_ k) (ln k)) := ownsRow_le (keep (ht.alloc o)) hbase
  refine ⟨hk, fun j => if j = k then tv else sl j, ?_, fun j hj => ?_, fun i j hij hj => ?_⟩
  · have e : rowCells nm (fun j => if j = k then tv else sl j) (k + 1) = rowCells nm sl k ++ [.string (nm k), tv] := by
      rw [rowCells_succ, if_pos rfl, rowCells_congr (sl' := sl) (fun j hj => if_neg (by omega))]
    show World.ownsRow _ base _ 2 _ (k + 1) (rowCells nm _ (k + 1))
    rw [e]
    exact ownsRow_setCell_below hown hp u
  · show ln j * 16 ≤ _ ∧ World.ownsRow _ base _ 1 (if j = k then tv else sl j) (ln j) (strCells (at_ j) (ln j))
    by_cases e : j = k
    · rw [if_pos e, e]
      exact ⟨hln, ownsRow_setCell_below ht1 hp u⟩
    · rw [if_neg e]
      have hj' : j < k := by have : j < k + 1 := hj; omega
      obtain ⟨h1, h2⟩ := hattr j hj'
      exact ⟨h1, ownsRow_setCell_below (keep ((own_below h2 hb).alloc o)) hp u⟩
  · have hj' : j < k + 1 := hj
    show (if i = k then tv else sl i).ownBlock = none ∨ (if i = k then tv else sl i).ownBlock ≠ (if j = k then tv else sl j).ownBlock
    rw [if_neg (by omega)]
    by_cases e : j = k
    · rw [if_pos e]
      cases hb1 : (sl i).ownBlock with
      | none => exact Or.inl rfl
      | some x =>
        right
        have h1 := ((hattr i (by omega)).2.lt x hb1).2
        intro h2
        have h3 := (ht.lt x h2.symm).1
        omega
    · rw [if_neg e]
      exact hdist i j hij (by omega)
theorem TypOwn.below (h : TypOwn w B v S) (hb : Below w.heap.size w w') : TypOwn w' B v S := by
  obtain ⟨hn, sl, h1, h2, h3⟩ := h
  exact ⟨hn, sl, own_below h1 hb, fun j hj => ⟨(h2 j hj).1, own_below (h2 j hj).2 hb⟩, h3⟩
end
end Go.Proofs.YtagcbljfaflhoaaDoor

/-! ### The walks of the reference's CheckSchema and of what it calls. -/
namespace Go.Proofs.YtagcbljfaflhoaaDoor
open Go.RowKit Go.ChangeShapes Go.WideShapes Go.ChangeAt
theorem refIn_any (A : Option Addr) (n cap : Nat) (f : Nat → ByteArray) (nm : ByteArray) (w : World) (h : StrRd w w.heap.size A n f) :
    Calls Tryd.prog 99 #[.slice A n cap, .string nm] w fun e w' => e = .returned (.bool (inB n f nm)) ∧ w' = w := by
  have hn := h.1
  have HT := Lib.hid h
  clear h
  go_enter Tryd.func99, Tryd.ntmps99
  go_wp2_with fail
  go_loop [5] (fun i => ∃ k : Nat, k ≤ n ∧ i = .int .i64 k ∧ Hid (∀ j, j < k → ((f j).toList == nm.toList) = false)) (fun i => n - (intOf i).toNat)
  case atStart => exact ⟨0, Nat.zero_le _, rfl, Lib.hid none_zero⟩
  case round =>
    obtain ⟨k, hk, rfl, HN⟩ := hrel
    by_cases hlt : k < n
    · obtain ⟨b, off, rfl, hbl, hcs⟩ := HT.out.2 (by omega)
      have c1 := hcs k hlt
      clear hcs
      cases hp : ((f k).toList == nm.toList)
      all_goals
        have HP := Lib.hid hp
        go_wp2_with fail
      · go_round
        case rel => exact ⟨k + 1, by omega, by go_num, Lib.hid (none_step (p := fun j => (f j).toList == nm.toList) HN.out HP.out)⟩
        case measure => simp [intOf]; omega
      · go_ret
        exact ⟨ret_bool (inB_hit hlt HP.out).symm, rfl⟩
    · go_wp2_with fail
      go_ret
      exact ⟨ret_bool (inB_none (fun j hj => HN.out j (by omega))).symm, rfl⟩
set_option maxRecDepth 100000 in
set_option maxHeartbeats 400000 in
theorem refCheckType_any (A : Option Addr) (cap : Nat) (S : Sch) (i : Nat) (w : World) (h : TypRd w w.heap.size A S) {tt : TypeId} {fr : Nat × Nat} (hkw : w.heap[0]? = some (.cells kwArr tt fr)) (hi : i < S.n) :
    Calls Tryd.prog 69 #[.agg #[.slice A S.n cap], .int .i64 i] w fun e w' => e = .returned (.int .i64 (typeErr S i)) ∧ Below w.heap.size w w' := by
  have hn := h.1
  obtain ⟨i0, hi0, hz0, hz1, hz2⟩ := info_parts infoStr
  obtain ⟨b, off, rfl, hbl, hcs⟩ := h.2 (by omega)
  obtain ⟨c1, aa, ac, c2, hsr⟩ := hcs i hi
  have hln := hsr.1
  have HS := Lib.hid hsr
  have HT := Lib.hid h
  have HC := Lib.hid hcs
  have HK := Lib.hid hkw
  have hb0 := bnew (Below.refl w.heap.size w) (.cells #[.slice (some ⟨b, off, none⟩) S.n cap] 34)
  have hb2 := bnew hb0 (.cells #[.string (S.nm i), .slice aa (S.ln i) ac] 78)
  have x0 : ((w.alloc (.cells #[.slice (some ⟨b, off, none⟩) S.n cap] 34)).alloc (.cells #[.string (S.nm i), .slice aa (S.ln i) ac] 78)).cell? ⟨w.heap.size, 0, none⟩ = some (.slice (some ⟨b, off, none⟩) S.n cap) := by simp [go_sem]
  have t0 : ((w.alloc (.cells #[.slice (some ⟨b, off, none⟩) S.n cap] 34)).alloc (.cells #[.string (S.nm i), .slice aa (S.ln i) ac] 78)).cell? ⟨w.heap.size + 1, 0, none⟩ = some (.string (S.nm i)) := by simp [go_sem]
  have t1 : ((w.alloc (.cells #[.slice (some ⟨b, off, none⟩) S.n cap] 34)).alloc (.cells #[.string (S.nm i), .slice aa (S.ln i) ac] 78)).cell? ⟨w.heap.size + 1, 1, none⟩ = some (.slice aa (S.ln i) ac) := by simp [go_sem]
  have hz2' : ((w.alloc (.cells #[.slice (some ⟨b, off, none⟩) S.n cap] 34)).alloc (.cells #[.string (S.nm i), .slice aa (S.ln i) ac] 78)).heap.size = w.heap.size + 2 := by simp
  have d1 := (hb0.cell (p := ⟨b, off + i * 2, none⟩) hbl).trans c1
  have d2 := (hb0.cell (p := ⟨b, off + i * 2 + 1, none⟩) hbl).trans c2
  clear hcs hsr h hkw c1 c2
  cases hq : nameB (S.nm i)
  · have HQ := Lib.hid hq
    clear hq
    go_enter Tryd.func69, Tryd.ntmps69
    go_wp2_with fail
    refine (refIsName_any (S.nm i) _ (block_below HK.out hb2)).mono ?_
    rintro e w5 ⟨rfl, rfl⟩
    rw [HQ.out]
    go_wp2_with fail
    go_ret
    exact ⟨ret_int (typeErr_name HQ.out).symm, hb2⟩
  · have HQ := Lib.hid hq
    clear hq
    go_enter Tryd.func69, Tryd.ntmps69
    go_wp2_with fail
    generalize ((w.alloc (.cells #[.slice (some ⟨b, off, none⟩) S.n cap] 34)).alloc (.cells #[.string (S.nm i), .slice aa (S.ln i) ac] 78)) = w2 at *
    refine (refIsName_any (S.nm i) _ (block_below HK.out hb2)).mono ?_
    rintro e w5 ⟨rfl, rfl⟩
    rw [HQ.out]
    clear d1 d2 hb0
    go_wp2_with fail
    go_loopw [6] (fun v wr => ∃ k : Nat, k ≤ i ∧ v = .int .i64 k ∧ Hid (∀ j, j < k → ((S.nm j).toList == (S.nm i).toList) = false) ∧ ∃ q, wr = w5.drewN q) (fun v _ => i - (intOf v).toNat)
    case atStart => exact ⟨0, Nat.zero_le _, rfl, Lib.hid none_zero, 0, rfl⟩
    case round =>
      obtain ⟨k, hk, rfl, HN, q, rfl⟩ := hrel
      by_cases hlt : k < i
      · obtain ⟨c1, _⟩ := HC.out k (by omega)
        have d1 := (hb2.cell (p := ⟨b, off + k * 2, none⟩) hbl).trans c1
        have hkn : (k : Int) < (S.n : Int) := by omega
        clear c1
        cases hp : ((S.nm k).toList == (S.nm i).toList)
        all_goals
          have HP := Lib.hid hp
          go_wp2_with fail
          go_quiet (fail)
          go_wp2_with fail
        · go_roundw
          case rel => exact ⟨k + 1, by omega, by go_num, Lib.hid (none_step (p := fun j => (S.nm j).toList == (S.nm i).toList) HN.out HP.out), _, rfl⟩
          case measure => simp [intOf]; omega
        · go_ret
          exact ⟨ret_int (typeErr_twice HQ.out (inB_hit hlt HP.out)).symm, bdrewN (bdrewN hb2 _) _⟩
      · have hw : twiceB S.nm i = false := inB_none (fun j hj => HN.out j (by omega))
        have HW := Lib.hid hw
        have hb3 := bdrewN hb2 q
        have y1 : (w5.drewN q).cell? ⟨w.heap.size + 1, 1, none⟩ = some (.slice aa (S.ln i) ac) := t1
        have hz3 : w.heap.size + 2 ≤ (w5.drewN q).heap.size := Nat.le_of_eq hz2'.symm
        clear hw t0 t1 x0 hz2' hb2
        generalize w5.drewN q = w6 at *
        by_cases h8 : 8 < S.ln i
        · go_wp2_with fail
          go_ret
          exact ⟨ret_int (typeErr_many HQ.out HW.out h8).symm, hb3⟩
        · have HE := Lib.hid (typeErr_rest HQ.out HW.out h8)
          go_wp2_with fail
          go_loopw [8, 7] (fun v hv wr => ∃ m : Nat, m ≤ S.ln i ∧ v = .int .i64 m ∧ Hid (∀ j, j < m → attrErr (S.atr i) j = 0) ∧ Below w.heap.size w wr ∧ w.heap.size + 2 ≤ wr.heap.size ∧ wr.cell? ⟨w.heap.size + 1, 1, none⟩ = some (.slice aa (S.ln i) ac) ∧ Hid (wr.ownsRow (w.heap.size + 2) 9 1 hv m (strCells (S.atr i) m))) (fun v _ _ => S.ln i - (intOf v).toNat)
          case atStart => exact ⟨0, Nat.zero_le _, rfl, Lib.hid (fun _ h => absurd h (Nat.not_lt_zero _)), hb3, by omega, y1, Lib.hid ⟨rfl, Or.inl ⟨rfl, rfl⟩⟩⟩
          case round =>
            clear hz3 y1 hb3
            obtain ⟨m, hm, rfl, HM, hb7, hz7, v7, HO⟩ := hrel
            obtain ⟨w7, e7⟩ : ∃ w7 : World, w7 = wr := ⟨_, rfl⟩
            subst e7
            obtain ⟨hA, hc, rfl⟩ := own_shape HO.out
            by_cases hlm : m < S.ln i
            · obtain ⟨b2, off2, rfl, hbl2, hcs2⟩ := HS.out.2 (by omega)
              have c3 := (hb7.cell (p := ⟨b2, off2 + m, none⟩) hbl2).trans (hcs2 m hlm)
              clear hcs2
              cases hq2 : nameB (S.atr i m)
              · have HQ2 := Lib.hid hq2
                have HE2 := Lib.hid (attrErr_name hq2)
                clear hq2
                go_wp2_with fail
                refine (refIsName_any (S.atr i m) _ (block_below HK.out hb7)).mono ?_
                rintro e w8 ⟨rfl, rfl⟩
                rw [HQ2.out]
                go_wp2_with fail
                go_ret
                exact ⟨ret_int (by rw [HE.out, firstNZ_hit hlm (by rw [HE2.out]; decide) HM.out, HE2.out]), hb7⟩
              · have HQ2 := Lib.hid hq2
                clear hq2
                cases hts : ((S.atr i m).toList == [116, 115])
                · have HTS := Lib.hid hts
                  cases hw2 : twiceB (S.atr i) m
                  · have HW2 := Lib.hid hw2
                    have HE2 := Lib.hid (attrErr_ok HQ2.out HTS.out hw2)
                    clear hw2
                    go_wp2_with fail
                    refine (refIsName_any (S.atr i m) _ (block_below HK.out hb7)).mono ?_
                    rintro e w8 ⟨rfl, rfl⟩
                    rw [HQ2.out]
                    go_wp2_with fail
                    refine (refIn_any hA m hc (S.atr i) (S.atr i m) _ (own_str HO.out (by omega))).mono ?_
                    rintro e w8 ⟨rfl, rfl⟩
                    rw [show inB m (S.atr i) (S.atr i m) = false from HW2.out]
                    go_wp2_with (at_builtin; go_loud (refine wpList_append_lies _ rfl _ _ _ rfl (w.heap.size + 2) 9 i0 _ 1 16 Tryd.underlying75 hi0 hz0 hz1 hz2 rfl (by omega) (.slice hA m hc) m (strCells (S.atr i) m) rfl (HO.out.alloc _) ⟨w8.heap.size, 0, none⟩ 1 1 [.string (S.atr i m)] rfl rfl (World.news_of_block (cs := #[.string (S.atr i m)]) (t := 9) (fr := (0, 0)) (heap_alloc_new w8 _)) (by simp [Value.oneCell']) (by omega) (by unfold maxLen; omega) (by omega) (by simp; omega) (w8.heap.size + 1) (by simp) ?_; intro gg gcap w9 hown9 hgrow hat hlt9))
                    have hb8 := bnew hb7 (.cells #[.string (S.atr i m)] 9)
                    have hz8 := hgrow.size
                    go_roundw
                    case rel =>
                      refine ⟨m + 1, by omega, by go_num, Lib.hid (fun j hj => ?_), hb8.grown hgrow hb8.size (fun x hx => by have := (HO.out.lt x hx).1; omega), by simp at hz8; omega, ?_, Lib.hid (by rw [strCells_succ]; exact hown9)⟩
                      · by_cases e : j = m
                        · rw [e]; exact HE2.out
                        · exact HM.out j (by omega)
                      · exact (hgrow.cell_far _ (by simp; omega) (Ne.symm (own_ne HO.out (by simp)))).trans (cell_alloc v7 _)
                    case measure => simp [intOf]; omega
                  · have HW2 := Lib.hid hw2
                    have HE2 := Lib.hid (attrErr_twice HQ2.out HTS.out hw2)
                    clear hw2
                    go_wp2_with fail
                    refine (refIsName_any (S.atr i m) _ (block_below HK.out hb7)).mono ?_
                    rintro e w8 ⟨rfl, rfl⟩
                    rw [HQ2.out]
                    go_wp2_with fail
                    refine (refIn_any hA m hc (S.atr i) (S.atr i m) _ (own_str HO.out (by omega))).mono ?_
                    rintro e w8 ⟨rfl, rfl⟩
                    rw [show inB m (S.atr i) (S.atr i m) = true from HW2.out]
                    go_wp2_with fail
                    go_ret
                    exact ⟨ret_int (by rw [HE.out, firstNZ_hit hlm (by rw [HE2.out]; decide) HM.out, HE2.out]), hb7⟩
                · have HE2 := Lib.hid (attrErr_ts HQ2.out hts)
                  go_wp2_with fail
                  refine (refIsName_any (S.atr i m) _ (block_below HK.out hb7)).mono ?_
                  rintro e w8 ⟨rfl, rfl⟩
                  rw [HQ2.out]
                  go_wp2_with fail
                  go_ret
                  exact ⟨ret_int (by rw [HE.out, firstNZ_hit hlm (by rw [HE2.out]; decide) HM.out, HE2.out]), hb7⟩
            · go_wp2_with fail
              go_ret
              exact ⟨ret_int (by rw [HE.out]; exact (firstNZ_zero fun j hj => HM.out j (by omega)).symm), hb7⟩
theorem refCheckSchema_any (A : Option Addr) (cap : Nat) (S : Sch) (w : World) (h : TypRd w w.heap.size A S) {tt : TypeId} {fr : Nat × Nat} (hkw : w.heap[0]? = some (.cells kwArr tt fr)) :
    Calls Tryd.prog 33 #[.agg #[.slice A S.n cap]] w fun e w' => e = .returned (.int .i64 (schErr S)) ∧ Below w.heap.size w w' := by
  have hn := h.1
  have hb0 := bnew (Below.refl w.heap.size w) (.cells #[.slice A S.n cap] 34)
  by_cases h0 : S.n = 0
  · have HR := Lib.hid (schErr_n (S := S) (Or.inl h0))
    have hz : (S.n : Int) < 1 := by omega
    clear h hkw h0
    go_enter Tryd.func33, Tryd.ntmps33
    go_wp2_with fail
    go_ret
    exact ⟨ret_int HR.out.symm, hb0⟩
  by_cases h1 : 16 < S.n
  · have HR := Lib.hid (schErr_n (S := S) (Or.inr h1))
    clear h hkw
    go_enter Tryd.func33, Tryd.ntmps33
    go_wp2_with fail
    go_ret
    exact ⟨ret_int HR.out.symm, hb0⟩
  have HR := Lib.hid (schErr_rest (S := S) (by omega) (by omega))
  have HT := Lib.hid h
  have HK := Lib.hid hkw
  have hpos : 0 < S.n := by omega
  clear h hkw h0
  go_enter Tryd.func33, Tryd.ntmps33
  go_wp2_with fail
  go_loopw [3] (fun i wr => ∃ k : Nat, k ≤ S.n ∧ i = .int .i64 k ∧ Hid (∀ j, j < k → typeErr S j = 0) ∧ Below w.heap.size w wr ∧ w.heap.size < wr.heap.size ∧ wr.cell? ⟨w.heap.size, 0, none⟩ = some (.slice A S.n cap)) (fun i _ => S.n - (intOf i).toNat)
  case atStart => exact ⟨0, Nat.zero_le _, rfl, Lib.hid (fun _ h => absurd h (Nat.not_lt_zero _)), hb0, by simp, by simp [go_sem]⟩
  case round =>
    obtain ⟨k, hk, rfl, HN, hb, hsz, hx⟩ := hrel
    by_cases hlt : k < S.n
    · go_wp2_with fail
      refine (refCheckType_any A cap S k _ (HT.out.later hb) (block_below HK.out hb) hlt).mono ?_
      rintro e w1 ⟨rfl, hb1⟩
      have hz1 := hb1.size
      have x1 := (hb1.cell (p := ⟨w.heap.size, 0, none⟩) hsz).trans hx
      by_cases he : typeErr S k = 0
      · have hz2 : (typeErr S k != 0) = false := by rw [he]; rfl
        have HE := Lib.hid he
        clear he
        go_wp2_with fail
        go_roundw
        case rel =>
          refine ⟨k + 1, by omega, by go_num, Lib.hid (fun j hj => ?_), bcall hb hb1, by omega, x1⟩
          by_cases e : j = k
          · rw [e]; exact HE.out
          · exact HN.out j (by omega)
        case measure => simp [intOf]; omega
      · have hz2 : (typeErr S k != 0) = true := by rw [bne_iff_ne]; exact he
        have HE := Lib.hid (firstNZ_hit hlt he HN.out)
        clear he
        go_wp2_with fail
        go_ret
        exact ⟨ret_int (by rw [HR.out, HE.out]), bcall hb hb1⟩
    · go_wp2_with fail
      go_ret
      exact ⟨ret_int (by rw [HR.out]; exact (firstNZ_zero fun j hj => HN.out j (by omega)).symm), hb⟩
end Go.Proofs.YtagcbljfaflhoaaDoor

/-! ### What the first finding tells is the flaw (plain); the walk of sluiceref6.Check. -/
namespace Go.Proofs.YtagcbljfaflhoaaDoor
open Go.RowKit Go.ChangeShapes Go.WideShapes Go.ChangeAt Go.Deep Go.Joins
theorem ahead_irr (x : Fnd) : aheadB x x = false := ahead_rank rfl rfl rfl (Int.le_refl _)
theorem ahead_less {x n y : Fnd} (h : aheadB y x = false) (hn : aheadB n x = true) : aheadB y n = false := by
  unfold aheadB at *
  by_cases e1 : y.rule = x.rule
  · rw [if_neg (by simp [e1])] at h
    by_cases f1 : n.rule = x.rule
    · rw [if_neg (by simp [f1])] at hn
      rw [if_neg (by simp [e1, f1])]
      by_cases e2 : y.index = x.index
      · rw [if_neg (by simp [e2])] at h
        by_cases f2 : n.index = x.index
        · rw [if_neg (by simp [f2])] at hn
          rw [if_neg (by simp [e2, f2])]
          by_cases e3 : y.sub = x.sub
          · rw [if_neg (by simp [e3])] at h
            have h := of_decide_eq_false h
            by_cases f3 : n.sub = x.sub
            · rw [if_neg (by simp [f3])] at hn
              have hn := of_decide_eq_true hn
              rw [if_neg (by simp [e3, f3])]
              exact decide_eq_false (by omega)
            · rw [if_pos f3] at hn
              have hn := of_decide_eq_true hn
              rw [if_pos (by omega)]
              exact decide_eq_false (by omega)
          · rw [if_pos e3] at h
            have h := of_decide_eq_false h
            by_cases f3 : n.sub = x.sub
            · rw [if_pos (by omega)]
              exact decide_eq_false (by omega)
            · rw [if_pos f3] at hn
              have hn := of_decide_eq_true hn
              rw [if_pos (by omega)]
              exact decide_eq_false (by omega)
        · rw [if_pos f2] at hn
          have hn := of_decide_eq_true hn
          rw [if_pos (by omega)]
          exact decide_eq_false (by omega)
      · rw [if_pos e2] at h
        have h := of_decide_eq_false h
        by_cases f2 : n.index = x.index
        · rw [if_pos (by omega)]
          exact decide_eq_false (by omega)
        · rw [if_pos f2] at hn
          have hn := of_decide_eq_true hn
          rw [if_pos (by omega)]
          exact decide_eq_false (by omega)
    · rw [if_pos f1] at hn
      have hn := of_decide_eq_true hn
      rw [if_pos (by omega)]
      exact decide_eq_false (by omega)
  · rw [if_pos e1] at h
    have h := of_decide_eq_false h
    by_cases f1 : n.rule = x.rule
    · rw [if_pos (by omega)]
      exact decide_eq_false (by omega)
    · rw [if_pos f1] at hn
      have hn := of_decide_eq_true hn
      rw [if_pos (by omega)]
      exact decide_eq_false (by omega)
theorem least_flw {M : Fnd → Prop} {F : Flw} (hl : if F.code = 0 then ∀ x, ¬ M x else ∃ x, Least M x ∧ x.flw = F) (hkey : ∀ x y, M x → M y → x.rule = y.rule → x.index = y.index → x.sub = y.sub → x.rank = y.rank → x.flw = y.flw) {x : Fnd} (hx : Least M x) : F.code ≠ 0 ∧ x.flw = F := by
  by_cases h0 : F.code = 0
  · rw [if_pos h0] at hl
    exact absurd hx.1 (hl x)
  · rw [if_neg h0] at hl
    obtain ⟨x', h', e⟩ := hl
    obtain ⟨k1, k2, k3, k4⟩ := ahead_key (hx.2 x' h'.1) (h'.2 x hx.1)
    exact ⟨h0, by rw [← e]; exact (hkey x' x h'.1 hx.1 k1 k2 k3 k4).symm⟩
theorem least_none {M : Fnd → Prop} {F : Flw} (hl : if F.code = 0 then ∀ x, ¬ M x else ∃ x, Least M x ∧ x.flw = F) (hx : ∀ x, ¬ M x) : F.code = 0 := by
  by_cases h0 : F.code = 0
  · exact h0
  · rw [if_neg h0] at hl
    obtain ⟨x', h', _⟩ := hl
    exact absurd h'.1 (hx x')
section
variable {S : Sch} {Q : Qry}
theorem mwhere_rule {x : Fnd} (h : mWhere S Q x) : x.rule ≤ 8 := by
  rcases h with ⟨i, r, _, _, _, _, rfl⟩ | ⟨_, _, rfl⟩ | ⟨root, _, _, rfl⟩ <;> (dsimp only; omega)
theorem mrest_rule {x : Fnd} (h : mRest S Q x) : 9 ≤ x.rule := by
  rcases h with ⟨_, rfl⟩ | ⟨_, _, rfl⟩ | ⟨_, rfl⟩ | ⟨k, i, r, _, _, _, _, _, rfl⟩ | ⟨k, _, _, rfl⟩ <;> (dsimp only; omega)
def tailF (S : Sch) (Q : Qry) : Flw := if (whereF S Q).code ≠ 0 then whereF S Q else restF S Q
theorem tail_least (hn : 0 < Q.n) (hw : Q.wn ≠ 0 → treeB Q.wn Q.wh = true) (ht : ∀ k, k < Q.m → treeB (Q.ln k) (Q.rt k) = true) : if (tailF S Q).code = 0 then ∀ x, ¬ (mWhere S Q x ∨ mRest S Q x) else ∃ x, Least (fun x => mWhere S Q x ∨ mRest S Q x) x ∧ x.flw = tailF S Q := by
  have h1 := where_least (S := S) hw
  have h2 := rest_least (S := S) hn ht
  by_cases h0 : (whereF S Q).code = 0
  · rw [if_pos h0] at h1
    have e : tailF S Q = restF S Q := by rw [tailF, if_neg (by simp [h0])]
    rw [e]
    by_cases h3 : (restF S Q).code = 0
    · rw [if_pos h3] at h2 ⊢
      rintro x (h | h)
      · exact h1 x h
      · exact h2 x h
    · rw [if_neg h3] at h2 ⊢
      obtain ⟨x, ⟨hx, hm⟩, hf⟩ := h2
      refine ⟨x, ⟨.inr hx, ?_⟩, hf⟩
      rintro y (h | h)
      · exact absurd h (h1 y)
      · exact hm y h
  · rw [if_neg h0] at h1
    have e : tailF S Q = whereF S Q := by rw [tailF, if_pos h0]
    rw [e, if_neg h0]
    obtain ⟨x, ⟨hx, hm⟩, hf⟩ := h1
    refine ⟨x, ⟨.inl hx, ?_⟩, hf⟩
    rintro y (h | h)
    · exact hm y h
    · have a := mwhere_rule hx
      have b := mrest_rule h
      exact ahead_rule (by omega)
theorem restF_zero (h : (restF S Q).code = 0) : restF S Q = ⟨0, 0, 0, 0⟩ := by
  have h' := restF_ok.1 h
  have e : restF S Q = retF S Q := by
    rw [restF, if_neg (by omega), if_neg]
    rcases h'.2.1 with h1 | h1 <;> simp [h1]
  rw [e]
  exact retF_end (by omega) (fun k hk => by rw [bne_eq_false_iff_eq]; exact h'.2.2.2 k hk)
/-- What a list of findings tells: its first one is the flaw; none, no flaw. -/
def FinalOf (S : Sch) (Q : Qry) (L : List Fnd) : Prop := (L = [] → checkF S Q = ⟨0, 0, 0, 0⟩) ∧ ∀ x, x ∈ L → (∀ y, y ∈ L → aheadB y x = false) → checkF S Q = x.flw
theorem fin_items {L : List Fnd} (hs : schErr S = 0) (hq : shapedB Q = true) (hM : Holds L (mItems S Q)) (hne : L ≠ []) : FinalOf S Q L := by
  refine ⟨fun h => absurd h hne, fun x hx hm => ?_⟩
  obtain ⟨h1, h2⟩ := least_flw items_least (fun x y hx hy h1 h2 _ h4 => items_key hx hy h1 h2 h4) (x := x) ⟨(hM x).1 hx, fun y hy => hm y ((hM y).2 hy)⟩
  rw [checkF, if_neg (by simp [hs]), if_neg (by simp [hq]), if_pos h1, h2]
theorem fin_rest {L1 L2 L3 : List Fnd} (hs : schErr S = 0) (hq : shapedB Q = true) (h1 : Holds L1 (mItems S Q)) (he : L1 = []) (h2 : Holds L2 (mWhere S Q)) (h3 : Holds L3 (mRest S Q)) : FinalOf S Q (L2 ++ L3) := by
  have hn : 0 < Q.n := by
    simp only [shapedB, Bool.and_eq_true, decide_eq_true_eq] at hq
    exact hq.1.1.1.1.1.1.1
  have i0 : (itemsF S Q).code = 0 := least_none items_least fun x hx => by
    have := (h1 x).2 hx
    rw [he] at this
    cases this
  have ec : checkF S Q = tailF S Q := by rw [checkF, if_neg (by simp [hs]), if_neg (by simp [hq]), if_neg (by simp [i0])]; rfl
  have hl := tail_least (S := S) hn (shaped_where hq) (shaped_ret hq)
  have hM : ∀ x, x ∈ L2 ++ L3 ↔ (mWhere S Q x ∨ mRest S Q x) := fun x => by rw [List.mem_append, h2 x, h3 x]
  refine ⟨fun h => ?_, fun x hx hm => ?_⟩
  · have t0 : (tailF S Q).code = 0 := least_none hl fun x hx => by
      have := (hM x).2 hx
      rw [h] at this
      cases this
    rw [ec]
    unfold tailF at t0 ⊢
    by_cases hw : (whereF S Q).code = 0
    · rw [if_neg (by simp [hw])] at t0 ⊢
      exact restF_zero t0
    · rw [if_pos hw] at t0
      exact absurd t0 hw
  · obtain ⟨_, e⟩ := least_flw hl (fun x y hx hy h1 h2 h3 h4 => both_key hx hy h1 h2 h3 h4) (x := x) ⟨(hM x).1 hx, fun y hy => hm y ((hM y).2 hy)⟩
    rw [ec, e]
end
/-! ### Rows of findings -/
theorem FndOwn.rd {w : World} {B : Nat} {A : Option Addr} {c : Nat} {L : List Fnd} (h : FndOwn w B (.slice A L.length c) L) (hn : L.length ≤ 2199023255560) : RowRd w w.heap.size A L.length 6 48 (fndC L) := rowown_rd h (by omega)
theorem fnd_append (L L3 : List Fnd) : flat (fndC L) 6 L.length ++ flat (fndC L3) 6 L3.length = flat (fndC (L ++ L3)) 6 (L.length + L3.length) := by
  apply flat_ext
  · rw [List.length_append, flat_length, flat_length, Nat.add_mul]
  · intro j hj i hi
    by_cases h : j < L.length
    · have h2 : j * 6 + i < L.length * 6 := by omega
      rw [List.getElem?_append_left (by rw [flat_length]; exact h2), flat_at _ h hi]
      show some (fndCell (L.getD j fnd0) i) = some (fndCell ((L ++ L3).getD j fnd0) i)
      rw [List.getD_eq_getElem?_getD, List.getD_eq_getElem?_getD, List.getElem?_append_left h]
    · have h2 : L.length * 6 ≤ j * 6 + i := by omega
      rw [List.getElem?_append_right (by rw [flat_length]; exact h2), flat_length]
      have e : j * 6 + i - L.length * 6 = (j - L.length) * 6 + i := by omega
      rw [e, flat_at _ (by omega) hi]
      show some (fndCell (L3.getD (j - L.length) fnd0) i) = some (fndCell ((L ++ L3).getD j fnd0) i)
      rw [List.getD_eq_getElem?_getD, List.getD_eq_getElem?_getD, List.getElem?_append_right (by omega)]
theorem fndCell_one (x : Fnd) (i : Nat) : (fndCell x i).oneCell' = true := by
  unfold fndCell
  split <;> rfl
set_option maxRecDepth 20000 in
theorem wpList_append_fnd (w : World) {ops : Array Oper} {rest : List Oper} {o : Oper} {a : Act} {K : Exit → Act → World → Prop} (hgd : o.guard = none) (s x : Operand) (t : TypeId)
    (ho : o.op = .call { callee := .builtin .append, args := #[s, x], argTypes := #[t, t] }) (ht : Tryd.prog.underlying t = some (.slice 89)) (base : Nat) (v : Value) (L L3 : List Fnd) (hs : a.eval s = v) (hown : FndOwn w base v L)
    (A3 : Option Addr) (c3 B : Nat) (hx : a.eval x = .slice A3 L3.length c3) (hl : L3.length ≤ c3) (hA : A3 = none → c3 = 0) (hR : RowRd w B A3 L3.length 6 48 (fndC L3)) (hlen : (L.length + L3.length) * 48 ≤ 140737488355328) (hbase : base ≤ w.heap.size)
    (h : ∀ v' w', FndOwn w' base v' (L ++ L3) → w.grownBy w' v.ownBlock → wpList Tryd.prog ops K rest (a.put o.dst v') w') : wpList Tryd.prog ops K (o :: rest) a w := by
  obtain ⟨i1, hi1, hy0, hy1, hy2⟩ := info_parts infoFnd
  cases A3 with
  | none =>
    obtain rfl : c3 = 0 := hA rfl
    have h0 : L3.length = 0 := by omega
    have e : L3 = [] := List.eq_nil_of_length_eq_zero h0
    subst e
    refine wpList_append_own_none hgd s x t ho base 89 i1 6 ht hi1 v L.length _ hs hown hx (h v w (by rw [List.append_nil]; exact hown) ?_)
    exact ⟨rfl, rfl, rfl, Nat.le_refl _, fun _ _ _ => rfl⟩
  | some ad =>
    refine wpList_append_own w hgd s x t ho base 89 i1 _ 6 48 ht hi1 hy0 hy1 hy2 rfl (by omega) v L.length _ hs hown ad L3.length c3 (flat (fndC L3) 6 L3.length) hx (flat_length _ _ _) ?_ ?_ (by unfold maxLen; omega) hlen hbase fun v' w' hown' hg _ => ?_
    · intro k u hk
      have hk' : k < L3.length * 6 := by
        have := (List.getElem?_eq_some_iff.1 hk).1
        rwa [flat_length] at this
      have hn : L3.length ≠ 0 := by intro e; omega
      obtain ⟨b, off, e1, _, hc⟩ := hR.2 hn
      injection e1 with e1
      subst e1
      have h1 : k / 6 < L3.length := by omega
      have h2 : k % 6 < 6 := by omega
      have e : k = k / 6 * 6 + k % 6 := by omega
      rw [e, flat_at (fndC L3) h1 h2] at hk
      injection hk with hk
      rw [rd_add, e, hc _ h1 _ h2, hk]
    · intro u hu
      obtain ⟨k, _, rfl⟩ := List.mem_map.1 hu
      exact fndCell_one _ _
    · refine h v' w' ?_ hg
      rw [fnd_append] at hown'
      unfold FndOwn
      rw [List.length_append]
      exact hown'
/-- The cells of a finding in a row, as a walk comes to them. -/
theorem fnd_spot {w : World} {B : Nat} {A : Option Addr} {L : List Fnd} (h : RowRd w B A L.length 6 48 (fndC L)) (hn : 0 < L.length) : ∃ b off, A = some ⟨b, off, none⟩ ∧ b < B ∧ ∀ j, j < L.length → ∀ x, L.getD j fnd0 = x →
    w.cell? ⟨b, off + j * 6, none⟩ = some (.int .i64 x.rule) ∧ w.cell? ⟨b, off + j * 6 + 1, none⟩ = some (.int .i64 x.rank) ∧ w.cell? ⟨b, off + j * 6 + 2, none⟩ = some (.int .i64 x.code) ∧
    w.cell? ⟨b, off + j * 6 + 3, none⟩ = some (.int .i64 x.part) ∧ w.cell? ⟨b, off + j * 6 + 4, none⟩ = some (.int .i64 x.index) ∧ w.cell? ⟨b, off + j * 6 + 5, none⟩ = some (.int .i64 x.sub) := by
  obtain ⟨b, off, e, hb, h1, h2⟩ := RowRd.spot h hn
  refine ⟨b, off, e, hb, fun j hj x hx => ?_⟩
  subst hx
  exact ⟨h2 j hj (by omega), h1 j hj 1 (by omega), h1 j hj 2 (by omega), h1 j hj 3 (by omega), h1 j hj 4 (by omega), h1 j hj 5 (by omega)⟩
theorem getD_mem_fnd {L : List Fnd} {j : Nat} (h : j < L.length) : L.getD j fnd0 ∈ L := by
  rw [List.getD_eq_getElem?_getD, List.getElem?_eq_getElem h]
  exact List.getElem_mem h
theorem mem_getD_fnd {L : List Fnd} {x : Fnd} (h : x ∈ L) : ∃ j, j < L.length ∧ L.getD j fnd0 = x := by
  obtain ⟨j, hj, e⟩ := List.getElem_of_mem h
  exact ⟨j, hj, by rw [List.getD_eq_getElem?_getD, List.getElem?_eq_getElem hj]; exact e⟩
theorem bcall' {B : Nat} {w0 w1 w2 : World} (h : Below B w0 w1) (h1 : Below w1.heap.size w1 w2) (hB : B ≤ w1.heap.size := by omega) : Below B w0 w2 := h.trans (h1.mono hB)
/-- The best of the first k. -/
def BestOf (L : List Fnd) (k : Nat) (x : Fnd) : Prop := x ∈ L ∧ ∀ j, j < k → aheadB (L.getD j fnd0) x = false
theorem best_stay {L : List Fnd} {k : Nat} {x y : Fnd} (h : BestOf L k x) (hy : L.getD k fnd0 = y) (hn : aheadB y x = false) : BestOf L (k + 1) x :=
  ⟨h.1, fun j hj => by
    by_cases e : j = k
    · rw [e, hy]; exact hn
    · exact h.2 j (by omega)⟩
theorem best_new {L : List Fnd} {k : Nat} {x y : Fnd} (h : BestOf L k x) (hk : k < L.length) (hy : L.getD k fnd0 = y) (hn : aheadB y x = true) : BestOf L (k + 1) y :=
  ⟨by rw [← hy]; exact getD_mem_fnd hk, fun j hj => by
    by_cases e : j = k
    · rw [e, hy]; exact ahead_irr _
    · exact ahead_less (h.2 j (by omega)) hn⟩
theorem best_end {S : Sch} {Q : Qry} {L : List Fnd} {x : Fnd} (h : BestOf L L.length x) (hf : FinalOf S Q L) : checkF S Q = x.flw :=
  hf.2 x h.1 fun y hy => by
    obtain ⟨j, hj, e⟩ := mem_getD_fnd hy
    rw [← e]
    exact h.2 j hj
set_option maxRecDepth 100000 in
set_option maxHeartbeats 16000000 in
theorem refCheck_any (A : Option Addr) (cap : Nat) (S : Sch) (V : QryV) (Q : Qry) (w : World) (hS : TypRd w w.heap.size A S) (h : QryRd w w.heap.size V Q) (hqn : Q.n ≤ 1048576) (hwn : Q.wn ≤ 1048576) (hqm : Q.m ≤ 1048576) (hsl : sumN Q.ln Q.m ≤ 1048576) (hsi : sumN (gI Q) Q.n ≤ 2199023255552) {tt : TypeId} {fr : Nat × Nat} (hkw : w.heap[0]? = some (.cells kwArr tt fr)) :
    Calls Tryd.prog 27 #[.agg #[.slice A S.n cap], .agg (qryArr V Q)] w fun e w' => e = .returned (.agg (flwArr (checkF S Q))) ∧ Below w.heap.size w w' := by
  obtain ⟨aI, cI, aW, cW, aR, cR⟩ := V
  show Calls _ _ #[.agg #[.slice A S.n cap], .agg #[.slice aI Q.n cI, .int .i64 Q.mode, .int .i64 Q.after, .slice aW Q.wn cW, .int .i64 Q.within, .string Q.by_, .slice aR Q.m cR]] w _
  have hb0 := bnew (bnew (bnew (Below.refl w.heap.size w) (.cells #[.slice A S.n cap] 34)) (.cells #[.slice aI Q.n cI, .int .i64 Q.mode, .int .i64 Q.after, .slice aW Q.wn cW, .int .i64 Q.within, .string Q.by_, .slice aR Q.m cR] 40)) (.cells #[.int .i64 0, .int .i64 0, .int .i64 0, .int .i64 0] 47)
  have s0 := blk_alloc (blk_alloc (blk_new w #[.slice A S.n cap] 34) (.cells #[.slice aI Q.n cI, .int .i64 Q.mode, .int .i64 Q.after, .slice aW Q.wn cW, .int .i64 Q.within, .string Q.by_, .slice aR Q.m cR] 40)) (.cells #[.int .i64 0, .int .i64 0, .int .i64 0, .int .i64 0] 47)
  have q0 := blk_alloc (blk_new (w.alloc (.cells #[.slice A S.n cap] 34)) #[.slice aI Q.n cI, .int .i64 Q.mode, .int .i64 Q.after, .slice aW Q.wn cW, .int .i64 Q.within, .string Q.by_, .slice aR Q.m cR] 40) (.cells #[.int .i64 0, .int .i64 0, .int .i64 0, .int .i64 0] 47)
  have r0 := blk_new ((w.alloc (.cells #[.slice A S.n cap] 34)).alloc (.cells #[.slice aI Q.n cI, .int .i64 Q.mode, .int .i64 Q.after, .slice aW Q.wn cW, .int .i64 Q.within, .string Q.by_, .slice aR Q.m cR] 40)) #[.int .i64 0, .int .i64 0, .int .i64 0, .int .i64 0] 47
  rw [World.size_alloc] at q0
  rw [World.size_alloc, World.size_alloc] at r0
  have S0 := Lib.hid s0
  have Q0 := Lib.hid q0
  have R0 := Lib.hid r0
  have HS := Lib.hid (hS.later hb0)
  have HQ := Lib.hid (h.later hb0)
  have HK := Lib.hid (block_below hkw hb0)
  have HSL := Lib.hid hsl
  have HSI := Lib.hid hsi
  clear hS h s0 q0 r0 hkw hsl hsi
  go_enter Tryd.func27, Tryd.ntmps27
  go_upto_region 1 with fail
  generalize ((w.alloc _).alloc _).alloc _ = w0 at *
  have hzw0 : w.heap.size ≤ w0.heap.size := hb0.size
  have x0 := blk_cell S0.out (j := 0) rfl
  go_wp2_with fail
  refine (refCheckSchema_any A cap S _ HS.out HK.out).mono ?_
  rintro e w1 ⟨rfl, hb1⟩
  have S1 := Lib.hid (blk_below S0.out hb1)
  have Q1 := Lib.hid (blk_below Q0.out hb1)
  have R1 := Lib.hid (blk_below R0.out hb1)
  obtain ⟨se, hse⟩ : ∃ se, schErr S = se := ⟨_, rfl⟩
  have HSE := Lib.hid hse
  rw [hse]
  clear hse x0
  by_cases hs0 : se = 0
  rotate_left 1
  · have hs1 : (se != 0) = true := by rw [bne_iff_ne]; exact hs0
    have HF := Lib.hid (show flwArr (checkF S Q) = #[.int .i64 se, .int .i64 0, .int .i64 0, .int .i64 0] by rw [checkF, HSE.out, if_pos hs0]; rfl)
    go_wp2_with (refine wpList_store_row rfl 47 _ _ rfl (w.heap.size + 2) #[.int .i64 se, .int .i64 0, .int .i64 0, .int .i64 0] rfl rfl 47 _ R1.out (by kernel_rfl) rfl (by simp [Value.oneCell']) ?_)
    (try simp only [Exit.inBlock, Exit.then])
    have BF := Lib.hid (row_set R1.out #[.int .i64 se, .int .i64 0, .int .i64 0, .int .i64 0])
    have hbf := below_setRow (cs := #[.int .i64 se, .int .i64 0, .int .i64 0, .int .i64 0]) (bcall hb0 hb1) (show w.heap.size ≤ w.heap.size + 2 by omega)
    generalize World.setRow _ _ _ = wf at *
    refine bodyPost_ret (v := .agg #[.int .i64 se, .int .i64 0, .int .i64 0, .int .i64 0]) ?_ rfl ?_
    · exact results_cell_row Tryd.results27 _ _ (w.heap.size + 2) 47 _ (0, 0) _ rfl BF.out Tryd.underlying47 rfl (by kernel_rfl)
    · exact ⟨by rw [HF.out], hbf⟩
  subst hs0
  obtain ⟨y0, y1, y2, y3, y4, y5, y6⟩ := blk7 Q1.out
  go_wp2_with fail
  refine (shaped5_any ⟨aI, cI, aW, cW, aR, cR⟩ Q _ (HQ.out.later hb1) (block_below HK.out hb1)).mono ?_
  rintro e w2 ⟨rfl, hb2⟩
  have hb2' := bcall hb1 hb2
  have S2 := Lib.hid (blk_below S1.out hb2)
  have Q2 := Lib.hid (blk_below Q1.out hb2)
  have R2 := Lib.hid (blk_below R1.out hb2)
  clear y0 y1 y2 y3 y4 y5 y6
  cases hsh : shapedB Q
  · have HF := Lib.hid (show flwArr (checkF S Q) = #[.int .i64 50, .int .i64 0, .int .i64 0, .int .i64 0] by rw [checkF, HSE.out, if_neg (by simp), if_pos hsh]; rfl)
    go_wp2_with (refine wpList_store_row rfl 47 _ _ rfl (w.heap.size + 2) #[.int .i64 50, .int .i64 0, .int .i64 0, .int .i64 0] rfl rfl 47 _ R2.out (by kernel_rfl) rfl (by simp [Value.oneCell']) ?_)
    (try simp only [Exit.inBlock, Exit.then])
    have BF := Lib.hid (row_set R2.out #[.int .i64 50, .int .i64 0, .int .i64 0, .int .i64 0])
    have hbf := below_setRow (cs := #[.int .i64 50, .int .i64 0, .int .i64 0, .int .i64 0]) (bcall hb0 hb2') (show w.heap.size ≤ w.heap.size + 2 by omega)
    generalize World.setRow _ _ _ = wf at *
    refine bodyPost_ret (v := .agg #[.int .i64 50, .int .i64 0, .int .i64 0, .int .i64 0]) ?_ rfl ?_
    · exact results_cell_row Tryd.results27 _ _ (w.heap.size + 2) 47 _ (0, 0) _ rfl BF.out Tryd.underlying47 rfl (by kernel_rfl)
    · exact ⟨by rw [HF.out], hbf⟩
  have HSH := Lib.hid hsh
  clear hsh
  have u0 := blk_cell S2.out (j := 0) rfl
  obtain ⟨y0, y1, y2, y3, y4, y5, y6⟩ := blk7 Q2.out
  go_wp2_with fail
  refine (ofItems_any A cap S ⟨aI, cI, aW, cW, aR, cR⟩ Q _ (HS.out.later hb2') (HQ.out.later hb2') HSI.out).mono ?_
  rintro e w3 ⟨v1, L1, rfl, hb3, hown1, hm1, hl1⟩
  obtain ⟨A1, c1, rfl, _⟩ := rowown_shape hown1
  have hb3' := bcall hb2' hb3
  have HM1 := Lib.hid hm1
  have HR1 := Lib.hid (FndOwn.rd hown1 hl1)
  have S3 := Lib.hid (blk_below S2.out hb3)
  have Q3 := Lib.hid (blk_below Q2.out hb3)
  clear u0 y0 y1 y2 y3 y4 y5 y6 hm1 hown1
  have hz1 : (L1.length : Int) ≤ 2199023255560 := by omega
  go_upto_if 29 with fail
  go_cut [7] from 27 to 38 (fun v wx => ∃ (A4 : Option Addr) (c4 : Nat) (L : List Fnd), v = .slice A4 L.length c4 ∧ L.length ≤ 2199040032776 ∧ Hid (RowRd wx wx.heap.size A4 L.length 6 48 (fndC L)) ∧ Hid (FinalOf S Q L) ∧ Below w0.heap.size w0 wx)
  case first =>
    by_cases h0 : L1.length = 0
    · have h0' : ((L1.length : Int) == 0) = true := by rw [beq_iff_eq]; omega
      have HE1 := Lib.hid (show L1 = [] from List.eq_nil_of_length_eq_zero h0)
      clear h0
      have u0 := blk_cell S3.out (j := 0) rfl
      obtain ⟨y0, y1, y2, y3, y4, y5, y6⟩ := blk7 Q3.out
      have HW := Lib.hid (shaped_where HSH.out)
      have HT := Lib.hid (shaped_ret HSH.out)
      go_wp2_with fail
      refine (ofWhere_any A cap S ⟨aI, cI, aW, cW, aR, cR⟩ Q _ (HS.out.later hb3') (HQ.out.later hb3') HW.out hwn (block_below HK.out hb3')).mono ?_
      rintro e w4 ⟨v2, L2, rfl, hb4, hown2, hm2, hl2⟩
      have hb4' := bcall hb3' hb4
      have HM2 := Lib.hid hm2
      have HO2 := Lib.hid hown2
      clear u0 y0 y1 y2 y3 y4 y5 y6 hm2 hown2
      have u0 := blk_cell (blk_below S3.out hb4) (j := 0) rfl
      obtain ⟨y0, y1, y2, y3, y4, y5, y6⟩ := blk7 (blk_below Q3.out hb4)
      go_wp2_with fail
      refine (ofRest_any A cap S ⟨aI, cI, aW, cW, aR, cR⟩ Q _ (HS.out.later hb4') (HQ.out.later hb4') HT.out hqn hqm HSL.out).mono ?_
      rintro e w5 ⟨v3, L3, rfl, hb5, hown3, hm3, hl3⟩
      obtain ⟨A3, c3, rfl, hlc3, hz3⟩ := rowown_shape hown3
      have hb5' := bcall hb4' hb5
      have HM3 := Lib.hid hm3
      have HO5 := Lib.hid (FndOwn.below HO2.out hb5)
      have HR3 := Lib.hid (FndOwn.rd hown3 (by omega))
      have HZ3 := Lib.hid hz3
      have hzz := hb3'.size
      have hzz2 := hb4.size
      have hzz3 := hb5.size
      clear u0 y0 y1 y2 y3 y4 y5 y6 hm3 hown3 hz3
      go_wp2_with (at_builtin; go_loud (refine wpList_append_fnd _ rfl _ _ _ rfl Tryd.underlying86 w3.heap.size v2 L2 L3 rfl HO5.out A3 c3 _ rfl hlc3 HZ3.out HR3.out (by omega) (by omega) ?_; intro v4 w6 hown4 hgrow))
      obtain ⟨A4, c4, rfl, _⟩ := rowown_shape hown4
      have hb6 := below_grown hb5' hgrow (by omega) (fun x hx => by have := (HO5.out.lt x hx).1; omega)
      have hll : (L2 ++ L3).length ≤ 2199040032776 := by rw [List.length_append]; omega
      go_meet
      exact ⟨A4, c4, L2 ++ L3, rfl, hll, Lib.hid (rowown_rd hown4 (by omega)), Lib.hid (fin_rest HSE.out HSH.out HM1.out HE1.out HM2.out HM3.out), hb6⟩
    · have h0' : ((L1.length : Int) == 0) = false := by rw [beq_eq_false_iff_ne]; omega
      have HNE := Lib.hid (show L1 ≠ [] from fun e => h0 (by rw [e]; rfl))
      go_wp2_with fail
      go_meet
      exact ⟨A1, c1, L1, rfl, by omega, HR1, Lib.hid (fin_items HSE.out HSH.out HM1.out HNE.out), hb3'⟩
  case rest =>
  clear HM1 HR1 S3 Q3 hb3 hb3'
  obtain ⟨A4, c4, L, rfl, hlL, HRL, HFN, hb6⟩ := hcut
  obtain ⟨w6, ewc⟩ : ∃ w5 : World, w5 = wc := ⟨_, rfl⟩
  subst ewc
  have R6 := Lib.hid (blk_below R0.out hb6)
  by_cases hL0 : L.length = 0
  · have h0' : ((L.length : Int) == 0) = true := by rw [beq_iff_eq]; omega
    have HF := Lib.hid (show flwArr (checkF S Q) = #[.int .i64 0, .int .i64 0, .int .i64 0, .int .i64 0] by rw [HFN.out.1 (List.eq_nil_of_length_eq_zero hL0)]; rfl)
    go_wp2_with (refine wpList_store_row rfl 47 _ _ rfl (w.heap.size + 2) #[.int .i64 0, .int .i64 0, .int .i64 0, .int .i64 0] rfl rfl 47 _ R6.out (by kernel_rfl) rfl (by simp [Value.oneCell']) ?_)
    (try simp only [Exit.inBlock, Exit.then])
    have BF := Lib.hid (row_set R6.out #[.int .i64 0, .int .i64 0, .int .i64 0, .int .i64 0])
    have hbf := below_setRow (cs := #[.int .i64 0, .int .i64 0, .int .i64 0, .int .i64 0]) (bcall hb0 hb6) (show w.heap.size ≤ w.heap.size + 2 by omega)
    generalize World.setRow _ _ _ = wf at *
    refine bodyPost_ret (v := .agg #[.int .i64 0, .int .i64 0, .int .i64 0, .int .i64 0]) ?_ rfl ?_
    · exact results_cell_row Tryd.results27 _ _ (w.heap.size + 2) 47 _ (0, 0) _ rfl BF.out Tryd.underlying47 rfl (by kernel_rfl)
    · exact ⟨by rw [HF.out], hbf⟩
  have h0' : ((L.length : Int) == 0) = false := by rw [beq_eq_false_iff_ne]; omega
  obtain ⟨ab, aoff, eA, hab, hac⟩ := fnd_spot HRL.out (by omega)
  subst eA
  obtain ⟨x, hx⟩ : ∃ x, L.getD 0 fnd0 = x := ⟨_, rfl⟩
  obtain ⟨d0, d1, d2, d3, d4, d5⟩ := hac 0 (by omega) x hx
  have HB0 := Lib.hid (show BestOf L 1 x from ⟨by rw [← hx]; exact getD_mem_fnd (by omega), fun j hj => by
    obtain rfl : j = 0 := by omega
    rw [hx]
    exact ahead_irr _⟩)
  obtain ⟨xr, xk, xc, xp, xi, xs⟩ := x
  have d0 : w6.cell? ⟨ab, aoff, none⟩ = some (.int .i64 xr) := by simpa using d0
  have d1 : w6.cell? ⟨ab, aoff + 1, none⟩ = some (.int .i64 xk) := by simpa using d1
  have d2 : w6.cell? ⟨ab, aoff + 2, none⟩ = some (.int .i64 xc) := by simpa using d2
  have d3 : w6.cell? ⟨ab, aoff + 3, none⟩ = some (.int .i64 xp) := by simpa using d3
  have d4 : w6.cell? ⟨ab, aoff + 4, none⟩ = some (.int .i64 xi) := by simpa using d4
  have d5 : w6.cell? ⟨ab, aoff + 5, none⟩ = some (.int .i64 xs) := by simpa using d5
  have BB := Lib.hid (blk_new w6 #[.int .i64 xr, .int .i64 xk, .int .i64 xc, .int .i64 xp, .int .i64 xi, .int .i64 xs] 89)
  have hbB := bnew (Below.refl w6.heap.size w6) (.cells #[.int .i64 xr, .int .i64 xk, .int .i64 xc, .int .i64 xp, .int .i64 xi, .int .i64 xs] 89)
  clear hac hx
  go_upto_region 15 with fail
  generalize w6.alloc _ = w7 at *
  clear d0 d1 d2 d3 d4 d5
  go_wp2_with fail
  go_loopw [11] (fun i wr => ∃ (k : Nat) (x : Fnd), 1 ≤ k ∧ k ≤ L.length ∧ i = .int .i64 k ∧ Hid (BestOf L k x) ∧ Hid (wr.heap[w6.heap.size]? = some (.cells #[.int .i64 x.rule, .int .i64 x.rank, .int .i64 x.code, .int .i64 x.part, .int .i64 x.index, .int .i64 x.sub] 89 (0, 0))) ∧ Below w6.heap.size w6 wr) (fun i _ => L.length - (intOf i).toNat)
  case atStart => exact ⟨1, ⟨xr, xk, xc, xp, xi, xs⟩, Nat.le_refl _, by omega, rfl, HB0, BB, hbB⟩
  case round =>
    clear HB0 BB hbB
    obtain ⟨k, x, hk1, hk, rfl, HBT, BK, hb⟩ := hrel
    obtain ⟨WA, e1⟩ : ∃ W1 : World, W1 = wr := ⟨_, rfl⟩
    subst e1
    have hzA := hb.size
    by_cases hlt : k < L.length
    · obtain ⟨ab', aoff', eA, _, hac⟩ := fnd_spot (RowRd.below HRL.out hb) (by omega)
      injection eA with eA
      injection eA with e1 e2
      subst e1 e2
      obtain ⟨y, hy⟩ : ∃ y, L.getD k fnd0 = y := ⟨_, rfl⟩
      obtain ⟨d0, d1, d2, d3, d4, d5⟩ := hac k hlt y hy
      have HY := Lib.hid hy
      obtain ⟨lb, hlb⟩ : ∃ lb, aheadB y x = lb := ⟨_, rfl⟩
      have HLB := Lib.hid hlb
      obtain ⟨yr, yk, yc, yp, yi, ys⟩ := y
      obtain ⟨ur, uk, uc, up, ui, us⟩ := x
      have BK : Hid (WA.heap[w6.heap.size]? = some (.cells #[.int .i64 ur, .int .i64 uk, .int .i64 uc, .int .i64 up, .int .i64 ui, .int .i64 us] 89 (0, 0))) := BK
      have d0 : WA.cell? ⟨ab, aoff + k * 6, none⟩ = some (.int .i64 yr) := d0
      have d1 : WA.cell? ⟨ab, aoff + k * 6 + 1, none⟩ = some (.int .i64 yk) := d1
      have d2 : WA.cell? ⟨ab, aoff + k * 6 + 2, none⟩ = some (.int .i64 yc) := d2
      have d3 : WA.cell? ⟨ab, aoff + k * 6 + 3, none⟩ = some (.int .i64 yp) := d3
      have d4 : WA.cell? ⟨ab, aoff + k * 6 + 4, none⟩ = some (.int .i64 yi) := d4
      have d5 : WA.cell? ⟨ab, aoff + k * 6 + 5, none⟩ = some (.int .i64 ys) := d5
      obtain ⟨z0, z1, z2, z3, z4, z5⟩ := blk6f BK.out
      clear hac hy hlb
      go_upto_region 18 with fail
      go_region_held3 (fun w' => w'.cell? ⟨ab, aoff + k * 6, none⟩ = some (.int .i64 yr) ∧ w'.cell? ⟨ab, aoff + k * 6 + 1, none⟩ = some (.int .i64 yk) ∧ w'.cell? ⟨ab, aoff + k * 6 + 2, none⟩ = some (.int .i64 yc) ∧ w'.cell? ⟨ab, aoff + k * 6 + 3, none⟩ = some (.int .i64 yp) ∧ w'.cell? ⟨ab, aoff + k * 6 + 4, none⟩ = some (.int .i64 yi) ∧ w'.cell? ⟨ab, aoff + k * 6 + 5, none⟩ = some (.int .i64 ys) ∧ w'.cell? ⟨w6.heap.size, 0, none⟩ = some (.int .i64 ur) ∧ w'.cell? ⟨w6.heap.size, 1, none⟩ = some (.int .i64 uk) ∧ w'.cell? ⟨w6.heap.size, 2, none⟩ = some (.int .i64 uc) ∧ w'.cell? ⟨w6.heap.size, 3, none⟩ = some (.int .i64 up) ∧ w'.cell? ⟨w6.heap.size, 4, none⟩ = some (.int .i64 ui) ∧ w'.cell? ⟨w6.heap.size, 5, none⟩ = some (.int .i64 us) ∧ Below WA.heap.size WA w')
        (first
          | exact ⟨d0, d1, d2, d3, d4, d5, z0, z1, z2, z3, z4, z5, (Below.refl _ _).drew⟩
          | (go_split_ands; exact ⟨rd_later (by assumption) hbz, rd_later (by assumption) hbz, rd_later (by assumption) hbz, rd_later (by assumption) hbz, rd_later (by assumption) hbz, rd_later (by assumption) hbz, rd_later (by assumption) hbz, rd_later (by assumption) hbz, rd_later (by assumption) hbz, rd_later (by assumption) hbz, rd_later (by assumption) hbz, rd_later (by assumption) hbz, bcall (by assumption) hbz⟩))
        (first
          | (go_at_call 65; go_split_ands; refine (ahead_any ⟨yr, yk, yc, yp, yi, ys⟩ ⟨ur, uk, uc, up, ui, us⟩ _).mono ?_; rw [HLB.out]; rintro e wz ⟨rfl, hbz⟩))
      all_goals
        go_split_ands
        have hb5 : Below WA.heap.size WA wz := by assumption
        have hb5' := bcall' hb hb5
        have BK5 := Lib.hid (blk_below BK.out hb5)
        have f0 := rd_later d0 hb5
        have f1 := rd_later d1 hb5
        have f2 := rd_later d2 hb5
        have f3 := rd_later d3 hb5
        have f4 := rd_later d4 hb5
        have f5 := rd_later d5 hb5
        obtain ⟨WB, e1⟩ : ∃ W1 : World, W1 = wz := ⟨_, rfl⟩
        subst e1
        clear d0 d1 d2 d3 d4 d5 z0 z1 z2 z3 z4 z5
        cases lb
        · go_wp2_with fail
          go_roundw
          case rel => exact ⟨k + 1, ⟨ur, uk, uc, up, ui, us⟩, by omega, by omega, by go_num, Lib.hid (best_stay HBT.out HY.out HLB.out), BK5, hb5'⟩
          case measure => simp [intOf]; omega
        · go_wp2_with (refine wpList_store_row rfl 89 _ _ rfl w6.heap.size #[.int .i64 yr, .int .i64 yk, .int .i64 yc, .int .i64 yp, .int .i64 yi, .int .i64 ys] rfl rfl 89 _ BK5.out (by kernel_rfl) rfl (by simp [Value.oneCell']) ?_)
          have BK6 := Lib.hid (row_set BK5.out #[.int .i64 yr, .int .i64 yk, .int .i64 yc, .int .i64 yp, .int .i64 yi, .int .i64 ys])
          have hb6' := below_setRow (cs := #[.int .i64 yr, .int .i64 yk, .int .i64 yc, .int .i64 yp, .int .i64 yi, .int .i64 ys]) hb5' (Nat.le_refl w6.heap.size)
          go_roundw
          case rel => exact ⟨k + 1, ⟨yr, yk, yc, yp, yi, ys⟩, by omega, by omega, by go_num, Lib.hid (best_new HBT.out hlt HY.out HLB.out), BK6, hb6'⟩
          case measure => simp [intOf]; omega
    · obtain rfl : k = L.length := by omega
      have HFX := Lib.hid (best_end HBT.out HFN.out)
      obtain ⟨ur, uk, uc, up, ui, us⟩ := x
      have BK : Hid (WA.heap[w6.heap.size]? = some (.cells #[.int .i64 ur, .int .i64 uk, .int .i64 uc, .int .i64 up, .int .i64 ui, .int .i64 us] 89 (0, 0))) := BK
      obtain ⟨z0, z1, z2, z3, z4, z5⟩ := blk6f BK.out
      have HF := Lib.hid (show flwArr (checkF S Q) = #[.int .i64 uc, .int .i64 up, .int .i64 ui, .int .i64 us] by rw [HFX.out]; rfl)
      have R7 := Lib.hid (blk_below R6.out hb)
      have hb7 := bcall hb6 hb
      go_wp2_with (refine wpList_store_row rfl 47 _ _ rfl (w.heap.size + 2) #[.int .i64 uc, .int .i64 up, .int .i64 ui, .int .i64 us] rfl rfl 47 _ R7.out (by kernel_rfl) rfl (by simp [Value.oneCell']) ?_)
      (try simp only [Exit.inBlock, Exit.then])
      have BF := Lib.hid (row_set R7.out #[.int .i64 uc, .int .i64 up, .int .i64 ui, .int .i64 us])
      have hbf := below_setRow (cs := #[.int .i64 uc, .int .i64 up, .int .i64 ui, .int .i64 us]) (bcall hb0 hb7) (show w.heap.size ≤ w.heap.size + 2 by omega)
      generalize World.setRow _ _ _ = wf at *
      refine bodyPost_ret (v := .agg #[.int .i64 uc, .int .i64 up, .int .i64 ui, .int .i64 us]) ?_ rfl ?_
      · exact results_cell_row Tryd.results27 _ _ (w.heap.size + 2) 47 _ (0, 0) _ rfl BF.out Tryd.underlying47 rfl (by kernel_rfl)
      · exact ⟨by rw [HF.out], hbf⟩
end Go.Proofs.YtagcbljfaflhoaaDoor

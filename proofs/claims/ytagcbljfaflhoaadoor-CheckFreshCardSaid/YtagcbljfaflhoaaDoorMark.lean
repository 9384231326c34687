/-
  Lists of one's own written over: rows stay rows; the statement's own copied, mark, marked.
-/
import Derived.Test.YtagcbljfaflhoaaDoorTwinTree6
import Derived.Test.YtagcbljfaflhoaaDoorInts
import Derived.Test.YtagcbljfaflhoaaDoorUses
set_option linter.unusedSimpArgs false
set_option linter.unusedVariables false
namespace Go.Proofs.YtagcbljfaflhoaaDoor
open Go.RowKit Go.ChangeShapes Go.WideShapes Go.ChangeAt Go.Deep Go.Joins
set_option maxRecDepth 100000 in
theorem copied_any (A : Option Addr) (n c : Nat) (f : Nat → Nod) (w : World) (hl : n ≤ c) (hA : A = none → c = 0) (h : NodRd w w.heap.size A n f) :
    Calls Tryd.prog 40 #[.slice A n c] w fun e w' => ∃ v', e = .returned v' ∧ Below w.heap.size w w' ∧ w'.ownsRow w.heap.size 60 6 v' n (flat (fun j => nodCell (f j)) 6 n) := by
  obtain ⟨i0, hi0, hz0, hz1, hz2⟩ := info_parts infoNode
  have HT := Lib.hid h
  have HA := Lib.hid hA
  clear h hA
  go_enter Tryd.func40, Tryd.ntmps40
  go_wp2_with (at_builtin; go_loud (refine wpList_append_copy _ rfl _ _ _ rfl 60 i0 _ 6 64 Tryd.underlying22 hi0 hz0 hz1 hz2 rfl (by omega) (by omega) rfl A n c w.heap.size (fun j => nodCell (f j)) rfl hl HA.out HT.out (fun j _ i _ => nodCell_one (f j) i) ?_; intro v' w1 hown hb))
  go_ret
  exact ⟨v', rfl, hb, hown⟩
theorem flat_set1 {D : Nat → Int} {n j : Nat} (x : Int) : (flat (intC D) 1 n).set j (.int .i64 x) = flat (intC (upd1 D j x)) 1 n := by
  refine flat_ext (by simp [flat_length]) fun i hi q hq => ?_
  obtain rfl : q = 0 := by omega
  rw [Nat.mul_one, Nat.add_zero, List.getElem?_set]
  by_cases e : j = i
  · subst e
    rw [if_pos rfl, if_pos (by simpa [flat_length] using hi)]
    simp [intC, upd1]
  · rw [if_neg e]
    have := flat_at (intC D) (sz := 1) hi (i := 0) (by omega)
    rw [Nat.mul_one, Nat.add_zero] at this
    rw [this]
    simp [intC, upd1, show ¬ i = j from fun h => e h.symm]
/-- A row's six cells at j, written over. -/
theorem flat_set6 {D : Nat → Nod} {n j : Nat} (hj : j < n) (x : Nod) : ((((((flat (fun i => nodCell (D i)) 6 n).set (j * 6) (.int .i64 x.op)).set (j * 6 + 1) (.int .i64 x.n)).set (j * 6 + 2) (.string x.vr)).set (j * 6 + 3) (.string x.at_)).set (j * 6 + 4) (.int .i64 x.a)).set (j * 6 + 5) (.int .i64 x.b) = flat (fun i => nodCell (upd1 D j x i)) 6 n := by
  refine flat_ext (by simp [flat_length]) fun i hi q hq => ?_
  have hl := flat_length (fun i => nodCell (D i)) 6 n
  have h0 := flat_at (fun i => nodCell (D i)) (sz := 6) hi hq
  simp only [List.getElem?_set, List.length_set, hl]
  by_cases e : i = j
  · subst e
    obtain rfl | rfl | rfl | rfl | rfl | rfl : q = 0 ∨ q = 1 ∨ q = 2 ∨ q = 3 ∨ q = 4 ∨ q = 5 := by omega
    all_goals simp only [upd1, if_true]
    all_goals simp [nodCell]
    all_goals omega
  · have hne : ∀ p, p < 6 → ¬ j * 6 + p = i * 6 + q := fun p hp => by omega
    rw [if_neg (hne 5 (by omega)), if_neg (hne 4 (by omega)), if_neg (hne 3 (by omega)), if_neg (hne 2 (by omega)), if_neg (hne 1 (by omega)), if_neg (by have := hne 0 (by omega); omega), h0]
    simp only [upd1, if_neg e]
theorem grown_refl (w : World) (row : Option Nat) : w.grownBy w row := ⟨rfl, rfl, rfl, Nat.le_refl _, fun _ _ _ => rfl⟩
theorem grown_trans {w w1 w2 : World} {row : Option Nat} (h : w.grownBy w1 row) (h' : w1.grownBy w2 row) : w.grownBy w2 row :=
  ⟨h'.os.trans h.os, h'.tape.trans h.tape, h'.output.trans h.output, Nat.le_trans h.size h'.size, fun k hk hne => (h'.block k (Nat.lt_of_lt_of_le hk h.size) hne).trans (h.block k hk hne)⟩
theorem grown_of_below {w w' : World} (h : Below w.heap.size w w') (row : Option Nat) : w.grownBy w' row := ⟨h.os, h.tape, h.output, h.size, fun k hk _ => h.block k hk⟩
/-- The first k numbers marked. -/
def markF (D : Nat → Int) (from_ : Int) (k : Nat) : Nat → Int := fun j => if j < k then from_ + j else D j
theorem markF_zero (D : Nat → Int) (from_ : Int) : markF D from_ 0 = D := by funext j; simp [markF]
theorem markF_next (D : Nat → Int) (from_ : Int) (k : Nat) : upd1 (markF D from_ k) k (from_ + k) = markF D from_ (k + 1) := by
  funext j
  unfold upd1 markF
  by_cases e : j = k
  · subst e
    rw [if_pos rfl, if_pos (by omega)]
  · by_cases h : j < k
    · rw [if_neg e, if_pos h, if_pos (by omega)]
    · rw [if_neg e, if_neg h, if_neg (by omega)]
set_option maxRecDepth 100000 in
set_option maxHeartbeats 2000000 in
theorem mark_any (B : Nat) (A : Option Addr) (n c : Nat) (D : Nat → Int) (from_ : Int) (w : World) (hown : w.ownsRow B 3 1 (.slice A n c) n (flat (intC D) 1 n)) (hf : 0 ≤ from_ ∧ from_ ≤ 1000) (hn : n ≤ 2199023255488) :
    Calls Tryd.prog 42 #[.slice A n c, .int .i64 from_] w fun e w' => e = .returned (.tuple #[]) ∧ w.grownBy w' (Value.ownBlock (.slice A n c)) ∧ w'.heap.size = w.heap.size ∧ w'.ownsRow B 3 1 (.slice A n c) n (flat (intC fun j => from_ + j) 1 n) := by
  obtain ⟨f1, f2⟩ := hf
  have HO := Lib.hid (show w.ownsRow B 3 1 (.slice A n c) n (flat (intC (markF D from_ 0)) 1 n) by rw [markF_zero]; exact hown)
  clear hown
  go_enter Tryd.func42, Tryd.ntmps42
  go_wp2_with fail
  go_loopw [4] (fun i wr => ∃ k : Nat, k ≤ n ∧ i = .int .i64 k ∧ Hid (w.grownBy wr (Value.ownBlock (.slice A n c))) ∧ wr.heap.size = w.heap.size ∧ Hid (wr.ownsRow B 3 1 (.slice A n c) n (flat (intC (markF D from_ k)) 1 n))) (fun i _ => n - (intOf i).toNat)
  case atStart => exact ⟨0, Nat.zero_le _, rfl, Lib.hid (grown_refl _ _), rfl, HO⟩
  case round =>
    obtain ⟨k, hk, rfl, HG, hz, HV⟩ := hrel
    obtain ⟨W1, e1⟩ : ∃ W1 : World, W1 = wr := ⟨_, rfl⟩
    subst e1
    by_cases hlt : k < n
    · rcases HV.out.2 with ⟨hv, h0⟩ | ⟨g, c', cur, hv, _⟩
      · exact absurd h0 (by omega)
      · injection hv with hv1 hv2 hv3
        subst hv1 hv3
        have x1 : W1.cell? ⟨g, k, none⟩ = some (.int .i64 (markF D from_ k k)) := by
          rw [World.ownsRow.cellAt HV.out k (by omega)]
          have := flat_at (intC (markF D from_ k)) (sz := 1) hlt (i := 0) (by omega)
          simpa [intC] using this
        have x2 := World.ownsRow.frozenAt HV.out k
        have hst := World.ownsRow.stored HV.out k (.int .i64 (from_ + k))
        rw [flat_set1, markF_next] at hst
        have HV2 := Lib.hid hst.1
        have HG2 := Lib.hid (grown_trans HG.out hst.2)
        have hz2 : (W1.setCell ⟨g, k, none⟩ (.int .i64 (from_ + k))).heap.size = w.heap.size := by simpa using hz
        clear hst
        go_wp2_with fail
        go_roundw
        case rel => exact ⟨k + 1, by omega, by go_num, HG2, hz2, HV2⟩
        case measure => simp [intOf]; omega
    · obtain rfl : k = n := by omega
      go_wp2_with fail
      go_end0
      refine ⟨rfl, HG.out, hz, ?_⟩
      have := HV.out
      rw [flat_congr (C' := intC fun j => from_ + j) (fun j hj i _ => by simp [intC, markF, hj])] at this
      exact this
set_option maxRecDepth 100000 in
set_option maxHeartbeats 2000000 in
theorem marked_any (A : Option Addr) (n c : Nat) (from_ : Int) (w : World) (h : IntRd w w.heap.size A n (fun j => from_ + j)) (hf : 0 ≤ from_ ∧ from_ ≤ 1000) (hn : n ≤ 2199023255488) :
    Calls Tryd.prog 43 #[.slice A n c, .int .i64 from_] w fun e w' => e = .returned (.bool true) ∧ w' = w := by
  obtain ⟨f1, f2⟩ := hf
  have HT := Lib.hid h
  clear h
  go_enter Tryd.func43, Tryd.ntmps43
  go_wp2_with fail
  go_loop [5] (fun i => ∃ k : Nat, k ≤ n ∧ i = .int .i64 k) (fun i => n - (intOf i).toNat)
  case atStart => exact ⟨0, Nat.zero_le _, rfl⟩
  case round =>
    obtain ⟨k, hk, rfl⟩ := hrel
    by_cases hlt : k < n
    · obtain ⟨b, off, rfl, hbl, hcs⟩ := HT.out.spot (by omega)
      have d1 := hcs k hlt
      clear hcs
      go_wp2_with fail
      go_round
      case rel => exact ⟨k + 1, by omega, by go_num⟩
      case measure => simp [intOf]; omega
    · obtain rfl : k = n := by omega
      go_wp2_with fail
      go_ret
      exact ⟨rfl, rfl⟩
end Go.Proofs.YtagcbljfaflhoaaDoor

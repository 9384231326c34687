/-
  The walk of check.Sub.
-/
import Derived.Test.YtagcbljfaflhoaaDoorTreeFns
import Derived.Test.YtagcbljfaflhoaaDoorRowSet
set_option linter.unusedSimpArgs false
set_option linter.unusedVariables false
namespace Go.Proofs.YtagcbljfaflhoaaDoor
open Go.RowKit Go.ChangeShapes Go.WideShapes Go.ChangeAt Go.Deep Go.Joins
/-- What stands in Sub's list while it is written over: the first i nodes are shifted. -/
def subC (f : Nat → Nod) (first i : Nat) : Nat → Nat → Value := fun j => nodCell (if j < i then shiftN (f (first + j)) first else f (first + j))
theorem subC_one (f : Nat → Nod) (first i j q : Nat) : (subC f first i j q).oneCell' = true := nodCell_one _ _
theorem subC_next (f : Nat → Nod) (first j i p : Nat) (hp : p < 6) : subC f first (j + 1) i p =
    if i = j ∧ p = 5 then .int .i64 (if 0 ≤ (f (first + j)).b then (f (first + j)).b - first else (f (first + j)).b)
    else if i = j ∧ p = 4 then .int .i64 (if 0 ≤ (f (first + j)).a then (f (first + j)).a - first else (f (first + j)).a) else subC f first j i p := by
  unfold subC
  by_cases e : i = j
  · subst e
    have h1 : i < i + 1 := Nat.lt_succ_self i
    have h2 : ¬ i < i := Nat.lt_irrefl i
    rw [if_pos h1, if_neg h2]
    obtain rfl | rfl | rfl | rfl | rfl | rfl : p = 0 ∨ p = 1 ∨ p = 2 ∨ p = 3 ∨ p = 4 ∨ p = 5 := by omega
    all_goals simp [nodCell, shiftN]
  · have h3 : (i < j + 1) = (i < j) := propext (by omega)
    simp [e, h3]
theorem sub_both {f : Nat → Nod} {first j k : Nat} {a b : Int} (hj : j < k) (hA : (f (first + j)).a = a) (hB : (f (first + j)).b = b) (ha : 0 ≤ a) (hb : 0 ≤ b) :
    (((flat (subC f first j) 6 k).toArray.setIfInBounds (j * 6 + 4) (.int .i64 (a - first))).setIfInBounds (j * 6 + 5) (.int .i64 (b - first))) = (flat (subC f first (j + 1)) 6 k).toArray := by
  rw [flat_put hj (by omega), flat_put hj (by omega)]
  congr 1
  refine flat_congr fun i hi p hp => ?_
  rw [subC_next f first j i p hp, hA, hB, if_pos ha, if_pos hb]
theorem sub_left {f : Nat → Nod} {first j k : Nat} {a b : Int} (hj : j < k) (hA : (f (first + j)).a = a) (hB : (f (first + j)).b = b) (ha : 0 ≤ a) (hb : ¬ 0 ≤ b) :
    (flat (subC f first j) 6 k).toArray.setIfInBounds (j * 6 + 4) (.int .i64 (a - first)) = (flat (subC f first (j + 1)) 6 k).toArray := by
  rw [flat_put hj (by omega)]
  congr 1
  refine flat_congr fun i hi p hp => ?_
  rw [subC_next f first j i p hp, hA, hB, if_pos ha, if_neg hb]
  by_cases e : i = j ∧ p = 5
  · obtain ⟨rfl, rfl⟩ := e
    simp [subC, nodCell, hB]
  · rw [if_neg e]
theorem sub_right {f : Nat → Nod} {first j k : Nat} {a b : Int} (hj : j < k) (hA : (f (first + j)).a = a) (hB : (f (first + j)).b = b) (ha : ¬ 0 ≤ a) (hb : 0 ≤ b) :
    (flat (subC f first j) 6 k).toArray.setIfInBounds (j * 6 + 5) (.int .i64 (b - first)) = (flat (subC f first (j + 1)) 6 k).toArray := by
  rw [flat_put hj (by omega)]
  congr 1
  refine flat_congr fun i hi p hp => ?_
  rw [subC_next f first j i p hp, hA, hB, if_neg ha, if_pos hb]
  by_cases e : i = j ∧ p = 4
  · obtain ⟨rfl, rfl⟩ := e
    simp [subC, nodCell, hA]
  · by_cases e5 : i = j ∧ p = 5
    · rw [if_pos e5]; rw [if_pos e5]
    · rw [if_neg e5, if_neg e5, if_neg e]
theorem sub_none {f : Nat → Nod} {first j k : Nat} {a b : Int} (hj : j < k) (hA : (f (first + j)).a = a) (hB : (f (first + j)).b = b) (ha : ¬ 0 ≤ a) (hb : ¬ 0 ≤ b) :
    (flat (subC f first j) 6 k).toArray = (flat (subC f first (j + 1)) 6 k).toArray := by
  congr 1
  refine flat_congr fun i hi p hp => ?_
  rw [subC_next f first j i p hp, hA, hB, if_neg ha, if_neg hb]
  by_cases e : i = j ∧ p = 4
  · obtain ⟨rfl, rfl⟩ := e
    simp [subC, nodCell, hA]
  · by_cases e5 : i = j ∧ p = 5
    · obtain ⟨rfl, rfl⟩ := e5
      simp [subC, nodCell, hB]
    · rw [if_neg e5, if_neg e]
set_option maxRecDepth 100000 in
set_option maxHeartbeats 1000000 in
theorem checkSub_any (A : Option Addr) (n c : Nat) (f : Nat → Nod) (root : Int) (w : World) (h : NodRd w w.heap.size A n f) (hl : n ≤ c) {tt : TypeId} {fr : Nat × Nat} (hkw : w.heap[0]? = some (.cells kwArr tt fr)) :
    Calls Tryd.prog 14 #[.slice A n c, .int .i64 root] w fun e w' => ∃ v', e = .returned v' ∧ Below w.heap.size w w' ∧ w'.ownsRow w.heap.size 60 6 v' (sizeI n f root) (flat (fun j => nodCell (subF n f root j)) 6 (sizeI n f root)) := by
  obtain ⟨i0, hi0, hz0, hz1, hz2⟩ := info_parts infoNode
  have hn := h.small
  have HT := Lib.hid h
  have HK := Lib.hid hkw
  clear h hkw
  by_cases hin : treeB n f = true ∧ 0 ≤ root ∧ root < n
  · obtain ⟨ht, h0, h1⟩ := hin
    obtain ⟨r, rfl⟩ : ∃ r : Nat, root = r := ⟨root.toNat, by omega⟩
    have hr : r < n := by omega
    have hsz := sizeI_in ht hr
    have hle := (tree_shp ht).2.1.le r hr
    have HS := Lib.hid (tree_shp ht).2.1
    obtain ⟨b, off, rfl, hbl, _⟩ := HT.out.spot (by omega)
    have HF := Lib.hid (show ∀ j, subF n f (r : Nat) j = shiftN (f (begF n f r + j)) (begF n f r) from fun j => rfl)
    obtain ⟨first, hfirst⟩ : ∃ x, begF n f r = x := ⟨_, rfl⟩
    rw [hfirst] at hsz hle HF
    obtain ⟨k, hk⟩ : ∃ x, r - first + 1 = x := ⟨_, rfl⟩
    rw [hk] at hsz
    have HZ := Lib.hid hsz
    clear hfirst hsz ht
    have hk1 : 0 < k := by omega
    have hk2 : ((k : Int) == 0) = false := by rw [beq_eq_false_iff_ne]; omega
    go_enter Tryd.func14, Tryd.ntmps14
    go_wp2_with fail
    refine (checkSize_any _ n c f (r : Nat) _ HT.out HK.out).mono ?_
    rintro e w2 ⟨rfl, hb2⟩
    rw [HZ.out]
    go_upto_region 5 with fail
    rw [show ((r : Int) - (k : Nat) + 1) = ((first : Nat) : Int) by omega]
    go_upto_region 6 with (at_make; go_loud (refine wpList_make_full _ rfl _ _ 22 rfl w.heap.size 60 i0 _ 6 Tryd.underlying22 hi0 hz0 hz1 .i64 .i64 _ _ k rfl rfl rfl rfl (by rw [hz2]; omega) (by unfold maxLen; omega) hb2.size ?_; intro w3 hown3 hg3))
    obtain ⟨f1, f2, f3⟩ := own_full hown3
    have hb3 := below_grown hb2 hg3 hb2.size (fun x hx => by cases hx)
    have G3 := Lib.hid f1
    have hsrc := rd_from (w := w3) (first := first) (k := k) (RowRd.later HT.out hb3) (by omega)
    have HSRC := Lib.hid hsrc
    have hg3s := hg3.size
    have hmn : Nat.min (n - first) k = k := by
      have : k ≤ n - first := by omega
      exact Nat.min_eq_right this
    clear hown3 f1 hsrc
    have hcopy := run_copy_sz (P := Tryd.prog) w3 22 22 3 60 6 w2.heap.size k k ⟨b, off + first * 6, none⟩ (n - first) (c - first) _ _ _ Tryd.underlying22 (by kernel_rfl) G3.out hmn (flat_length _ _ _) HSRC.out (by rw [flat_length]; simp [madeCells]) (fun v hv => by obtain ⟨x, _, rfl⟩ := List.mem_map.1 hv; exact nodCell_one _ _)
    go_upto_region 7 with fail
    have hb4 := below_setRow (cs := (flat (fun j => nodCell (f (first + j))) 6 k).toArray) hb3 hb2.size
    have G4 : Hid ((w3.setRow w2.heap.size (flat (fun j => nodCell (f (first + j))) 6 k).toArray).heap[w2.heap.size]? = some (.cells (flat (subC f first 0) 6 k).toArray 60 (0, 0))) := Lib.hid (by
      rw [row_set G3.out]
      congr 3)
    generalize w3.setRow _ _ = w4 at *
    clear hcopy G3
    have hz4 := hb4.size
    go_wp2_with fail
    go_loopw [27, 8] (fun i i2 wr => ∃ j : Nat, j ≤ k ∧ i = .int .i64 j ∧ Hid (wr.heap[w2.heap.size]? = some (.cells (flat (subC f first j) 6 k).toArray 60 (0, 0))) ∧ Below w.heap.size w wr) (fun i _ _ => k - (intOf i).toNat)
    case atStart => exact ⟨0, Nat.zero_le _, rfl, G4, hb4⟩
    case round =>
      clear G4 hb4 hz4
      obtain ⟨j, hj, rfl, G, hb⟩ := hrel
      obtain ⟨W1, e1⟩ : ∃ W1 : World, W1 = wr := ⟨_, rfl⟩
      subst e1
      by_cases hlt : j < k
      · have hr4 := HS.out.rng (j := first + j) (by omega)
        have e4 : W1.cell? ⟨w2.heap.size, j * 6 + 4, none⟩ = some (.int .i64 (f (first + j)).a) := by
          rw [blk_cell G.out (j := j * 6 + 4) (v := .int .i64 (f (first + j)).a)]
          rw [List.getElem?_toArray, flat_at _ hlt (by omega)]
          simp [subC, nodCell]
        have q4 : W1.frozen? ⟨w2.heap.size, j * 6 + 4, none⟩ = false := blk_free G.out _
        have e5 : W1.cell? ⟨w2.heap.size, j * 6 + 5, none⟩ = some (.int .i64 (f (first + j)).b) := by
          rw [blk_cell G.out (j := j * 6 + 5) (v := .int .i64 (f (first + j)).b)]
          rw [List.getElem?_toArray, flat_at _ hlt (by omega)]
          simp [subC, nodCell]
        have q5 : W1.frozen? ⟨w2.heap.size, j * 6 + 5, none⟩ = false := blk_free G.out _
        obtain ⟨x, hx⟩ : ∃ x, f (first + j) = x := ⟨_, rfl⟩
        rw [hx] at e4 e5 hr4
        obtain ⟨op, nn, vr, at_, a, b2⟩ := x
        have e4 : W1.cell? ⟨w2.heap.size, j * 6 + 4, none⟩ = some (.int .i64 a) := e4
        have e5 : W1.cell? ⟨w2.heap.size, j * 6 + 5, none⟩ = some (.int .i64 b2) := e5
        have hr4 : -1 ≤ a ∧ a < ((first + j : Nat) : Int) ∧ -1 ≤ b2 ∧ b2 < ((first + j : Nat) : Int) := hr4
        obtain ⟨r1, r2, r3, r4⟩ := hr4
        have HA := Lib.hid (show (f (first + j)).a = a by rw [hx])
        have HB := Lib.hid (show (f (first + j)).b = b2 by rw [hx])
        have GA := Lib.hid (fun x : Int => blk_set G.out (j * 6 + 4) (.int .i64 x))
        clear hx
        by_cases ha : 0 ≤ a
        all_goals by_cases hb2' : 0 ≤ b2
        · have GF := Lib.hid (show ((W1.setCell ⟨w2.heap.size, j * 6 + 4, none⟩ (.int .i64 (a - first))).setCell ⟨w2.heap.size, j * 6 + 5, none⟩ (.int .i64 (b2 - first))).heap[w2.heap.size]? = some (.cells (flat (subC f first (j + 1)) 6 k).toArray 60 (0, 0)) from (by rw [blk_set (GA.out (a - first)) (j * 6 + 5) (.int .i64 (b2 - first))]; rw [sub_both hlt HA.out HB.out ha hb2']))
          go_wp2_with fail
          go_roundw
          case rel => exact ⟨j + 1, by omega, by go_num, GF, (hb.setCell (p := ⟨w2.heap.size, j * 6 + 4, none⟩) hb2.size _).setCell (p := ⟨w2.heap.size, j * 6 + 5, none⟩) hb2.size _⟩
          case measure => simp [intOf]; omega
        · have GF := Lib.hid (show (W1.setCell ⟨w2.heap.size, j * 6 + 4, none⟩ (.int .i64 (a - first))).heap[w2.heap.size]? = some (.cells (flat (subC f first (j + 1)) 6 k).toArray 60 (0, 0)) from (by rw [GA.out (a - first)]; rw [sub_left hlt HA.out HB.out ha hb2']))
          go_wp2_with fail
          go_roundw
          case rel => exact ⟨j + 1, by omega, by go_num, GF, hb.setCell (p := ⟨w2.heap.size, j * 6 + 4, none⟩) hb2.size _⟩
          case measure => simp [intOf]; omega
        · have GF := Lib.hid (show (W1.setCell ⟨w2.heap.size, j * 6 + 5, none⟩ (.int .i64 (b2 - first))).heap[w2.heap.size]? = some (.cells (flat (subC f first (j + 1)) 6 k).toArray 60 (0, 0)) from (by rw [blk_set G.out (j * 6 + 5) (.int .i64 (b2 - first))]; rw [sub_right hlt HA.out HB.out ha hb2']))
          go_wp2_with fail
          go_roundw
          case rel => exact ⟨j + 1, by omega, by go_num, GF, hb.setCell (p := ⟨w2.heap.size, j * 6 + 5, none⟩) hb2.size _⟩
          case measure => simp [intOf]; omega
        · have GF := Lib.hid (show (W1).heap[w2.heap.size]? = some (.cells (flat (subC f first (j + 1)) 6 k).toArray 60 (0, 0)) from (by rw [G.out]; rw [sub_none hlt HA.out HB.out ha hb2']))
          go_wp2_with fail
          go_roundw
          case rel => exact ⟨j + 1, by omega, by go_num, GF, hb⟩
          case measure => simp [intOf]; omega
      · obtain rfl : j = k := by omega
        have hfin : flat (subC f first j) 6 j = flat (fun i => nodCell (subF n f (r : Nat) i)) 6 j := flat_congr fun i hi q hq => by rw [HF.out]; simp [subC, hi]
        have HO := Lib.hid (full_own (sz := 6) (n := j) G.out hb2.size (by unfold maxLen; omega) (flat_length _ _ _))
        go_wp2_with fail
        go_ret
        exact ⟨_, rfl, hb, by rw [HZ.out, ← hfin]; exact HO.out⟩
  · have hsz : sizeI n f root = 0 := by rw [sizeI, if_neg hin]
    have HZ := Lib.hid hsz
    clear hsz hin
    go_enter Tryd.func14, Tryd.ntmps14
    go_wp2_with fail
    refine (checkSize_any A n c f root _ HT.out HK.out).mono ?_
    rintro e w2 ⟨rfl, hb2⟩
    rw [HZ.out]
    go_wp2_with fail
    go_ret
    exact ⟨_, rfl, hb2, by rw [HZ.out, flat_zero]; exact World.ownsRow_nil _ _ _ _⟩
end Go.Proofs.YtagcbljfaflhoaaDoor

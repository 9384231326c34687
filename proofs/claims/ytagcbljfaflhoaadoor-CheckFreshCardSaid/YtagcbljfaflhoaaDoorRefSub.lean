/-
  The walks of the reference's parents, below, Size, Sub.
-/
import Derived.Test.YtagcbljfaflhoaaDoorTreeFns
import Derived.Test.YtagcbljfaflhoaaDoorBelow
import Derived.Test.YtagcbljfaflhoaaDoorUsesWalk
set_option linter.unusedSimpArgs false
set_option linter.unusedVariables false
namespace Go.Proofs.YtagcbljfaflhoaaDoor
open Go.RowKit Go.ChangeShapes Go.WideShapes Go.ChangeAt Go.Deep Go.Joins
set_option maxRecDepth 100000 in
set_option maxHeartbeats 2000000 in
theorem parents_any (A : Option Addr) (n c : Nat) (f : Nat → Nod) (l : Nat → Nat) (hs : Shp n f l) (h0 : 0 < n) (w : World) (h : NodRd w w.heap.size A n f) :
    Calls Tryd.prog 50 #[.slice A n c] w fun e w' => ∃ g, e = .returned (.slice (some ⟨g, 0, none⟩) n n) ∧ Below w.heap.size w w' ∧ w.heap.size ≤ g ∧ w'.heap[g]? = some (.cells (numArr (upF f n) n) 3 (0, 0)) := by
  obtain ⟨i0, hi0, hy0, hy1, hy2⟩ := info_parts infoIntU
  have hn := h.small
  have HT := Lib.hid h
  have HS := Lib.hid hs
  clear h hs
  go_enter Tryd.func50, Tryd.ntmps50
  go_upto_region 2 with (at_make; go_loud (refine wpList_make_full _ rfl _ _ 27 rfl w.heap.size 3 i0 _ 1 Tryd.underlying27 hi0 hy0 hy1 .i64 .i64 _ _ n rfl rfl rfl rfl (by rw [hy2]; omega) (by unfold maxLen; omega) (Nat.le_refl _) ?_; intro w3 hown3 hg3))
  obtain ⟨f1, f2, f3⟩ := own_full hown3
  have hb3 := below_grown (Below.refl w.heap.size w) hg3 (Nat.le_refl _) (fun x hx => by cases hx)
  rw [made_nums, numArr_congr (D' := fun j => if j < 0 then -1 else 0) (fun j _ => by simp)] at f1
  have G3 := Lib.hid f1
  clear hown3 hg3 f1 f2 f3
  go_wp2_with fail
  go_loopw [4] (fun i wr => ∃ k : Nat, k ≤ n ∧ i = .int .i64 k ∧ Hid (wr.heap[w.heap.size]? = some (.cells (numArr (fun j => if j < k then -1 else 0) n) 3 (0, 0))) ∧ Below w.heap.size w wr) (fun i _ => n - (intOf i).toNat)
  case atStart => exact ⟨0, Nat.zero_le _, rfl, G3, hb3⟩
  case round =>
    clear G3 hb3
    obtain ⟨k, hk, rfl, G, hb⟩ := hrel
    obtain ⟨W1, e1⟩ : ∃ W1 : World, W1 = wr := ⟨_, rfl⟩
    subst e1
    by_cases hlt : k < n
    · have e4 : W1.cell? ⟨w.heap.size, k, none⟩ = some (.int .i64 (if k < k then -1 else 0)) := blk_cell G.out (numArr_get hlt)
      have q4 : W1.frozen? ⟨w.heap.size, k, none⟩ = false := blk_free G.out _
      have GF := Lib.hid (show (W1.setCell ⟨w.heap.size, k, none⟩ (.int .i64 (-1))).heap[w.heap.size]? = some (.cells (numArr (fun j => if j < k + 1 then -1 else 0) n) 3 (0, 0)) from (by
        rw [blk_set G.out k (.int .i64 (-1)), numArr_set]
        congr 2
        refine numArr_congr fun j _ => ?_
        by_cases e : j = k
        · rw [if_pos e, if_pos (by omega)]
        · rw [if_neg e]
          by_cases e2 : j < k
          · rw [if_pos e2, if_pos (by omega)]
          · rw [if_neg e2, if_neg (by omega)]))
      go_wp2_with fail
      go_roundw
      case rel => exact ⟨k + 1, by omega, by go_num, GF, hb.setCell (p := ⟨w.heap.size, k, none⟩) (Nat.le_refl _) _⟩
      case measure => simp [intOf]; omega
    · obtain rfl : k = n := by omega
      have G0 : Hid (W1.heap[w.heap.size]? = some (.cells (numArr (upF f 0) k) 3 (0, 0))) := Lib.hid (by
        rw [G.out, numArr_congr (D' := upF f 0) (fun j hj => by rw [if_pos hj]; rfl)])
      clear G
      go_wp2_with fail
      go_loopw [5] (fun i wr => ∃ j : Nat, j ≤ k ∧ i = .int .i64 j ∧ Hid (wr.heap[w.heap.size]? = some (.cells (numArr (upF f j) k) 3 (0, 0))) ∧ Below w.heap.size w wr) (fun i _ => k - (intOf i).toNat)
      case atStart => exact ⟨0, Nat.zero_le _, rfl, G0, hb⟩
      case round =>
        clear G0 hb
        obtain ⟨j, hj, rfl, G, hb⟩ := hrel
        obtain ⟨W2, e2⟩ : ∃ W2 : World, W2 = wr := ⟨_, rfl⟩
        subst e2
        by_cases hlt : j < k
        · obtain ⟨b, off, rfl, hbl, hcs⟩ := (HT.out.later hb).spot (by omega)
          obtain ⟨c0, c1, c2, c3, c4, c5⟩ := hcs j hlt
          have hle := HS.out.le j hlt
          clear hcs c0 c1 c2 c3
          have GA := Lib.hid (fun x : Nat => blk_set G.out x (.int .i64 j))
          rcases HS.out.kind j hlt with ⟨_, ka, kb, kl⟩ | ⟨_, k1, ka, kb, kl⟩ | ⟨_, k1, kb, k2, ka, kl⟩
          · have d4 := node_a (n := k) c4 ka
            have d5 := node_b (n := k) c5 kb
            clear c4 c5
            have GF : Hid (W2.heap[w.heap.size]? = some (.cells (numArr (upF f (j + 1)) k) 3 (0, 0))) := Lib.hid (by rw [G.out, up_leaf ka kb])
            go_wp2_with fail
            go_roundw
            case rel => exact ⟨j + 1, by omega, by go_num, GF, hb⟩
            case measure => simp [intOf]; omega
          · obtain ⟨x, hx⟩ : ∃ x, j - 1 = x := ⟨_, rfl⟩
            have ka : (f j).a = (x : Int) := by omega
            have hxk : x < k := by omega
            have d4 := node_a (n := k) c4 ka
            have d5 := node_b (n := k) c5 kb
            have e4 : W2.cell? ⟨w.heap.size, x, none⟩ = some (.int .i64 (upF f j x)) := blk_cell G.out (numArr_get hxk)
            have q4 : W2.frozen? ⟨w.heap.size, x, none⟩ = false := blk_free G.out _
            clear c4 c5
            have GF : Hid ((W2.setCell ⟨w.heap.size, x, none⟩ (.int .i64 j)).heap[w.heap.size]? = some (.cells (numArr (upF f (j + 1)) k) 3 (0, 0))) := Lib.hid (by rw [GA.out x, up_one ka kb])
            clear hx kl
            go_wp2_with fail
            go_roundw
            case rel => exact ⟨j + 1, by omega, by go_num, GF, hb.setCell (p := ⟨w.heap.size, x, none⟩) (Nat.le_refl _) _⟩
            case measure => simp [intOf]; omega
          · have hle1 := HS.out.le (j - 1) (by omega)
            obtain ⟨y, hy⟩ : ∃ y, j - 1 = y := ⟨_, rfl⟩
            rw [hy] at k2 ka hle1 kl
            obtain ⟨x, hx⟩ : ∃ x, l y - 1 = x := ⟨_, rfl⟩
            have ka : (f j).a = (x : Int) := by omega
            have kb : (f j).b = (y : Int) := by omega
            have hxk : x < k := by omega
            have hyk : y < k := by omega
            have hxy : x < y := by omega
            have d4 := node_a (n := k) c4 ka
            have d5 := node_b (n := k) c5 kb
            have e4 : W2.cell? ⟨w.heap.size, x, none⟩ = some (.int .i64 (upF f j x)) := blk_cell G.out (numArr_get hxk)
            have q4 : W2.frozen? ⟨w.heap.size, x, none⟩ = false := blk_free G.out _
            have e5 : (W2.setCell ⟨w.heap.size, x, none⟩ (.int .i64 j)).cell? ⟨w.heap.size, y, none⟩ = some (.int .i64 (if y = x then (j : Int) else upF f j y)) := blk_cell (GA.out x) (by rw [numArr_set]; exact numArr_get hyk)
            have q5 : (W2.setCell ⟨w.heap.size, x, none⟩ (.int .i64 j)).frozen? ⟨w.heap.size, y, none⟩ = false := blk_free (GA.out x) _
            clear c4 c5
            have GF : Hid (((W2.setCell ⟨w.heap.size, x, none⟩ (.int .i64 j)).setCell ⟨w.heap.size, y, none⟩ (.int .i64 j)).heap[w.heap.size]? = some (.cells (numArr (upF f (j + 1)) k) 3 (0, 0))) := Lib.hid (by rw [blk_set (GA.out x) y (.int .i64 j), up_two ka kb])
            clear hx kl hy k2 ka
            go_wp2_with fail
            go_roundw
            case rel => exact ⟨j + 1, by omega, by go_num, GF, (hb.setCell (p := ⟨w.heap.size, x, none⟩) (Nat.le_refl _) _).setCell (p := ⟨w.heap.size, y, none⟩) (Nat.le_refl _) _⟩
            case measure => simp [intOf]; omega
        · obtain rfl : j = k := by omega
          go_wp2_with fail
          go_ret
          exact ⟨_, rfl, hb, Nat.le_refl _, G.out⟩
theorem infoBool6 : (Tryd.prog.info? 4).map (fun i => (i.zero, i.size, i.bytes)) = some (some (.bool false), 1, 1) := by kernel_rfl
theorem num_cell {w : World} {b n j : Nat} {D : Nat → Int} {T : TypeId} {q : Int} (h : w.heap[b]? = some (.cells (numArr D n) T (0, 0))) (hj : j < n) (hq : D j = q) : w.cell? ⟨b, j, none⟩ = some (.int .i64 q) := by rw [← hq]; exact blk_cell h (numArr_get hj)
theorem bol_cell {w : World} {b n j : Nat} {D : Nat → Bool} {T : TypeId} {q : Bool} (h : w.heap[b]? = some (.cells (bolArr D n) T (0, 0))) (hj : j < n) (hq : D j = q) : w.cell? ⟨b, j, none⟩ = some (.bool q) := by rw [← hq]; exact blk_cell h (bolArr_get hj)
theorem bol_step {D : Nat → Bool} {n k : Nat} {x : Bool} (hx : x = D k) : (bolArr (fun j => if k + 1 ≤ j then D j else false) n).setIfInBounds k (.bool x) = bolArr (fun j => if k ≤ j then D j else false) n := by
  rw [bolArr_set]
  refine bolArr_congr fun j _ => ?_
  by_cases e : j = k
  · subst e
    rw [if_pos rfl, if_pos (Nat.le_refl _), hx]
  · rw [if_neg e]
    by_cases e2 : k ≤ j
    · rw [if_pos e2, if_pos (by omega)]
    · rw [if_neg e2, if_neg (by omega)]
set_option maxRecDepth 100000 in
set_option maxHeartbeats 2000000 in
theorem below_any (A : Option Addr) (n c : Nat) (f : Nat → Nod) (l : Nat → Nat) (root : Int) (hs : Shp n f l) (h0 : 0 < n) (hl0 : l (n - 1) = 0) (w : World) (h : NodRd w w.heap.size A n f) :
    Calls Tryd.prog 49 #[.slice A n c, .int .i64 root] w fun e w' => ∃ g, e = .returned (.slice (some ⟨g, 0, none⟩) n n) ∧ Below w.heap.size w w' ∧ w.heap.size ≤ g ∧ w'.heap[g]? = some (.cells (bolArr (subB n l root) n) 4 (0, 0)) := by
  obtain ⟨i0, hi0, hy0, hy1, hy2⟩ := info_parts infoBool6
  have hn := h.small
  have HT := Lib.hid h
  have HS := Lib.hid hs
  clear h hs
  go_enter Tryd.func49, Tryd.ntmps49
  go_wp2_with fail
  refine (parents_any A n c f l HS.out h0 _ HT.out).mono ?_
  rintro e w2 ⟨g, rfl, hb2, hg, hG⟩
  have hgl := blk_lt hG
  have G := Lib.hid hG
  clear hG
  go_upto_region 3 with (at_make; go_loud (refine wpList_make_full _ rfl _ _ 73 rfl w2.heap.size 4 i0 _ 1 Tryd.underlying73 hi0 hy0 hy1 .i64 .i64 _ _ n rfl rfl rfl rfl (by rw [hy2]; omega) (by unfold maxLen; omega) (Nat.le_refl _) ?_; intro w3 hown3 hg3))
  obtain ⟨f1, f2, f3⟩ := own_full hown3
  have hb3 := below_grown (Below.refl w2.heap.size w2) hg3 (Nat.le_refl _) (fun x hx => by cases hx)
  rw [made_bols, bolArr_congr (E' := fun j => if n ≤ j then subB n l root j else false) (fun j hj => by rw [if_neg (by omega)])] at f1
  have G3 := Lib.hid f1
  clear hown3 hg3 f1 f2 f3
  have hn1 : ((n : Int) - 1) = ((n : Int) - 1) := rfl
  go_wp2_with fail
  go_loopw [7] (fun i wr => ∃ k : Nat, k ≤ n ∧ i = .int .i64 ((k : Int) - 1) ∧ Hid (wr.heap[w2.heap.size]? = some (.cells (bolArr (fun j => if k ≤ j then subB n l root j else false) n) 4 (0, 0))) ∧ Below w2.heap.size w2 wr) (fun i _ => (intOf i + 1).toNat)
  case atStart => exact ⟨n, Nat.le_refl _, rfl, G3, hb3⟩
  case round =>
    clear G3 hb3
    obtain ⟨k, hk, rfl, K, hb⟩ := hrel
    obtain ⟨W1, e1⟩ : ∃ W1 : World, W1 = wr := ⟨_, rfl⟩
    subst e1
    rcases Nat.eq_zero_or_pos k with hz | hz
    · subst hz
      go_wp2_with fail
      go_ret
      exact ⟨_, rfl, bcall hb2 hb, hb2.size, by rw [K.out, bolArr_congr (E' := subB n l root) (fun j _ => by rw [if_pos (Nat.zero_le _)])]⟩
    · obtain ⟨r, rfl⟩ : ∃ r, k = r + 1 := ⟨k - 1, by omega⟩
      have hr1 : (((r + 1 : Nat) : Int) - 1) = ((r : Nat) : Int) := by omega
      rw [hr1]
      have GU := Lib.hid (blk_below G.out hb)
      have q4 : W1.frozen? ⟨w2.heap.size, r, none⟩ = false := blk_free K.out _
      have e4 := bol_cell (j := r) (q := false) K.out (by omega) (by rw [if_neg (by omega)])
      by_cases hroot : (r : Int) = root
      · have hc : (((r : Nat) : Int) == root) = true := by rw [beq_iff_eq]; exact hroot
        have hv : subB n l root r = true := by
          have := in_step HS.out hl0 root (i := r) (by omega)
          rw [this, decide_eq_true hroot]
          rfl
        subst hroot
        have KF := Lib.hid (fun x : Bool => blk_set K.out r (.bool x))
        have KN : Hid ((W1.setCell ⟨w2.heap.size, r, none⟩ (.bool true)).heap[w2.heap.size]? = some (.cells (bolArr (fun j => if r ≤ j then subB n l (r : Int) j else false) n) 4 (0, 0))) := Lib.hid (by rw [KF.out true, bol_step (D := subB n l (r : Int)) hv.symm])
        go_wp2_with fail
        go_roundw
        case rel => exact ⟨r, by omega, by go_num, KN, hb.setCell (p := ⟨w2.heap.size, r, none⟩) (Nat.le_refl _) _⟩
        case measure => first | (simp [intOf]; omega) | simp [intOf]
      · have hc : (((r : Nat) : Int) == root) = false := by rw [beq_eq_false_iff_ne]; exact hroot
        have KF := Lib.hid (fun x : Bool => blk_set K.out r (.bool x))
        by_cases hlast : r + 1 = n
        · obtain ⟨u1, u2⟩ := in_last HS.out hl0 (root := root) hlast
          have y1 := num_cell (j := r) (q := -1) GU.out (by omega) u1
          have KN : Hid ((W1.setCell ⟨w2.heap.size, r, none⟩ (.bool false)).heap[w2.heap.size]? = some (.cells (bolArr (fun j => if r ≤ j then subB n l root j else false) n) 4 (0, 0))) := Lib.hid (by rw [KF.out false, bol_step (D := subB n l root) (by rw [u2, decide_eq_false hroot])])
          clear u1 u2
          go_wp2_with fail
          go_roundw
          case rel => exact ⟨r, by omega, by go_num, KN, hb.setCell (p := ⟨w2.heap.size, r, none⟩) (Nat.le_refl _) _⟩
          case measure => first | (simp [intOf]; omega) | simp [intOf]
        · obtain ⟨p, p1, p2, u1, u2⟩ := in_other HS.out hl0 (root := root) (i := r) (by omega)
          have y1 := num_cell (j := r) (q := (p : Int)) GU.out (by omega) u1
          have y2 := bol_cell (j := p) (q := subB n l root p) K.out p2 (by rw [if_pos (by omega)])
          have KN : Hid ((W1.setCell ⟨w2.heap.size, r, none⟩ (.bool (subB n l root p))).heap[w2.heap.size]? = some (.cells (bolArr (fun j => if r ≤ j then subB n l root j else false) n) 4 (0, 0))) := Lib.hid (by rw [KF.out, bol_step (D := subB n l root) (by rw [u2, decide_eq_false hroot]; rfl)])
          clear u1 u2
          go_wp2_with fail
          go_roundw
          case rel => exact ⟨r, by omega, by go_num, KN, hb.setCell (p := ⟨w2.heap.size, r, none⟩) (Nat.le_refl _) _⟩
          case measure => first | (simp [intOf]; omega) | simp [intOf]
theorem subB_rng {n : Nat} {l : Nat → Nat} {root : Int} {i : Nat} (h : subB n l root i = true) : i < n := by
  have h := of_decide_eq_true h
  omega
set_option maxRecDepth 100000 in
set_option maxHeartbeats 2000000 in
theorem refSize_any (A : Option Addr) (n c : Nat) (f : Nat → Nod) (root : Int) (w : World) (h : NodRd w w.heap.size A n f) {tt : TypeId} {fr : Nat × Nat} (hkw : w.heap[0]? = some (.cells kwArr tt fr)) :
    Calls Tryd.prog 19 #[.slice A n c, .int .i64 root] w fun e w' => e = .returned (.int .i64 ((sizeI n f root : Nat) : Int)) ∧ Below w.heap.size w w' := by
  have hn := h.small
  have HT := Lib.hid h
  have HK := Lib.hid hkw
  clear h hkw
  go_enter Tryd.func19, Tryd.ntmps19
  go_wp2_with fail
  refine (refTree_any A n c f _ HT.out HK.out).mono ?_
  rintro e w2 ⟨rfl, hb2⟩
  cases ht : treeB n f
  · have HE := Lib.hid (sizeI_bad (n := n) (f := f) (root := root) ht)
    clear ht
    go_wp2_with fail
    go_ret
    exact ⟨by rw [HE.out]; rfl, hb2⟩
  · obtain ⟨h0, hs, hl0, _⟩ := tree_shp ht
    have HE := Lib.hid (cnt_in_end (root := root) ht)
    obtain ⟨l, hl⟩ : ∃ l, begF n f = l := ⟨_, rfl⟩
    rw [hl] at HE hs hl0
    clear ht hl
    go_wp2_with fail
    refine (below_any A n c f l root hs h0 hl0 _ (HT.out.later hb2)).mono ?_
    rintro e w3 ⟨g, rfl, hb23, hg, hG⟩
    have hb3 := bcall hb2 hb23
    have G := Lib.hid hG
    clear hG hs hl0
    have hz := cnt_in_zero (n := n) (l := l) (root := root)
    go_wp2_with fail
    go_loopw [8, 7] (fun i s wr => ∃ k : Nat, k ≤ n ∧ i = .int .i64 k ∧ s = .int .i64 (cntIn n l root k) ∧ wr = w3) (fun i _ _ => n - (intOf i).toNat)
    case atStart => exact ⟨0, Nat.zero_le _, rfl, by rw [hz]; rfl, rfl⟩
    case round =>
      obtain ⟨k, hk, rfl, rfl, rfl⟩ := hrel
      have hck := cnt_in_le (n := n) (l := l) (root := root) (i := k)
      by_cases hlt : k < n
      · cases hin : subB n l root k
        · have e4 := bol_cell G.out hlt hin
          have hnx := cnt_in_miss hin
          go_wp2_with fail
          go_roundw
          case rel => exact ⟨k + 1, by omega, by go_num, by rw [hnx], trivial⟩
          case measure => simp [intOf]; omega
        · have e4 := bol_cell G.out hlt hin
          have hnx := (cnt_in_hit hin).2.2.2.2
          go_wp2_with fail
          go_roundw
          case rel => exact ⟨k + 1, by omega, by go_num, by rw [hnx.2]; go_num, trivial⟩
          case measure => simp [intOf]; omega
      · obtain rfl : k = n := by omega
        go_wp2_with fail
        go_ret
        exact ⟨by rw [HE.out]; rfl, hb3⟩
end Go.Proofs.YtagcbljfaflhoaaDoor

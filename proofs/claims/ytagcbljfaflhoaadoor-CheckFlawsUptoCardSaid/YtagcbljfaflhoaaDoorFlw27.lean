/-
  Several texts in one: RefSub, RefSub2.
-/
import Derived.Test.YtagcbljfaflhoaaDoorFlw11
import Derived.Test.YtagcbljfaflhoaaDoorFlw26
import Derived.Test.YtagcbljfaflhoaaDoorFlw6
set_option linter.unusedSimpArgs false
set_option linter.unusedVariables false
/-! ### The walks of the reference's parents, below, Size, Sub. -/
namespace Go.Proofs.YtagcbljfaflhoaaDoor
open Go.RowKit Go.ChangeShapes Go.WideShapes Go.ChangeAt Go.Deep Go.Joins
set_option maxRecDepth 100000 in
set_option maxHeartbeats 2000000 in
theorem parents_any (A : Option Addr) (n c : Nat) (f : Nat → Nod) (l : Nat → Nat) (hs : Shp n f l) (h0 : 0 < n) (w : World) (h : NodRd w w.heap.size A n f) :
    Calls Tryd.prog 50 #[.slice A n c] w fun e w' => ∃ g, e = .returned (.slice (some ⟨g, 0, none⟩) n n) ∧ Below w.heap.size w w' ∧ w.heap.size ≤ g ∧ w'.heap[g]? = some (.cells (numArr (upF f n) n) 3 (0, 0)) := by
  obtain ⟨i0, hi0, hy0, hy1, hy2⟩ := info_parts infoIntU
  have hn := h.small
  have HT := Lib.hid h
  have HS := Lib.hid hs
  clear h hs
  go_enter Tryd.func50, Tryd.ntmps50
  go_upto_region 2 with (at_make; go_loud (refine wpList_make_full _ rfl _ _ 27 rfl w.heap.size 3 i0 _ 1 Tryd.underlying27 hi0 hy0 hy1 .i64 .i64 _ _ n rfl rfl rfl rfl (by rw [hy2]; omega) (by unfold maxLen; omega) (Nat.le_refl _) ?_; intro w3 hown3 hg3))
  obtain ⟨f1, f2, f3⟩ := own_full hown3
  have hb3 := below_grown (Below.refl w.heap.size w) hg3 (Nat.le_refl _) (fun x hx => by cases hx)
  rw [made_nums, numArr_congr (D' := fun j => if j < 0 then -1 else 0) (fun j _ => by simp)] at f1
  have G3 := Lib.hid f1
  clear hown3 hg3 f1 f2 f3
  go_wp2_with fail
  go_loopw [4] (fun i wr => ∃ k : Nat, k ≤ n ∧ i = .int .i64 k ∧ Hid (wr.heap[w.heap.size]? = some (.cells (numArr (fun j => if j < k then -1 else 0) n) 3 (0, 0))) ∧ Below w.heap.size w wr) (fun i _ => n - (intOf i).toNat)
  case atStart => exact ⟨0, Nat.zero_le _, rfl, G3, hb3⟩
  case round =>
    clear G3 hb3
    obtain ⟨k, hk, rfl, G, hb⟩ := hrel
    obtain ⟨W1, e1⟩ : ∃ W1 : World, W1 = wr := ⟨_, rfl⟩
    subst e1
    by_cases hlt : k < n
    · have e4 : W1.cell? ⟨w.heap.size, k, none⟩ = some (.int .i64 (if k < k then -1 else 0)) := blk_cell G.out (numArr_get hlt)
      have q4 : W1.frozen? ⟨w.heap.size, k, none⟩ = false := blk_free G.out _
      have GF := Lib.hid (show (W1.setCell ⟨w.heap.size, k, none⟩ (.int .i64 (-1))).heap[w.heap.size]? = some (.cells (numArr (fun j => if j < k + 1 then -1 else 0) n) 3 (0, 0)) from (by
        rw [blk_set G.out k (.int .i64 (-1)), numArr_set]
        congr 2
        refine numArr_congr fun j _ => ?_
        by_cases e : j = k
        · rw [if_pos e, if_pos (by omega)]
        · rw [if_neg e]
          by_cases e2 : j < k
          · rw [if_pos e2, if_pos (by omega)]
          · rw [if_neg e2, if_neg (by omega)]))
      go_wp2_with fail
      go_roundw
      case rel => exact ⟨k + 1, by omega, by go_num, GF, hb.setCell (p := ⟨w.heap.size, k, none⟩) (Nat.le_refl _) _⟩
      case measure => simp [intOf]; omega
    · obtain rfl : k = n := by omega
      have G0 : Hid (W1.heap[w.heap.size]? = some (.cells (numArr (upF f 0) k) 3 (0, 0))) := Lib.hid (by
        rw [G.out, numArr_congr (D' := upF f 0) (fun j hj => by rw [if_pos hj]; rfl)])
      clear G
      go_wp2_with fail
      go_loopw [5] (fun i wr => ∃ j : Nat, j ≤ k ∧ i = .int .i64 j ∧ Hid (wr.heap[w.heap.size]? = some (.cells (numArr (upF f j) k) 3 (0, 0))) ∧ Below w.heap.size w wr) (fun i _ => k - (intOf i).toNat)
      case atStart => exact ⟨0, Nat.zero_le _, rfl, G0, hb⟩
      case round =>
        clear G0 hb
        obtain ⟨j, hj, rfl, G, hb⟩ := hrel
        obtain ⟨W2, e2⟩ : ∃ W2 : World, W2 = wr := ⟨_, rfl⟩
        subst e2
        by_cases hlt : j < k
        · obtain ⟨b, off, rfl, hbl, hcs⟩ := (HT.out.later hb).spot (by omega)
          obtain ⟨c0, c1, c2, c3, c4, c5⟩ := hcs j hlt
          have hle := HS.out.le j hlt
          clear hcs c0 c1 c2 c3
          have GA := Lib.hid (fun x : Nat => blk_set G.out x (.int .i64 j))
          rcases HS.out.kind j hlt with ⟨_, ka, kb, kl⟩ | ⟨_, k1, ka, kb, kl⟩ | ⟨_, k1, kb, k2, ka, kl⟩
          · have d4 := node_a (n := k) c4 ka
            have d5 := node_b (n := k) c5 kb
            clear c4 c5
            have GF : Hid (W2.heap[w.heap.size]? = some (.cells (numArr (upF f (j + 1)) k) 3 (0, 0))) := Lib.hid (by rw [G.out, up_leaf ka kb])
            go_wp2_with fail
            go_roundw
            case rel => exact ⟨j + 1, by omega, by go_num, GF, hb⟩
            case measure => simp [intOf]; omega
          · obtain ⟨x, hx⟩ : ∃ x, j - 1 = x := ⟨_, rfl⟩
            have ka : (f j).a = (x : Int) := by omega
            have hxk : x < k := by omega
            have d4 := node_a (n := k) c4 ka
            have d5 := node_b (n := k) c5 kb
            have e4 : W2.cell? ⟨w.heap.size, x, none⟩ = some (.int .i64 (upF f j x)) := blk_cell G.out (numArr_get hxk)
            have q4 : W2.frozen? ⟨w.heap.size, x, none⟩ = false := blk_free G.out _
            clear c4 c5
            have GF : Hid ((W2.setCell ⟨w.heap.size, x, none⟩ (.int .i64 j)).heap[w.heap.size]? = some (.cells (numArr (upF f (j + 1)) k) 3 (0, 0))) := Lib.hid (by rw [GA.out x, up_one ka kb])
            clear hx kl
            go_wp2_with fail
            go_roundw
            case rel => exact ⟨j + 1, by omega, by go_num, GF, hb.setCell (p := ⟨w.heap.size, x, none⟩) (Nat.le_refl _) _⟩
            case measure => simp [intOf]; omega
          · have hle1 := HS.out.le (j - 1) (by omega)
            obtain ⟨y, hy⟩ : ∃ y, j - 1 = y := ⟨_, rfl⟩
            rw [hy] at k2 ka hle1 kl
            obtain ⟨x, hx⟩ : ∃ x, l y - 1 = x := ⟨_, rfl⟩
            have ka : (f j).a = (x : Int) := by omega
            have kb : (f j).b = (y : Int) := by omega
            have hxk : x < k := by omega
            have hyk : y < k := by omega
            have hxy : x < y := by omega
            have d4 := node_a (n := k) c4 ka
            have d5 := node_b (n := k) c5 kb
            have e4 : W2.cell? ⟨w.heap.size, x, none⟩ = some (.int .i64 (upF f j x)) := blk_cell G.out (numArr_get hxk)
            have q4 : W2.frozen? ⟨w.heap.size, x, none⟩ = false := blk_free G.out _
            have e5 : (W2.setCell ⟨w.heap.size, x, none⟩ (.int .i64 j)).cell? ⟨w.heap.size, y, none⟩ = some (.int .i64 (if y = x then (j : Int) else upF f j y)) := blk_cell (GA.out x) (by rw [numArr_set]; exact numArr_get hyk)
            have q5 : (W2.setCell ⟨w.heap.size, x, none⟩ (.int .i64 j)).frozen? ⟨w.heap.size, y, none⟩ = false := blk_free (GA.out x) _
            clear c4 c5
            have GF : Hid (((W2.setCell ⟨w.heap.size, x, none⟩ (.int .i64 j)).setCell ⟨w.heap.size, y, none⟩ (.int .i64 j)).heap[w.heap.size]? = some (.cells (numArr (upF f (j + 1)) k) 3 (0, 0))) := Lib.hid (by rw [blk_set (GA.out x) y (.int .i64 j), up_two ka kb])
            clear hx kl hy k2 ka
            go_wp2_with fail
            go_roundw
            case rel => exact ⟨j + 1, by omega, by go_num, GF, (hb.setCell (p := ⟨w.heap.size, x, none⟩) (Nat.le_refl _) _).setCell (p := ⟨w.heap.size, y, none⟩) (Nat.le_refl _) _⟩
            case measure => simp [intOf]; omega
        · obtain rfl : j = k := by omega
          go_wp2_with fail
          go_ret
          exact ⟨_, rfl, hb, Nat.le_refl _, G.out⟩
theorem infoBool6 : (Tryd.prog.info? 4).map (fun i => (i.zero, i.size, i.bytes)) = some (some (.bool false), 1, 1) := by kernel_rfl
theorem num_cell {w : World} {b n j : Nat} {D : Nat → Int} {T : TypeId} {q : Int} (h : w.heap[b]? = some (.cells (numArr D n) T (0, 0))) (hj : j < n) (hq : D j = q) : w.cell? ⟨b, j, none⟩ = some (.int .i64 q) := by rw [← hq]; exact blk_cell h (numArr_get hj)
theorem bol_cell {w : World} {b n j : Nat} {D : Nat → Bool} {T : TypeId} {q : Bool} (h : w.heap[b]? = some (.cells (bolArr D n) T (0, 0))) (hj : j < n) (hq : D j = q) : w.cell? ⟨b, j, none⟩ = some (.bool q) := by rw [← hq]; exact blk_cell h (bolArr_get hj)
theorem bol_step {D : Nat → Bool} {n k : Nat} {x : Bool} (hx : x = D k) : (bolArr (fun j => if k + 1 ≤ j then D j else false) n).setIfInBounds k (.bool x) = bolArr (fun j => if k ≤ j then D j else false) n := by
  rw [bolArr_set]
  refine bolArr_congr fun j _ => ?_
  by_cases e : j = k
  · subst e
    rw [if_pos rfl, if_pos (Nat.le_refl _), hx]
  · rw [if_neg e]
    by_cases e2 : k ≤ j
    · rw [if_pos e2, if_pos (by omega)]
    · rw [if_neg e2, if_neg (by omega)]
set_option maxRecDepth 100000 in
set_option maxHeartbeats 2000000 in
theorem below_any (A : Option Addr) (n c : Nat) (f : Nat → Nod) (l : Nat → Nat) (root : Int) (hs : Shp n f l) (h0 : 0 < n) (hl0 : l (n - 1) = 0) (w : World) (h : NodRd w w.heap.size A n f) :
    Calls Tryd.prog 49 #[.slice A n c, .int .i64 root] w fun e w' => ∃ g, e = .returned (.slice (some ⟨g, 0, none⟩) n n) ∧ Below w.heap.size w w' ∧ w.heap.size ≤ g ∧ w'.heap[g]? = some (.cells (bolArr (subB n l root) n) 4 (0, 0)) := by
  obtain ⟨i0, hi0, hy0, hy1, hy2⟩ := info_parts infoBool6
  have hn := h.small
  have HT := Lib.hid h
  have HS := Lib.hid hs
  clear h hs
  go_enter Tryd.func49, Tryd.ntmps49
  go_wp2_with fail
  refine (parents_any A n c f l HS.out h0 _ HT.out).mono ?_
  rintro e w2 ⟨g, rfl, hb2, hg, hG⟩
  have hgl := blk_lt hG
  have G := Lib.hid hG
  clear hG
  go_upto_region 3 with (at_make; go_loud (refine wpList_make_full _ rfl _ _ 73 rfl w2.heap.size 4 i0 _ 1 Tryd.underlying73 hi0 hy0 hy1 .i64 .i64 _ _ n rfl rfl rfl rfl (by rw [hy2]; omega) (by unfold maxLen; omega) (Nat.le_refl _) ?_; intro w3 hown3 hg3))
  obtain ⟨f1, f2, f3⟩ := own_full hown3
  have hb3 := below_grown (Below.refl w2.heap.size w2) hg3 (Nat.le_refl _) (fun x hx => by cases hx)
  rw [made_bols, bolArr_congr (E' := fun j => if n ≤ j then subB n l root j else false) (fun j hj => by rw [if_neg (by omega)])] at f1
  have G3 := Lib.hid f1
  clear hown3 hg3 f1 f2 f3
  have hn1 : ((n : Int) - 1) = ((n : Int) - 1) := rfl
  go_wp2_with fail
  go_loopw [7] (fun i wr => ∃ k : Nat, k ≤ n ∧ i = .int .i64 ((k : Int) - 1) ∧ Hid (wr.heap[w2.heap.size]? = some (.cells (bolArr (fun j => if k ≤ j then subB n l root j else false) n) 4 (0, 0))) ∧ Below w2.heap.size w2 wr) (fun i _ => (intOf i + 1).toNat)
  case atStart => exact ⟨n, Nat.le_refl _, rfl, G3, hb3⟩
  case round =>
    clear G3 hb3
    obtain ⟨k, hk, rfl, K, hb⟩ := hrel
    obtain ⟨W1, e1⟩ : ∃ W1 : World, W1 = wr := ⟨_, rfl⟩
    subst e1
    rcases Nat.eq_zero_or_pos k with hz | hz
    · subst hz
      go_wp2_with fail
      go_ret
      exact ⟨_, rfl, bcall hb2 hb, hb2.size, by rw [K.out, bolArr_congr (E' := subB n l root) (fun j _ => by rw [if_pos (Nat.zero_le _)])]⟩
    · obtain ⟨r, rfl⟩ : ∃ r, k = r + 1 := ⟨k - 1, by omega⟩
      have hr1 : (((r + 1 : Nat) : Int) - 1) = ((r : Nat) : Int) := by omega
      rw [hr1]
      have GU := Lib.hid (blk_below G.out hb)
      have q4 : W1.frozen? ⟨w2.heap.size, r, none⟩ = false := blk_free K.out _
      have e4 := bol_cell (j := r) (q := false) K.out (by omega) (by rw [if_neg (by omega)])
      by_cases hroot : (r : Int) = root
      · have hc : (((r : Nat) : Int) == root) = true := by rw [beq_iff_eq]; exact hroot
        have hv : subB n l root r = true := by
          have := in_step HS.out hl0 root (i := r) (by omega)
          rw [this, decide_eq_true hroot]
          rfl
        subst hroot
        have KF := Lib.hid (fun x : Bool => blk_set K.out r (.bool x))
        have KN : Hid ((W1.setCell ⟨w2.heap.size, r, none⟩ (.bool true)).heap[w2.heap.size]? = some (.cells (bolArr (fun j => if r ≤ j then subB n l (r : Int) j else false) n) 4 (0, 0))) := Lib.hid (by rw [KF.out true, bol_step (D := subB n l (r : Int)) hv.symm])
        go_wp2_with fail
        go_roundw
        case rel => exact ⟨r, by omega, by go_num, KN, hb.setCell (p := ⟨w2.heap.size, r, none⟩) (Nat.le_refl _) _⟩
        case measure => first | (simp [intOf]; omega) | simp [intOf]
      · have hc : (((r : Nat) : Int) == root) = false := by rw [beq_eq_false_iff_ne]; exact hroot
        have KF := Lib.hid (fun x : Bool => blk_set K.out r (.bool x))
        by_cases hlast : r + 1 = n
        · obtain ⟨u1, u2⟩ := in_last HS.out hl0 (root := root) hlast
          have y1 := num_cell (j := r) (q := -1) GU.out (by omega) u1
          have KN : Hid ((W1.setCell ⟨w2.heap.size, r, none⟩ (.bool false)).heap[w2.heap.size]? = some (.cells (bolArr (fun j => if r ≤ j then subB n l root j else false) n) 4 (0, 0))) := Lib.hid (by rw [KF.out false, bol_step (D := subB n l root) (by rw [u2, decide_eq_false hroot])])
          clear u1 u2
          go_wp2_with fail
          go_roundw
          case rel => exact ⟨r, by omega, by go_num, KN, hb.setCell (p := ⟨w2.heap.size, r, none⟩) (Nat.le_refl _) _⟩
          case measure => first | (simp [intOf]; omega) | simp [intOf]
        · obtain ⟨p, p1, p2, u1, u2⟩ := in_other HS.out hl0 (root := root) (i := r) (by omega)
          have y1 := num_cell (j := r) (q := (p : Int)) GU.out (by omega) u1
          have y2 := bol_cell (j := p) (q := subB n l root p) K.out p2 (by rw [if_pos (by omega)])
          have KN : Hid ((W1.setCell ⟨w2.heap.size, r, none⟩ (.bool (subB n l root p))).heap[w2.heap.size]? = some (.cells (bolArr (fun j => if r ≤ j then subB n l root j else false) n) 4 (0, 0))) := Lib.hid (by rw [KF.out, bol_step (D := subB n l root) (by rw [u2, decide_eq_false hroot]; rfl)])
          clear u1 u2
          go_wp2_with fail
          go_roundw
          case rel => exact ⟨r, by omega, by go_num, KN, hb.setCell (p := ⟨w2.heap.size, r, none⟩) (Nat.le_refl _) _⟩
          case measure => first | (simp [intOf]; omega) | simp [intOf]
theorem subB_rng {n : Nat} {l : Nat → Nat} {root : Int} {i : Nat} (h : subB n l root i = true) : i < n := by
  have h := of_decide_eq_true h
  omega
set_option maxRecDepth 100000 in
set_option maxHeartbeats 2000000 in
theorem refSize_any (A : Option Addr) (n c : Nat) (f : Nat → Nod) (root : Int) (w : World) (h : NodRd w w.heap.size A n f) {tt : TypeId} {fr : Nat × Nat} (hkw : w.heap[0]? = some (.cells kwArr tt fr)) :
    Calls Tryd.prog 19 #[.slice A n c, .int .i64 root] w fun e w' => e = .returned (.int .i64 ((sizeI n f root : Nat) : Int)) ∧ Below w.heap.size w w' := by
  have hn := h.small
  have HT := Lib.hid h
  have HK := Lib.hid hkw
  clear h hkw
  go_enter Tryd.func19, Tryd.ntmps19
  go_wp2_with fail
  refine (refTree_any A n c f _ HT.out HK.out).mono ?_
  rintro e w2 ⟨rfl, hb2⟩
  cases ht : treeB n f
  · have HE := Lib.hid (sizeI_bad (n := n) (f := f) (root := root) ht)
    clear ht
    go_wp2_with fail
    go_ret
    exact ⟨by rw [HE.out]; rfl, hb2⟩
  · obtain ⟨h0, hs, hl0, _⟩ := tree_shp ht
    have HE := Lib.hid (cnt_in_end (root := root) ht)
    obtain ⟨l, hl⟩ : ∃ l, begF n f = l := ⟨_, rfl⟩
    rw [hl] at HE hs hl0
    clear ht hl
    go_wp2_with fail
    refine (below_any A n c f l root hs h0 hl0 _ (HT.out.later hb2)).mono ?_
    rintro e w3 ⟨g, rfl, hb23, hg, hG⟩
    have hb3 := bcall hb2 hb23
    have G := Lib.hid hG
    clear hG hs hl0
    have hz := cnt_in_zero (n := n) (l := l) (root := root)
    go_wp2_with fail
    go_loopw [8, 7] (fun i s wr => ∃ k : Nat, k ≤ n ∧ i = .int .i64 k ∧ s = .int .i64 (cntIn n l root k) ∧ wr = w3) (fun i _ _ => n - (intOf i).toNat)
    case atStart => exact ⟨0, Nat.zero_le _, rfl, by rw [hz]; rfl, rfl⟩
    case round =>
      obtain ⟨k, hk, rfl, rfl, rfl⟩ := hrel
      have hck := cnt_in_le (n := n) (l := l) (root := root) (i := k)
      by_cases hlt : k < n
      · cases hin : subB n l root k
        · have e4 := bol_cell G.out hlt hin
          have hnx := cnt_in_miss hin
          go_wp2_with fail
          go_roundw
          case rel => exact ⟨k + 1, by omega, by go_num, by rw [hnx], trivial⟩
          case measure => simp [intOf]; omega
        · have e4 := bol_cell G.out hlt hin
          have hnx := (cnt_in_hit hin).2.2.2.2
          go_wp2_with fail
          go_roundw
          case rel => exact ⟨k + 1, by omega, by go_num, by rw [hnx.2]; go_num, trivial⟩
          case measure => simp [intOf]; omega
      · obtain rfl : k = n := by omega
        go_wp2_with fail
        go_ret
        exact ⟨by rw [HE.out]; rfl, hb3⟩
end Go.Proofs.YtagcbljfaflhoaaDoor

/-! ### The walk of the reference's Sub. -/
namespace Go.Proofs.YtagcbljfaflhoaaDoor
open Go.RowKit Go.ChangeShapes Go.WideShapes Go.ChangeAt Go.Deep Go.Joins
set_option maxRecDepth 100000 in
set_option maxHeartbeats 4000000 in
theorem refSub_any (A : Option Addr) (n c : Nat) (f : Nat → Nod) (root : Int) (w : World) (h : NodRd w w.heap.size A n f) {tt : TypeId} {fr : Nat × Nat} (hkw : w.heap[0]? = some (.cells kwArr tt fr)) :
    Calls Tryd.prog 17 #[.slice A n c, .int .i64 root] w fun e w' => ∃ v', e = .returned v' ∧ Below w.heap.size w w' ∧ w'.ownsRow w.heap.size 60 6 v' (sizeI n f root) (flat (fun j => nodCell (subF n f root j)) 6 (sizeI n f root)) := by
  obtain ⟨i0, hi0, hy0, hy1, hy2⟩ := info_parts infoNode
  have hn := h.small
  have HT := Lib.hid h
  have HK := Lib.hid hkw
  clear h hkw
  go_enter Tryd.func17, Tryd.ntmps17
  go_wp2_with fail
  refine (refTree_any A n c f _ HT.out HK.out).mono ?_
  rintro e w2 ⟨rfl, hb2⟩
  cases ht : treeB n f
  · have HE := Lib.hid (sizeI_bad (n := n) (f := f) (root := root) ht)
    clear ht
    go_wp2_with fail
    go_ret
    exact ⟨_, rfl, hb2, by rw [HE.out, flat_zero]; exact World.ownsRow_nil _ _ _ _⟩
  · obtain ⟨h0, hs, hl0, _⟩ := tree_shp ht
    have HE := Lib.hid (cnt_in_end (root := root) ht)
    have hf : ∀ j, subF n f root j = shiftN (f (begF n f root.toNat + j)) (begF n f root.toNat) := fun _ => rfl
    obtain ⟨l, hl⟩ : ∃ l, begF n f = l := ⟨_, rfl⟩
    rw [hl] at HE hs hl0 hf
    obtain ⟨q, hq⟩ : ∃ q, l root.toNat = q := ⟨_, rfl⟩
    rw [hq] at hf
    have HF := Lib.hid hf
    have HC : Hid (∀ i, subB n l root i = true → cntIn n l root i = i - q ∧ cntIn n l root (i + 1) = i - q + 1 ∧ q ≤ i) := Lib.hid (fun i hi => by obtain ⟨_, _, a, _, b, c⟩ := cnt_in_hit hi; rw [hq] at a b c; exact ⟨b, c, a⟩)
    have HS := Lib.hid hs
    clear ht hl hf hq
    go_wp2_with fail
    refine (below_any A n c f l root hs h0 hl0 _ (HT.out.later hb2)).mono ?_
    rintro e w3 ⟨g, rfl, hb23, hg, hG⟩
    have hb3 := bcall hb2 hb23
    have G := Lib.hid hG
    clear hG hs hl0
    have hz := cnt_in_zero (n := n) (l := l) (root := root)
    go_wp2_with fail
    go_loopw [9, 8, 7] (fun i s v wr => ∃ (k : Nat) (s0 : Int) (v0 : Value), k ≤ n ∧ i = .int .i64 k ∧ s = .int .i64 s0 ∧ v = v0 ∧ ((cntIn n l root k = 0 → s0 = -1) ∧ (cntIn n l root k ≠ 0 → s0 = q)) ∧ Below w3.heap.size w3 wr ∧ Hid (wr.ownsRow w3.heap.size 60 6 v0 (cntIn n l root k) (flat (fun j => nodCell (subF n f root j)) 6 (cntIn n l root k)))) (fun i _ _ _ => n - (intOf i).toNat)
    case atStart => exact ⟨0, -1, _, Nat.zero_le _, rfl, rfl, rfl, ⟨fun _ => rfl, fun h => absurd hz h⟩, Below.refl _ _, Lib.hid (by rw [hz, flat_zero]; exact World.ownsRow_nil _ _ _ _)⟩
    case round =>
      obtain ⟨k, s0, v, hk, rfl, rfl, hv, ⟨hs1, hs2⟩, hb, HV⟩ := hrel
      have hv := hv.symm
      subst hv
      obtain ⟨W1, e1⟩ : ∃ W1 : World, W1 = wr := ⟨_, rfl⟩
      subst e1
      have hck := cnt_in_le (n := n) (l := l) (root := root) (i := k)
      by_cases hlt : k < n
      · have GU := Lib.hid (blk_below G.out hb)
        cases hin : subB n l root k
        · have e4 := bol_cell GU.out hlt hin
          have hnx := cnt_in_miss hin
          go_wp2_with fail
          go_roundw
          case rel => exact ⟨k + 1, s0, v, by omega, by go_num, rfl, rfl, by rw [hnx]; exact ⟨hs1, hs2⟩, hb, by rw [hnx]; exact HV⟩
          case measure => simp [intOf]; omega
        · have e4 := bol_cell GU.out hlt hin
          obtain ⟨hn1, hn2, hn3⟩ := HC.out k hin
          obtain ⟨b, off, rfl, hbl, hcs⟩ := (HT.out.later (bcall hb3 hb)).spot (by omega)
          obtain ⟨g0, g1, g2, g3, g4, g5⟩ := hcs k hlt
          have HN := Lib.hid (HF.out (k - q))
          have hkq : q + (k - q) = k := by omega
          rw [hkq] at HN
          obtain ⟨x, hx⟩ : ∃ x, f k = x := ⟨_, rfl⟩
          rw [hx] at g0 g1 g2 g3 g4 g5 HN
          obtain ⟨op, nn, vr, at_, a, b2⟩ := x
          have HX := Lib.hid hx
          rw [hn1] at HV
          have hne : ∀ u, Value.ownBlock u = some W1.heap.size → ¬ W1.ownsRow w3.heap.size 60 6 u (k - q) (flat (fun j => nodCell (subF n f root j)) 6 (k - q)) := fun u hu hr => by have := (hr.lt _ hu).2; omega
          have I5 := Lib.hid (blk_new W1 #[.int .i64 op, .int .i64 nn, .string vr, .string at_, .int .i64 a, .int .i64 b2] 60)
          have hb5 := hb.alloc hb.size (.cells #[.int .i64 op, .int .i64 nn, .string vr, .string at_, .int .i64 a, .int .i64 b2] 60)
          have hz5 : W1.heap.size < (W1.alloc (.cells #[.int .i64 op, .int .i64 nn, .string vr, .string at_, .int .i64 a, .int .i64 b2] 60)).heap.size := by simp
          have HV5 := Lib.hid (World.ownsRow.alloc HV.out (.cells #[.int .i64 op, .int .i64 nn, .string vr, .string at_, .int .i64 a, .int .i64 b2] 60))
          have hnb := fun hv => hne _ hv HV.out
          have hbs := hb.size
          obtain ⟨rg1, rg2, rg3, rg4⟩ : -1 ≤ a ∧ a < (k : Int) ∧ -1 ≤ b2 ∧ b2 < (k : Int) := by have := HS.out.rng hlt; rw [hx] at this; exact this
          clear hcs hn3 hne HV hx
          by_cases hkq2 : k = q
          · subst hkq2
            obtain rfl := hs1 (by omega)
            go_upto_region 14 with fail
            generalize W1.alloc _ = w5 at *
            clear g0 g1 g2 g3 g4 g5
            have t4 := blk_cell I5.out (j := 4) rfl
            have t5 := blk_cell I5.out (j := 5) rfl
            have r4 := blk_free I5.out 4
            have r5 := blk_free I5.out 5
            by_cases ha : 0 ≤ a
            all_goals by_cases hb2' : 0 ≤ b2
            · have HN6 : Hid (subF n f root (k - k) = ⟨op, nn, vr, at_, (a - k), (b2 - k)⟩) := Lib.hid (by rw [HN.out]; simp [shiftN, ha, hb2'])
              have I6 : Hid (((w5.setCell ⟨W1.heap.size, 4, none⟩ (.int .i64 (a - k))).setCell ⟨W1.heap.size, 5, none⟩ (.int .i64 (b2 - k))).heap[W1.heap.size]? = some (.cells #[.int .i64 op, .int .i64 nn, .string vr, .string at_, .int .i64 (a - k), .int .i64 (b2 - k)] 60 (0, 0))) := Lib.hid (blk_set (blk_set I5.out 4 (.int .i64 (a - k))) 5 (.int .i64 (b2 - k)))
              have HV6 := Lib.hid (rowown_far (g := W1.heap.size) (i := 5) (rowown_far (g := W1.heap.size) (i := 4) HV5.out hnb (.int .i64 (a - k))) hnb (.int .i64 (b2 - k)))
              have hb6 := ((hb5.setCell (p := ⟨W1.heap.size, 4, none⟩) hbs (.int .i64 (a - k))).setCell (p := ⟨W1.heap.size, 5, none⟩) hbs (.int .i64 (b2 - k)))
              have hz6 : W1.heap.size < ((w5.setCell ⟨W1.heap.size, 4, none⟩ (.int .i64 (a - k))).setCell ⟨W1.heap.size, 5, none⟩ (.int .i64 (b2 - k))).heap.size := by simpa using hz5
              go_upto_region 18 with fail
              generalize World.setCell _ _ _ = w6 at *
              clear t4 t5 r4 r5
              go_wp2_with (first | (refine wpList_load_row rfl 60 _ rfl W1.heap.size rfl 60 _ (0, 0) _ I6.out Tryd.underlying60 rfl (by kernel_rfl) ?_) | (at_builtin; go_loud (refine wpList_append_lies _ rfl _ _ _ rfl w3.heap.size 60 i0 _ 6 64 Tryd.underlying22 hi0 hy0 hy1 hy2 rfl (by omega) v (k - k) (flat (fun j => nodCell (subF n f root j)) 6 (k - k)) rfl (HV6.out.alloc _) ⟨w6.heap.size, 0, none⟩ 1 1 [.int .i64 op, .int .i64 nn, .string vr, .string at_, .int .i64 (a - k), .int .i64 (b2 - k)] rfl rfl (World.news_of_block (cs := #[.int .i64 op, .int .i64 nn, .string vr, .string at_, .int .i64 (a - k), .int .i64 (b2 - k)]) (t := 60) (fr := (0, 0)) (heap_alloc_new w6 _)) (by simp [Value.oneCell']) (by omega) (by unfold maxLen; omega) (by omega) (by simp; omega) (w6.heap.size + 1) (by simp) ?_; intro gg gcap w9 hown9 hgrow hat hlt9)))
              have hb9 := below_grown (hb6.alloc (by omega) (.cells #[.int .i64 op, .int .i64 nn, .string vr, .string at_, .int .i64 (a - k), .int .i64 (b2 - k)] 60)) hgrow (by simp; omega) (fun x hx => (HV6.out.lt x hx).1)
              have HV9 : Hid (w9.ownsRow w3.heap.size 60 6 (.slice (some ⟨gg, 0, none⟩) (k - k + 1) gcap) (cntIn n l root (k + 1)) (flat (fun j => nodCell (subF n f root j)) 6 (cntIn n l root (k + 1)))) := Lib.hid (by
                rw [hn2, flat_succ, HN6.out]
                exact hown9)
              go_roundw
              case rel => exact ⟨k + 1, _, _, by omega, by go_num, rfl, rfl, ⟨fun h => by omega, fun _ => by omega⟩, hb9, (by first | exact HV9 | simpa using HV9)⟩
              case measure => simp [intOf]; omega
            · have HN6 : Hid (subF n f root (k - k) = ⟨op, nn, vr, at_, (a - k), b2⟩) := Lib.hid (by rw [HN.out]; simp [shiftN, ha, hb2'])
              have I6 : Hid ((w5.setCell ⟨W1.heap.size, 4, none⟩ (.int .i64 (a - k))).heap[W1.heap.size]? = some (.cells #[.int .i64 op, .int .i64 nn, .string vr, .string at_, .int .i64 (a - k), .int .i64 b2] 60 (0, 0))) := Lib.hid (blk_set I5.out 4 (.int .i64 (a - k)))
              have HV6 := Lib.hid (rowown_far (g := W1.heap.size) (i := 4) HV5.out hnb (.int .i64 (a - k)))
              have hb6 := (hb5.setCell (p := ⟨W1.heap.size, 4, none⟩) hbs (.int .i64 (a - k)))
              have hz6 : W1.heap.size < (w5.setCell ⟨W1.heap.size, 4, none⟩ (.int .i64 (a - k))).heap.size := by simpa using hz5
              go_upto_region 18 with fail
              generalize World.setCell _ _ _ = w6 at *
              clear t4 t5 r4 r5
              go_wp2_with (first | (refine wpList_load_row rfl 60 _ rfl W1.heap.size rfl 60 _ (0, 0) _ I6.out Tryd.underlying60 rfl (by kernel_rfl) ?_) | (at_builtin; go_loud (refine wpList_append_lies _ rfl _ _ _ rfl w3.heap.size 60 i0 _ 6 64 Tryd.underlying22 hi0 hy0 hy1 hy2 rfl (by omega) v (k - k) (flat (fun j => nodCell (subF n f root j)) 6 (k - k)) rfl (HV6.out.alloc _) ⟨w6.heap.size, 0, none⟩ 1 1 [.int .i64 op, .int .i64 nn, .string vr, .string at_, .int .i64 (a - k), .int .i64 b2] rfl rfl (World.news_of_block (cs := #[.int .i64 op, .int .i64 nn, .string vr, .string at_, .int .i64 (a - k), .int .i64 b2]) (t := 60) (fr := (0, 0)) (heap_alloc_new w6 _)) (by simp [Value.oneCell']) (by omega) (by unfold maxLen; omega) (by omega) (by simp; omega) (w6.heap.size + 1) (by simp) ?_; intro gg gcap w9 hown9 hgrow hat hlt9)))
              have hb9 := below_grown (hb6.alloc (by omega) (.cells #[.int .i64 op, .int .i64 nn, .string vr, .string at_, .int .i64 (a - k), .int .i64 b2] 60)) hgrow (by simp; omega) (fun x hx => (HV6.out.lt x hx).1)
              have HV9 : Hid (w9.ownsRow w3.heap.size 60 6 (.slice (some ⟨gg, 0, none⟩) (k - k + 1) gcap) (cntIn n l root (k + 1)) (flat (fun j => nodCell (subF n f root j)) 6 (cntIn n l root (k + 1)))) := Lib.hid (by
                rw [hn2, flat_succ, HN6.out]
                exact hown9)
              go_roundw
              case rel => exact ⟨k + 1, _, _, by omega, by go_num, rfl, rfl, ⟨fun h => by omega, fun _ => by omega⟩, hb9, (by first | exact HV9 | simpa using HV9)⟩
              case measure => simp [intOf]; omega
            · have HN6 : Hid (subF n f root (k - k) = ⟨op, nn, vr, at_, a, (b2 - k)⟩) := Lib.hid (by rw [HN.out]; simp [shiftN, ha, hb2'])
              have I6 : Hid ((w5.setCell ⟨W1.heap.size, 5, none⟩ (.int .i64 (b2 - k))).heap[W1.heap.size]? = some (.cells #[.int .i64 op, .int .i64 nn, .string vr, .string at_, .int .i64 a, .int .i64 (b2 - k)] 60 (0, 0))) := Lib.hid (blk_set I5.out 5 (.int .i64 (b2 - k)))
              have HV6 := Lib.hid (rowown_far (g := W1.heap.size) (i := 5) HV5.out hnb (.int .i64 (b2 - k)))
              have hb6 := (hb5.setCell (p := ⟨W1.heap.size, 5, none⟩) hbs (.int .i64 (b2 - k)))
              have hz6 : W1.heap.size < (w5.setCell ⟨W1.heap.size, 5, none⟩ (.int .i64 (b2 - k))).heap.size := by simpa using hz5
              go_upto_region 18 with fail
              generalize World.setCell _ _ _ = w6 at *
              clear t4 t5 r4 r5
              go_wp2_with (first | (refine wpList_load_row rfl 60 _ rfl W1.heap.size rfl 60 _ (0, 0) _ I6.out Tryd.underlying60 rfl (by kernel_rfl) ?_) | (at_builtin; go_loud (refine wpList_append_lies _ rfl _ _ _ rfl w3.heap.size 60 i0 _ 6 64 Tryd.underlying22 hi0 hy0 hy1 hy2 rfl (by omega) v (k - k) (flat (fun j => nodCell (subF n f root j)) 6 (k - k)) rfl (HV6.out.alloc _) ⟨w6.heap.size, 0, none⟩ 1 1 [.int .i64 op, .int .i64 nn, .string vr, .string at_, .int .i64 a, .int .i64 (b2 - k)] rfl rfl (World.news_of_block (cs := #[.int .i64 op, .int .i64 nn, .string vr, .string at_, .int .i64 a, .int .i64 (b2 - k)]) (t := 60) (fr := (0, 0)) (heap_alloc_new w6 _)) (by simp [Value.oneCell']) (by omega) (by unfold maxLen; omega) (by omega) (by simp; omega) (w6.heap.size + 1) (by simp) ?_; intro gg gcap w9 hown9 hgrow hat hlt9)))
              have hb9 := below_grown (hb6.alloc (by omega) (.cells #[.int .i64 op, .int .i64 nn, .string vr, .string at_, .int .i64 a, .int .i64 (b2 - k)] 60)) hgrow (by simp; omega) (fun x hx => (HV6.out.lt x hx).1)
              have HV9 : Hid (w9.ownsRow w3.heap.size 60 6 (.slice (some ⟨gg, 0, none⟩) (k - k + 1) gcap) (cntIn n l root (k + 1)) (flat (fun j => nodCell (subF n f root j)) 6 (cntIn n l root (k + 1)))) := Lib.hid (by
                rw [hn2, flat_succ, HN6.out]
                exact hown9)
              go_roundw
              case rel => exact ⟨k + 1, _, _, by omega, by go_num, rfl, rfl, ⟨fun h => by omega, fun _ => by omega⟩, hb9, (by first | exact HV9 | simpa using HV9)⟩
              case measure => simp [intOf]; omega
            · have HN6 : Hid (subF n f root (k - k) = ⟨op, nn, vr, at_, a, b2⟩) := Lib.hid (by rw [HN.out]; simp [shiftN, ha, hb2'])
              have I6 : Hid (w5.heap[W1.heap.size]? = some (.cells #[.int .i64 op, .int .i64 nn, .string vr, .string at_, .int .i64 a, .int .i64 b2] 60 (0, 0))) := Lib.hid I5.out
              have HV6 := Lib.hid HV5.out
              have hb6 := hb5
              have hz6 : W1.heap.size < w5.heap.size := by simpa using hz5
              go_upto_region 18 with fail
              clear t4 t5 r4 r5
              go_wp2_with (first | (refine wpList_load_row rfl 60 _ rfl W1.heap.size rfl 60 _ (0, 0) _ I6.out Tryd.underlying60 rfl (by kernel_rfl) ?_) | (at_builtin; go_loud (refine wpList_append_lies _ rfl _ _ _ rfl w3.heap.size 60 i0 _ 6 64 Tryd.underlying22 hi0 hy0 hy1 hy2 rfl (by omega) v (k - k) (flat (fun j => nodCell (subF n f root j)) 6 (k - k)) rfl (HV6.out.alloc _) ⟨w5.heap.size, 0, none⟩ 1 1 [.int .i64 op, .int .i64 nn, .string vr, .string at_, .int .i64 a, .int .i64 b2] rfl rfl (World.news_of_block (cs := #[.int .i64 op, .int .i64 nn, .string vr, .string at_, .int .i64 a, .int .i64 b2]) (t := 60) (fr := (0, 0)) (heap_alloc_new w5 _)) (by simp [Value.oneCell']) (by omega) (by unfold maxLen; omega) (by omega) (by simp; omega) (w5.heap.size + 1) (by simp) ?_; intro gg gcap w9 hown9 hgrow hat hlt9)))
              have hb9 := below_grown (hb6.alloc (by omega) (.cells #[.int .i64 op, .int .i64 nn, .string vr, .string at_, .int .i64 a, .int .i64 b2] 60)) hgrow (by simp; omega) (fun x hx => (HV6.out.lt x hx).1)
              have HV9 : Hid (w9.ownsRow w3.heap.size 60 6 (.slice (some ⟨gg, 0, none⟩) (k - k + 1) gcap) (cntIn n l root (k + 1)) (flat (fun j => nodCell (subF n f root j)) 6 (cntIn n l root (k + 1)))) := Lib.hid (by
                rw [hn2, flat_succ, HN6.out]
                exact hown9)
              go_roundw
              case rel => exact ⟨k + 1, _, _, by omega, by go_num, rfl, rfl, ⟨fun h => by omega, fun _ => by omega⟩, hb9, (by first | exact HV9 | simpa using HV9)⟩
              case measure => simp [intOf]; omega
          · obtain rfl := hs2 (by omega)
            have hq0 : ¬ (q : Int) < 0 := by omega
            go_upto_region 14 with fail
            generalize W1.alloc _ = w5 at *
            clear g0 g1 g2 g3 g4 g5
            have t4 := blk_cell I5.out (j := 4) rfl
            have t5 := blk_cell I5.out (j := 5) rfl
            have r4 := blk_free I5.out 4
            have r5 := blk_free I5.out 5
            by_cases ha : 0 ≤ a
            all_goals by_cases hb2' : 0 ≤ b2
            · have HN6 : Hid (subF n f root (k - q) = ⟨op, nn, vr, at_, (a - q), (b2 - q)⟩) := Lib.hid (by rw [HN.out]; simp [shiftN, ha, hb2'])
              have I6 : Hid (((w5.setCell ⟨W1.heap.size, 4, none⟩ (.int .i64 (a - q))).setCell ⟨W1.heap.size, 5, none⟩ (.int .i64 (b2 - q))).heap[W1.heap.size]? = some (.cells #[.int .i64 op, .int .i64 nn, .string vr, .string at_, .int .i64 (a - q), .int .i64 (b2 - q)] 60 (0, 0))) := Lib.hid (blk_set (blk_set I5.out 4 (.int .i64 (a - q))) 5 (.int .i64 (b2 - q)))
              have HV6 := Lib.hid (rowown_far (g := W1.heap.size) (i := 5) (rowown_far (g := W1.heap.size) (i := 4) HV5.out hnb (.int .i64 (a - q))) hnb (.int .i64 (b2 - q)))
              have hb6 := ((hb5.setCell (p := ⟨W1.heap.size, 4, none⟩) hbs (.int .i64 (a - q))).setCell (p := ⟨W1.heap.size, 5, none⟩) hbs (.int .i64 (b2 - q)))
              have hz6 : W1.heap.size < ((w5.setCell ⟨W1.heap.size, 4, none⟩ (.int .i64 (a - q))).setCell ⟨W1.heap.size, 5, none⟩ (.int .i64 (b2 - q))).heap.size := by simpa using hz5
              go_upto_region 18 with fail
              generalize World.setCell _ _ _ = w6 at *
              clear t4 t5 r4 r5
              go_wp2_with (first | (refine wpList_load_row rfl 60 _ rfl W1.heap.size rfl 60 _ (0, 0) _ I6.out Tryd.underlying60 rfl (by kernel_rfl) ?_) | (at_builtin; go_loud (refine wpList_append_lies _ rfl _ _ _ rfl w3.heap.size 60 i0 _ 6 64 Tryd.underlying22 hi0 hy0 hy1 hy2 rfl (by omega) v (k - q) (flat (fun j => nodCell (subF n f root j)) 6 (k - q)) rfl (HV6.out.alloc _) ⟨w6.heap.size, 0, none⟩ 1 1 [.int .i64 op, .int .i64 nn, .string vr, .string at_, .int .i64 (a - q), .int .i64 (b2 - q)] rfl rfl (World.news_of_block (cs := #[.int .i64 op, .int .i64 nn, .string vr, .string at_, .int .i64 (a - q), .int .i64 (b2 - q)]) (t := 60) (fr := (0, 0)) (heap_alloc_new w6 _)) (by simp [Value.oneCell']) (by omega) (by unfold maxLen; omega) (by omega) (by simp; omega) (w6.heap.size + 1) (by simp) ?_; intro gg gcap w9 hown9 hgrow hat hlt9)))
              have hb9 := below_grown (hb6.alloc (by omega) (.cells #[.int .i64 op, .int .i64 nn, .string vr, .string at_, .int .i64 (a - q), .int .i64 (b2 - q)] 60)) hgrow (by simp; omega) (fun x hx => (HV6.out.lt x hx).1)
              have HV9 : Hid (w9.ownsRow w3.heap.size 60 6 (.slice (some ⟨gg, 0, none⟩) (k - q + 1) gcap) (cntIn n l root (k + 1)) (flat (fun j => nodCell (subF n f root j)) 6 (cntIn n l root (k + 1)))) := Lib.hid (by
                rw [hn2, flat_succ, HN6.out]
                exact hown9)
              go_roundw
              case rel => exact ⟨k + 1, _, _, by omega, by go_num, rfl, rfl, ⟨fun h => by omega, fun _ => by omega⟩, hb9, (by first | exact HV9 | simpa using HV9)⟩
              case measure => simp [intOf]; omega
            · have HN6 : Hid (subF n f root (k - q) = ⟨op, nn, vr, at_, (a - q), b2⟩) := Lib.hid (by rw [HN.out]; simp [shiftN, ha, hb2'])
              have I6 : Hid ((w5.setCell ⟨W1.heap.size, 4, none⟩ (.int .i64 (a - q))).heap[W1.heap.size]? = some (.cells #[.int .i64 op, .int .i64 nn, .string vr, .string at_, .int .i64 (a - q), .int .i64 b2] 60 (0, 0))) := Lib.hid (blk_set I5.out 4 (.int .i64 (a - q)))
              have HV6 := Lib.hid (rowown_far (g := W1.heap.size) (i := 4) HV5.out hnb (.int .i64 (a - q)))
              have hb6 := (hb5.setCell (p := ⟨W1.heap.size, 4, none⟩) hbs (.int .i64 (a - q)))
              have hz6 : W1.heap.size < (w5.setCell ⟨W1.heap.size, 4, none⟩ (.int .i64 (a - q))).heap.size := by simpa using hz5
              go_upto_region 18 with fail
              generalize World.setCell _ _ _ = w6 at *
              clear t4 t5 r4 r5
              go_wp2_with (first | (refine wpList_load_row rfl 60 _ rfl W1.heap.size rfl 60 _ (0, 0) _ I6.out Tryd.underlying60 rfl (by kernel_rfl) ?_) | (at_builtin; go_loud (refine wpList_append_lies _ rfl _ _ _ rfl w3.heap.size 60 i0 _ 6 64 Tryd.underlying22 hi0 hy0 hy1 hy2 rfl (by omega) v (k - q) (flat (fun j => nodCell (subF n f root j)) 6 (k - q)) rfl (HV6.out.alloc _) ⟨w6.heap.size, 0, none⟩ 1 1 [.int .i64 op, .int .i64 nn, .string vr, .string at_, .int .i64 (a - q), .int .i64 b2] rfl rfl (World.news_of_block (cs := #[.int .i64 op, .int .i64 nn, .string vr, .string at_, .int .i64 (a - q), .int .i64 b2]) (t := 60) (fr := (0, 0)) (heap_alloc_new w6 _)) (by simp [Value.oneCell']) (by omega) (by unfold maxLen; omega) (by omega) (by simp; omega) (w6.heap.size + 1) (by simp) ?_; intro gg gcap w9 hown9 hgrow hat hlt9)))
              have hb9 := below_grown (hb6.alloc (by omega) (.cells #[.int .i64 op, .int .i64 nn, .string vr, .string at_, .int .i64 (a - q), .int .i64 b2] 60)) hgrow (by simp; omega) (fun x hx => (HV6.out.lt x hx).1)
              have HV9 : Hid (w9.ownsRow w3.heap.size 60 6 (.slice (some ⟨gg, 0, none⟩) (k - q + 1) gcap) (cntIn n l root (k + 1)) (flat (fun j => nodCell (subF n f root j)) 6 (cntIn n l root (k + 1)))) := Lib.hid (by
                rw [hn2, flat_succ, HN6.out]
                exact hown9)
              go_roundw
              case rel => exact ⟨k + 1, _, _, by omega, by go_num, rfl, rfl, ⟨fun h => by omega, fun _ => by omega⟩, hb9, (by first | exact HV9 | simpa using HV9)⟩
              case measure => simp [intOf]; omega
            · have HN6 : Hid (subF n f root (k - q) = ⟨op, nn, vr, at_, a, (b2 - q)⟩) := Lib.hid (by rw [HN.out]; simp [shiftN, ha, hb2'])
              have I6 : Hid ((w5.setCell ⟨W1.heap.size, 5, none⟩ (.int .i64 (b2 - q))).heap[W1.heap.size]? = some (.cells #[.int .i64 op, .int .i64 nn, .string vr, .string at_, .int .i64 a, .int .i64 (b2 - q)] 60 (0, 0))) := Lib.hid (blk_set I5.out 5 (.int .i64 (b2 - q)))
              have HV6 := Lib.hid (rowown_far (g := W1.heap.size) (i := 5) HV5.out hnb (.int .i64 (b2 - q)))
              have hb6 := (hb5.setCell (p := ⟨W1.heap.size, 5, none⟩) hbs (.int .i64 (b2 - q)))
              have hz6 : W1.heap.size < (w5.setCell ⟨W1.heap.size, 5, none⟩ (.int .i64 (b2 - q))).heap.size := by simpa using hz5
              go_upto_region 18 with fail
              generalize World.setCell _ _ _ = w6 at *
              clear t4 t5 r4 r5
              go_wp2_with (first | (refine wpList_load_row rfl 60 _ rfl W1.heap.size rfl 60 _ (0, 0) _ I6.out Tryd.underlying60 rfl (by kernel_rfl) ?_) | (at_builtin; go_loud (refine wpList_append_lies _ rfl _ _ _ rfl w3.heap.size 60 i0 _ 6 64 Tryd.underlying22 hi0 hy0 hy1 hy2 rfl (by omega) v (k - q) (flat (fun j => nodCell (subF n f root j)) 6 (k - q)) rfl (HV6.out.alloc _) ⟨w6.heap.size, 0, none⟩ 1 1 [.int .i64 op, .int .i64 nn, .string vr, .string at_, .int .i64 a, .int .i64 (b2 - q)] rfl rfl (World.news_of_block (cs := #[.int .i64 op, .int .i64 nn, .string vr, .string at_, .int .i64 a, .int .i64 (b2 - q)]) (t := 60) (fr := (0, 0)) (heap_alloc_new w6 _)) (by simp [Value.oneCell']) (by omega) (by unfold maxLen; omega) (by omega) (by simp; omega) (w6.heap.size + 1) (by simp) ?_; intro gg gcap w9 hown9 hgrow hat hlt9)))
              have hb9 := below_grown (hb6.alloc (by omega) (.cells #[.int .i64 op, .int .i64 nn, .string vr, .string at_, .int .i64 a, .int .i64 (b2 - q)] 60)) hgrow (by simp; omega) (fun x hx => (HV6.out.lt x hx).1)
              have HV9 : Hid (w9.ownsRow w3.heap.size 60 6 (.slice (some ⟨gg, 0, none⟩) (k - q + 1) gcap) (cntIn n l root (k + 1)) (flat (fun j => nodCell (subF n f root j)) 6 (cntIn n l root (k + 1)))) := Lib.hid (by
                rw [hn2, flat_succ, HN6.out]
                exact hown9)
              go_roundw
              case rel => exact ⟨k + 1, _, _, by omega, by go_num, rfl, rfl, ⟨fun h => by omega, fun _ => by omega⟩, hb9, (by first | exact HV9 | simpa using HV9)⟩
              case measure => simp [intOf]; omega
            · have HN6 : Hid (subF n f root (k - q) = ⟨op, nn, vr, at_, a, b2⟩) := Lib.hid (by rw [HN.out]; simp [shiftN, ha, hb2'])
              have I6 : Hid (w5.heap[W1.heap.size]? = some (.cells #[.int .i64 op, .int .i64 nn, .string vr, .string at_, .int .i64 a, .int .i64 b2] 60 (0, 0))) := Lib.hid I5.out
              have HV6 := Lib.hid HV5.out
              have hb6 := hb5
              have hz6 : W1.heap.size < w5.heap.size := by simpa using hz5
              go_upto_region 18 with fail
              clear t4 t5 r4 r5
              go_wp2_with (first | (refine wpList_load_row rfl 60 _ rfl W1.heap.size rfl 60 _ (0, 0) _ I6.out Tryd.underlying60 rfl (by kernel_rfl) ?_) | (at_builtin; go_loud (refine wpList_append_lies _ rfl _ _ _ rfl w3.heap.size 60 i0 _ 6 64 Tryd.underlying22 hi0 hy0 hy1 hy2 rfl (by omega) v (k - q) (flat (fun j => nodCell (subF n f root j)) 6 (k - q)) rfl (HV6.out.alloc _) ⟨w5.heap.size, 0, none⟩ 1 1 [.int .i64 op, .int .i64 nn, .string vr, .string at_, .int .i64 a, .int .i64 b2] rfl rfl (World.news_of_block (cs := #[.int .i64 op, .int .i64 nn, .string vr, .string at_, .int .i64 a, .int .i64 b2]) (t := 60) (fr := (0, 0)) (heap_alloc_new w5 _)) (by simp [Value.oneCell']) (by omega) (by unfold maxLen; omega) (by omega) (by simp; omega) (w5.heap.size + 1) (by simp) ?_; intro gg gcap w9 hown9 hgrow hat hlt9)))
              have hb9 := below_grown (hb6.alloc (by omega) (.cells #[.int .i64 op, .int .i64 nn, .string vr, .string at_, .int .i64 a, .int .i64 b2] 60)) hgrow (by simp; omega) (fun x hx => (HV6.out.lt x hx).1)
              have HV9 : Hid (w9.ownsRow w3.heap.size 60 6 (.slice (some ⟨gg, 0, none⟩) (k - q + 1) gcap) (cntIn n l root (k + 1)) (flat (fun j => nodCell (subF n f root j)) 6 (cntIn n l root (k + 1)))) := Lib.hid (by
                rw [hn2, flat_succ, HN6.out]
                exact hown9)
              go_roundw
              case rel => exact ⟨k + 1, _, _, by omega, by go_num, rfl, rfl, ⟨fun h => by omega, fun _ => by omega⟩, hb9, (by first | exact HV9 | simpa using HV9)⟩
              case measure => simp [intOf]; omega
      · obtain rfl : k = n := by omega
        go_wp2_with fail
        go_ret
        exact ⟨_, rfl, bcall hb3 hb, by rw [← HE.out]; exact own_wide HV.out (by have := hb3.size; omega)⟩
end Go.Proofs.YtagcbljfaflhoaaDoor

/-
  The walk of the reference's Conjuncts.
-/
import Derived.Test.YtagcbljfaflhoaaDoorRefSub
set_option linter.unusedSimpArgs false
set_option linter.unusedVariables false
namespace Go.Proofs.YtagcbljfaflhoaaDoor
open Go.RowKit Go.ChangeShapes Go.WideShapes Go.ChangeAt Go.Deep Go.Joins
/-- The conjuncts among the first k nodes. -/
def cjL (n : Nat) (f : Nat → Nod) (l : Nat → Nat) (k : Nat) : List Nat := (List.range k).filter (fun i => topB n f l i && (f i).op != 25)
theorem cj_hit {n : Nat} {f : Nat → Nod} {l : Nat → Nat} {k : Nat} (h : topB n f l k = true) (ho : (f k).op ≠ 25) : cjL n f l (k + 1) = cjL n f l k ++ [k] := by
  unfold cjL
  rw [List.range_succ, List.filter_append]
  simp [h, ho]
theorem cj_miss {n : Nat} {f : Nat → Nod} {l : Nat → Nat} {k : Nat} (h : topB n f l k = false ∨ (f k).op = 25) : cjL n f l (k + 1) = cjL n f l k := by
  unfold cjL
  rw [List.range_succ, List.filter_append]
  rcases h with h | h
  · simp [h]
  · simp [h]
theorem cj_len {n : Nat} {f : Nat → Nod} {l : Nat → Nat} {k : Nat} : (cjL n f l k).length ≤ k := by
  unfold cjL
  refine Nat.le_trans (List.length_filter_le _ _) ?_
  simp
theorem conjL_bad {n : Nat} {f : Nat → Nod} (h : treeB n f = false) : conjL n f = [] := by rw [conjL, h]; rfl
theorem node_op {w : World} {b off n r : Nat} {f : Nat → Nod} {q : Int} (h : w.cell? ⟨b, off + r * 6, none⟩ = some (.int .i64 (f r).op)) (hq : (f r).op = q) : w.cell? ⟨b, off + r * 6, none⟩ = some (.int .i64 q) := by rw [← hq]; exact h
set_option maxRecDepth 100000 in
set_option maxHeartbeats 4000000 in
theorem refConj_any (A : Option Addr) (n c : Nat) (f : Nat → Nod) (w : World) (h : NodRd w w.heap.size A n f) {tt : TypeId} {fr : Nat × Nat} (hkw : w.heap[0]? = some (.cells kwArr tt fr)) :
    Calls Tryd.prog 18 #[.slice A n c] w fun e w' => ∃ v', e = .returned v' ∧ Below w.heap.size w w' ∧ w'.ownsRow w.heap.size 3 1 v' (conjL n f).length ((conjL n f).map natV) := by
  obtain ⟨i0, hi0, hy0, hy1, hy2⟩ := info_parts infoBool6
  obtain ⟨i1, hi1, hz0, hz1, hz2⟩ := info_parts infoIntU
  have hn := h.small
  have HT := Lib.hid h
  have HK := Lib.hid hkw
  clear h hkw
  go_enter Tryd.func18, Tryd.ntmps18
  go_wp2_with fail
  refine (refTree_any A n c f _ HT.out HK.out).mono ?_
  rintro e w1 ⟨rfl, hb1⟩
  cases ht : treeB n f
  · have HE := Lib.hid (conjL_bad ht)
    clear ht
    go_wp2_with fail
    go_ret
    exact ⟨_, rfl, hb1, by rw [HE.out]; exact World.ownsRow_nil _ _ _ _⟩
  · obtain ⟨h0, hs, hl0, _⟩ := tree_shp ht
    have hE : conjL n f = cjL n f (begF n f) n := conjL_filter ht
    obtain ⟨l, hl⟩ : ∃ l, begF n f = l := ⟨_, rfl⟩
    rw [hl] at hE hs hl0
    have HE := Lib.hid hE
    have HS := Lib.hid hs
    clear ht hl hE
    go_wp2_with fail
    refine (parents_any A n c f l HS.out h0 _ (HT.out.later hb1)).mono ?_
    rintro e w2 ⟨g, rfl, hb12, hg, hG⟩
    have hb2 := bcall hb1 hb12
    have hgl := blk_lt hG
    have G := Lib.hid hG
    have HT2 := Lib.hid (HT.out.later hb2)
    clear hG hs
    go_upto_region 6 with (at_make; go_loud (refine wpList_make_full _ rfl _ _ 73 rfl w2.heap.size 4 i0 _ 1 Tryd.underlying73 hi0 hy0 hy1 .i64 .i64 _ _ n rfl rfl rfl rfl (by rw [hy2]; omega) (by unfold maxLen; omega) (Nat.le_refl _) ?_; intro w3 hown3 hg3))
    obtain ⟨f1, f2, f3⟩ := own_full hown3
    have hb3 := below_grown (Below.refl w2.heap.size w2) hg3 (Nat.le_refl _) (fun x hx => by cases hx)
    rw [made_bols, bolArr_congr (E' := fun j => if n ≤ j then topB n f l j else false) (fun j hj => by rw [if_neg (by omega)])] at f1
    have G3 := Lib.hid f1
    clear hown3 hg3 f1 f2 f3
    go_wp2_with fail
    go_loopw [6] (fun i wr => ∃ k : Nat, k ≤ n ∧ i = .int .i64 ((k : Int) - 1) ∧ Hid (wr.heap[w2.heap.size]? = some (.cells (bolArr (fun j => if k ≤ j then topB n f l j else false) n) 4 (0, 0))) ∧ Below w2.heap.size w2 wr) (fun i _ => (intOf i + 1).toNat)
    case atStart => exact ⟨n, Nat.le_refl _, rfl, G3, hb3⟩
    case round =>
      clear G3 hb3
      obtain ⟨k, hk, rfl, K, hb⟩ := hrel
      obtain ⟨W1, e1⟩ : ∃ W1 : World, W1 = wr := ⟨_, rfl⟩
      subst e1
      rcases Nat.eq_zero_or_pos k with hz | hz
      · subst hz
        rw [show (((0 : Nat) : Int) - 1) = -1 from rfl]
        have K2 : Hid (W1.heap[w2.heap.size]? = some (.cells (bolArr (topB n f l) n) 4 (0, 0))) := Lib.hid (by rw [K.out, bolArr_congr (E' := topB n f l) (fun j _ => by rw [if_pos (Nat.zero_le _)])])
        have HT1 := Lib.hid (HT2.out.later hb)
        clear K
        go_wp2_with fail
        go_loopw [8, 7] (fun i v wr => ∃ (m : Nat) (ov : Value), m ≤ n ∧ i = .int .i64 m ∧ ov = v ∧ Hid (wr.ownsRow W1.heap.size 3 1 ov (cjL n f l m).length ((cjL n f l m).map natV)) ∧ Below W1.heap.size W1 wr) (fun i _ _ => n - (intOf i).toNat)
        case atStart => exact ⟨0, .slice none 0 0, Nat.zero_le _, rfl, rfl, Lib.hid (World.ownsRow_nil _ _ _ _), Below.refl _ _⟩
        case round =>
          obtain ⟨m, ov, hm, rfl, rfl, HR, hbm⟩ := hrel
          obtain ⟨W4, e4⟩ : ∃ W4 : World, W4 = wr := ⟨_, rfl⟩
          subst e4
          by_cases hlt : m < n
          · have GU := Lib.hid (blk_below K2.out hbm)
            obtain ⟨b, off, rfl, hbl, hcs⟩ := (HT1.out.later hbm).spot (by omega)
            have c0 := (hcs m hlt).1
            clear hcs
            cases hin : topB n f l m
            · have e4 := bol_cell GU.out hlt hin
              have HU := Lib.hid (cj_miss (Or.inl hin))
              go_wp2_with fail
              go_roundw
              case rel => exact ⟨m + 1, ov, by omega, by go_num, rfl, Lib.hid (by rw [HU.out]; exact HR.out), hbm⟩
              case measure => simp [intOf]; omega
            · have e4 := bol_cell GU.out hlt hin
              by_cases ho : (f m).op = 25
              · have d0 := node_op (n := n) c0 ho
                have HU := Lib.hid (cj_miss (n := n) (f := f) (l := l) (Or.inr ho))
                clear c0
                go_wp2_with fail
                go_roundw
                case rel => exact ⟨m + 1, ov, by omega, by go_num, rfl, Lib.hid (by rw [HU.out]; exact HR.out), hbm⟩
                case measure => simp [intOf]; omega
              · have ho' : ((f m).op != 25) = true := by rw [bne_iff_ne]; exact ho
                have HU := Lib.hid (cj_hit hin ho)
                have hul : (cjL n f l m).length ≤ m := cj_len
                go_wp2_with (at_builtin; go_loud (refine wpList_append_lies _ rfl _ _ _ rfl W1.heap.size 3 i1 _ 1 8 Tryd.underlying27 hi1 hz0 hz1 hz2 rfl (by omega) ov (cjL n f l m).length ((cjL n f l m).map natV) rfl (HR.out.alloc _) ⟨W4.heap.size, 0, none⟩ 1 1 [.int .i64 (m : Nat)] rfl rfl (World.news_of_block (cs := #[.int .i64 (m : Nat)]) (t := 3) (fr := (0, 0)) (heap_alloc_new W4 _)) (by simp [Value.oneCell']) (by omega) (by unfold maxLen; omega) (by omega) (by have := hbm.size; simp; omega) (W4.heap.size + 1) (by simp) ?_; intro gg gcap w9 hown9 hgrow hat hlt9))
                have hb9 := below_grown (bnew hbm (.cells #[.int .i64 (m : Nat)] 3)) hgrow (by have := hbm.size; simp; omega) (fun x hx => by have := (HR.out.lt x hx).1; omega)
                go_roundw
                case rel => exact ⟨m + 1, _, by omega, by go_num, rfl, Lib.hid (by rw [HU.out, List.map_append, List.length_append]; exact hown9), hb9⟩
                case measure => simp [intOf]; omega
          · obtain rfl : m = n := by omega
            go_wp2_with fail
            go_ret
            exact ⟨ov, rfl, bcall hb2 (bcall hb hbm), by rw [HE.out]; exact own_wide HR.out (Nat.le_trans hb2.size hb.size)⟩
      · obtain ⟨r, rfl⟩ : ∃ r, k = r + 1 := ⟨k - 1, by omega⟩
        have hr1 : (((r + 1 : Nat) : Int) - 1) = ((r : Nat) : Int) := by omega
        rw [hr1]
        have GU := Lib.hid (blk_below G.out hb)
        have q4 : W1.frozen? ⟨w2.heap.size, r, none⟩ = false := blk_free K.out _
        have e4 := bol_cell (j := r) (q := false) K.out (by omega) (by rw [if_neg (by omega)])
        have KF := Lib.hid (fun x : Bool => blk_set K.out r (.bool x))
        by_cases hlast : r + 1 = n
        · obtain ⟨u1, u2⟩ := top_last HS.out hlast
          have y1 := num_cell (j := r) (q := -1) GU.out (by omega) u1
          have KN : Hid ((W1.setCell ⟨w2.heap.size, r, none⟩ (.bool true)).heap[w2.heap.size]? = some (.cells (bolArr (fun j => if r ≤ j then topB n f l j else false) n) 4 (0, 0))) := Lib.hid (by rw [KF.out true, bol_step (D := topB n f l) u2.symm])
          clear u1 u2
          go_wp2_with fail
          go_roundw
          case rel => exact ⟨r, by omega, by go_num, KN, hb.setCell (p := ⟨w2.heap.size, r, none⟩) (Nat.le_refl _) _⟩
          case measure => first | (simp [intOf]; omega) | simp [intOf]
        · obtain ⟨p, p1, p2, u1, u2⟩ := top_other HS.out hl0 (i := r) (by omega)
          have y1 := num_cell (j := r) (q := (p : Int)) GU.out (by omega) u1
          obtain ⟨b, off, rfl, hbl, hcs⟩ := (HT2.out.later hb).spot (by omega)
          have c0 := (hcs p p2).1
          clear hcs
          cases hp : topB n f l p
          · have y2 := bol_cell (j := p) (q := false) K.out p2 (by rw [if_pos (by omega), hp])
            have KN : Hid ((W1.setCell ⟨w2.heap.size, r, none⟩ (.bool false)).heap[w2.heap.size]? = some (.cells (bolArr (fun j => if r ≤ j then topB n f l j else false) n) 4 (0, 0))) := Lib.hid (by rw [KF.out, bol_step (D := topB n f l) (by rw [u2, hp]; rfl)])
            clear u1 u2
            go_wp2_with fail
            go_roundw
            case rel => exact ⟨r, by omega, by go_num, KN, hb.setCell (p := ⟨w2.heap.size, r, none⟩) (Nat.le_refl _) _⟩
            case measure => first | (simp [intOf]; omega) | simp [intOf]
          · have y2 := bol_cell (j := p) (q := true) K.out p2 (by rw [if_pos (by omega), hp])
            by_cases ho : (f p).op = 25
            · have d0 := node_op (n := n) c0 ho
              have KN : Hid ((W1.setCell ⟨w2.heap.size, r, none⟩ (.bool true)).heap[w2.heap.size]? = some (.cells (bolArr (fun j => if r ≤ j then topB n f l j else false) n) 4 (0, 0))) := Lib.hid (by rw [KF.out, bol_step (D := topB n f l) (by rw [u2, hp, ho]; rfl)])
              clear u1 u2 c0
              go_wp2_with fail
              go_roundw
              case rel => exact ⟨r, by omega, by go_num, KN, hb.setCell (p := ⟨w2.heap.size, r, none⟩) (Nat.le_refl _) _⟩
              case measure => first | (simp [intOf]; omega) | simp [intOf]
            · have ho' : ((f p).op == 25) = false := by rw [beq_eq_false_iff_ne]; exact ho
              have KN : Hid ((W1.setCell ⟨w2.heap.size, r, none⟩ (.bool false)).heap[w2.heap.size]? = some (.cells (bolArr (fun j => if r ≤ j then topB n f l j else false) n) 4 (0, 0))) := Lib.hid (by rw [KF.out, bol_step (D := topB n f l) (by rw [u2, hp, ho']; rfl)])
              clear u1 u2
              go_wp2_with fail
              go_roundw
              case rel => exact ⟨r, by omega, by go_num, KN, hb.setCell (p := ⟨w2.heap.size, r, none⟩) (Nat.le_refl _) _⟩
              case measure => first | (simp [intOf]; omega) | simp [intOf]
end Go.Proofs.YtagcbljfaflhoaaDoor

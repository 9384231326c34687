/-
  Several texts in one: RefConj, OfWhere.
-/
import Derived.Test.YtagcbljfaflhoaaDoorFlw27
import Derived.Test.YtagcbljfaflhoaaDoorFlw25
import Derived.Test.YtagcbljfaflhoaaDoorFlw26
set_option linter.unusedSimpArgs false
set_option linter.unusedVariables false
/-! ### The walk of the reference's Conjuncts. -/
namespace Go.Proofs.YtagcbljfaflhoaaDoor
open Go.RowKit Go.ChangeShapes Go.WideShapes Go.ChangeAt Go.Deep Go.Joins
/-- The conjuncts among the first k nodes. -/
def cjL (n : Nat) (f : Nat → Nod) (l : Nat → Nat) (k : Nat) : List Nat := (List.range k).filter (fun i => topB n f l i && (f i).op != 25)
theorem cj_hit {n : Nat} {f : Nat → Nod} {l : Nat → Nat} {k : Nat} (h : topB n f l k = true) (ho : (f k).op ≠ 25) : cjL n f l (k + 1) = cjL n f l k ++ [k] := by
  unfold cjL
  rw [List.range_succ, List.filter_append]
  simp [h, ho]
theorem cj_miss {n : Nat} {f : Nat → Nod} {l : Nat → Nat} {k : Nat} (h : topB n f l k = false ∨ (f k).op = 25) : cjL n f l (k + 1) = cjL n f l k := by
  unfold cjL
  rw [List.range_succ, List.filter_append]
  rcases h with h | h
  · simp [h]
  · simp [h]
theorem cj_len {n : Nat} {f : Nat → Nod} {l : Nat → Nat} {k : Nat} : (cjL n f l k).length ≤ k := by
  unfold cjL
  refine Nat.le_trans (List.length_filter_le _ _) ?_
  simp
theorem conjL_bad {n : Nat} {f : Nat → Nod} (h : treeB n f = false) : conjL n f = [] := by rw [conjL, h]; rfl
theorem node_op {w : World} {b off n r : Nat} {f : Nat → Nod} {q : Int} (h : w.cell? ⟨b, off + r * 6, none⟩ = some (.int .i64 (f r).op)) (hq : (f r).op = q) : w.cell? ⟨b, off + r * 6, none⟩ = some (.int .i64 q) := by rw [← hq]; exact h
set_option maxRecDepth 100000 in
set_option maxHeartbeats 4000000 in
theorem refConj_any (A : Option Addr) (n c : Nat) (f : Nat → Nod) (w : World) (h : NodRd w w.heap.size A n f) {tt : TypeId} {fr : Nat × Nat} (hkw : w.heap[0]? = some (.cells kwArr tt fr)) :
    Calls Tryd.prog 18 #[.slice A n c] w fun e w' => ∃ v', e = .returned v' ∧ Below w.heap.size w w' ∧ w'.ownsRow w.heap.size 3 1 v' (conjL n f).length ((conjL n f).map natV) := by
  obtain ⟨i0, hi0, hy0, hy1, hy2⟩ := info_parts infoBool6
  obtain ⟨i1, hi1, hz0, hz1, hz2⟩ := info_parts infoIntU
  have hn := h.small
  have HT := Lib.hid h
  have HK := Lib.hid hkw
  clear h hkw
  go_enter Tryd.func18, Tryd.ntmps18
  go_wp2_with fail
  refine (refTree_any A n c f _ HT.out HK.out).mono ?_
  rintro e w1 ⟨rfl, hb1⟩
  cases ht : treeB n f
  · have HE := Lib.hid (conjL_bad ht)
    clear ht
    go_wp2_with fail
    go_ret
    exact ⟨_, rfl, hb1, by rw [HE.out]; exact World.ownsRow_nil _ _ _ _⟩
  · obtain ⟨h0, hs, hl0, _⟩ := tree_shp ht
    have hE : conjL n f = cjL n f (begF n f) n := conjL_filter ht
    obtain ⟨l, hl⟩ : ∃ l, begF n f = l := ⟨_, rfl⟩
    rw [hl] at hE hs hl0
    have HE := Lib.hid hE
    have HS := Lib.hid hs
    clear ht hl hE
    go_wp2_with fail
    refine (parents_any A n c f l HS.out h0 _ (HT.out.later hb1)).mono ?_
    rintro e w2 ⟨g, rfl, hb12, hg, hG⟩
    have hb2 := bcall hb1 hb12
    have hgl := blk_lt hG
    have G := Lib.hid hG
    have HT2 := Lib.hid (HT.out.later hb2)
    clear hG hs
    go_upto_region 6 with (at_make; go_loud (refine wpList_make_full _ rfl _ _ 73 rfl w2.heap.size 4 i0 _ 1 Tryd.underlying73 hi0 hy0 hy1 .i64 .i64 _ _ n rfl rfl rfl rfl (by rw [hy2]; omega) (by unfold maxLen; omega) (Nat.le_refl _) ?_; intro w3 hown3 hg3))
    obtain ⟨f1, f2, f3⟩ := own_full hown3
    have hb3 := below_grown (Below.refl w2.heap.size w2) hg3 (Nat.le_refl _) (fun x hx => by cases hx)
    rw [made_bols, bolArr_congr (E' := fun j => if n ≤ j then topB n f l j else false) (fun j hj => by rw [if_neg (by omega)])] at f1
    have G3 := Lib.hid f1
    clear hown3 hg3 f1 f2 f3
    go_wp2_with fail
    go_loopw [6] (fun i wr => ∃ k : Nat, k ≤ n ∧ i = .int .i64 ((k : Int) - 1) ∧ Hid (wr.heap[w2.heap.size]? = some (.cells (bolArr (fun j => if k ≤ j then topB n f l j else false) n) 4 (0, 0))) ∧ Below w2.heap.size w2 wr) (fun i _ => (intOf i + 1).toNat)
    case atStart => exact ⟨n, Nat.le_refl _, rfl, G3, hb3⟩
    case round =>
      clear G3 hb3
      obtain ⟨k, hk, rfl, K, hb⟩ := hrel
      obtain ⟨W1, e1⟩ : ∃ W1 : World, W1 = wr := ⟨_, rfl⟩
      subst e1
      rcases Nat.eq_zero_or_pos k with hz | hz
      · subst hz
        rw [show (((0 : Nat) : Int) - 1) = -1 from rfl]
        have K2 : Hid (W1.heap[w2.heap.size]? = some (.cells (bolArr (topB n f l) n) 4 (0, 0))) := Lib.hid (by rw [K.out, bolArr_congr (E' := topB n f l) (fun j _ => by rw [if_pos (Nat.zero_le _)])])
        have HT1 := Lib.hid (HT2.out.later hb)
        clear K
        go_wp2_with fail
        go_loopw [8, 7] (fun i v wr => ∃ (m : Nat) (ov : Value), m ≤ n ∧ i = .int .i64 m ∧ ov = v ∧ Hid (wr.ownsRow W1.heap.size 3 1 ov (cjL n f l m).length ((cjL n f l m).map natV)) ∧ Below W1.heap.size W1 wr) (fun i _ _ => n - (intOf i).toNat)
        case atStart => exact ⟨0, .slice none 0 0, Nat.zero_le _, rfl, rfl, Lib.hid (World.ownsRow_nil _ _ _ _), Below.refl _ _⟩
        case round =>
          obtain ⟨m, ov, hm, rfl, rfl, HR, hbm⟩ := hrel
          obtain ⟨W4, e4⟩ : ∃ W4 : World, W4 = wr := ⟨_, rfl⟩
          subst e4
          by_cases hlt : m < n
          · have GU := Lib.hid (blk_below K2.out hbm)
            obtain ⟨b, off, rfl, hbl, hcs⟩ := (HT1.out.later hbm).spot (by omega)
            have c0 := (hcs m hlt).1
            clear hcs
            cases hin : topB n f l m
            · have e4 := bol_cell GU.out hlt hin
              have HU := Lib.hid (cj_miss (Or.inl hin))
              go_wp2_with fail
              go_roundw
              case rel => exact ⟨m + 1, ov, by omega, by go_num, rfl, Lib.hid (by rw [HU.out]; exact HR.out), hbm⟩
              case measure => simp [intOf]; omega
            · have e4 := bol_cell GU.out hlt hin
              by_cases ho : (f m).op = 25
              · have d0 := node_op (n := n) c0 ho
                have HU := Lib.hid (cj_miss (n := n) (f := f) (l := l) (Or.inr ho))
                clear c0
                go_wp2_with fail
                go_roundw
                case rel => exact ⟨m + 1, ov, by omega, by go_num, rfl, Lib.hid (by rw [HU.out]; exact HR.out), hbm⟩
                case measure => simp [intOf]; omega
              · have ho' : ((f m).op != 25) = true := by rw [bne_iff_ne]; exact ho
                have HU := Lib.hid (cj_hit hin ho)
                have hul : (cjL n f l m).length ≤ m := cj_len
                go_wp2_with (at_builtin; go_loud (refine wpList_append_lies _ rfl _ _ _ rfl W1.heap.size 3 i1 _ 1 8 Tryd.underlying27 hi1 hz0 hz1 hz2 rfl (by omega) ov (cjL n f l m).length ((cjL n f l m).map natV) rfl (HR.out.alloc _) ⟨W4.heap.size, 0, none⟩ 1 1 [.int .i64 (m : Nat)] rfl rfl (World.news_of_block (cs := #[.int .i64 (m : Nat)]) (t := 3) (fr := (0, 0)) (heap_alloc_new W4 _)) (by simp [Value.oneCell']) (by omega) (by unfold maxLen; omega) (by omega) (by have := hbm.size; simp; omega) (W4.heap.size + 1) (by simp) ?_; intro gg gcap w9 hown9 hgrow hat hlt9))
                have hb9 := below_grown (bnew hbm (.cells #[.int .i64 (m : Nat)] 3)) hgrow (by have := hbm.size; simp; omega) (fun x hx => by have := (HR.out.lt x hx).1; omega)
                go_roundw
                case rel => exact ⟨m + 1, _, by omega, by go_num, rfl, Lib.hid (by rw [HU.out, List.map_append, List.length_append]; exact hown9), hb9⟩
                case measure => simp [intOf]; omega
          · obtain rfl : m = n := by omega
            go_wp2_with fail
            go_ret
            exact ⟨ov, rfl, bcall hb2 (bcall hb hbm), by rw [HE.out]; exact own_wide HR.out (Nat.le_trans hb2.size hb.size)⟩
      · obtain ⟨r, rfl⟩ : ∃ r, k = r + 1 := ⟨k - 1, by omega⟩
        have hr1 : (((r + 1 : Nat) : Int) - 1) = ((r : Nat) : Int) := by omega
        rw [hr1]
        have GU := Lib.hid (blk_below G.out hb)
        have q4 : W1.frozen? ⟨w2.heap.size, r, none⟩ = false := blk_free K.out _
        have e4 := bol_cell (j := r) (q := false) K.out (by omega) (by rw [if_neg (by omega)])
        have KF := Lib.hid (fun x : Bool => blk_set K.out r (.bool x))
        by_cases hlast : r + 1 = n
        · obtain ⟨u1, u2⟩ := top_last HS.out hlast
          have y1 := num_cell (j := r) (q := -1) GU.out (by omega) u1
          have KN : Hid ((W1.setCell ⟨w2.heap.size, r, none⟩ (.bool true)).heap[w2.heap.size]? = some (.cells (bolArr (fun j => if r ≤ j then topB n f l j else false) n) 4 (0, 0))) := Lib.hid (by rw [KF.out true, bol_step (D := topB n f l) u2.symm])
          clear u1 u2
          go_wp2_with fail
          go_roundw
          case rel => exact ⟨r, by omega, by go_num, KN, hb.setCell (p := ⟨w2.heap.size, r, none⟩) (Nat.le_refl _) _⟩
          case measure => first | (simp [intOf]; omega) | simp [intOf]
        · obtain ⟨p, p1, p2, u1, u2⟩ := top_other HS.out hl0 (i := r) (by omega)
          have y1 := num_cell (j := r) (q := (p : Int)) GU.out (by omega) u1
          obtain ⟨b, off, rfl, hbl, hcs⟩ := (HT2.out.later hb).spot (by omega)
          have c0 := (hcs p p2).1
          clear hcs
          cases hp : topB n f l p
          · have y2 := bol_cell (j := p) (q := false) K.out p2 (by rw [if_pos (by omega), hp])
            have KN : Hid ((W1.setCell ⟨w2.heap.size, r, none⟩ (.bool false)).heap[w2.heap.size]? = some (.cells (bolArr (fun j => if r ≤ j then topB n f l j else false) n) 4 (0, 0))) := Lib.hid (by rw [KF.out, bol_step (D := topB n f l) (by rw [u2, hp]; rfl)])
            clear u1 u2
            go_wp2_with fail
            go_roundw
            case rel => exact ⟨r, by omega, by go_num, KN, hb.setCell (p := ⟨w2.heap.size, r, none⟩) (Nat.le_refl _) _⟩
            case measure => first | (simp [intOf]; omega) | simp [intOf]
          · have y2 := bol_cell (j := p) (q := true) K.out p2 (by rw [if_pos (by omega), hp])
            by_cases ho : (f p).op = 25
            · have d0 := node_op (n := n) c0 ho
              have KN : Hid ((W1.setCell ⟨w2.heap.size, r, none⟩ (.bool true)).heap[w2.heap.size]? = some (.cells (bolArr (fun j => if r ≤ j then topB n f l j else false) n) 4 (0, 0))) := Lib.hid (by rw [KF.out, bol_step (D := topB n f l) (by rw [u2, hp, ho]; rfl)])
              clear u1 u2 c0
              go_wp2_with fail
              go_roundw
              case rel => exact ⟨r, by omega, by go_num, KN, hb.setCell (p := ⟨w2.heap.size, r, none⟩) (Nat.le_refl _) _⟩
              case measure => first | (simp [intOf]; omega) | simp [intOf]
            · have ho' : ((f p).op == 25) = false := by rw [beq_eq_false_iff_ne]; exact ho
              have KN : Hid ((W1.setCell ⟨w2.heap.size, r, none⟩ (.bool false)).heap[w2.heap.size]? = some (.cells (bolArr (fun j => if r ≤ j then topB n f l j else false) n) 4 (0, 0))) := Lib.hid (by rw [KF.out, bol_step (D := topB n f l) (by rw [u2, hp, ho']; rfl)])
              clear u1 u2
              go_wp2_with fail
              go_roundw
              case rel => exact ⟨r, by omega, by go_num, KN, hb.setCell (p := ⟨w2.heap.size, r, none⟩) (Nat.le_refl _) _⟩
              case measure => first | (simp [intOf]; omega) | simp [intOf]
end Go.Proofs.YtagcbljfaflhoaaDoor

/-! ### What nodes earn (plain); the walk of sluiceref6.ofWhere. -/
namespace Go.Proofs.YtagcbljfaflhoaaDoor
open Go.RowKit Go.ChangeShapes Go.WideShapes Go.ChangeAt Go.Deep Go.Joins
/-- What ofNode's cells tell. -/
theorem rk_cell {w : World} {b z : Nat} {R : Nat → Int} {T : TypeId} (h : w.heap[b]? = some (.cells #[.int .i64 0, .int .i64 (R 1), .int .i64 (R 2), .int .i64 (R 3), .int .i64 (R 4)] T (0, 0))) (h1 : 1 ≤ z) (h4 : z ≤ 4) : w.cell? ⟨b, z, none⟩ = some (.int .i64 (R z)) := by
  obtain rfl | rfl | rfl | rfl : z = 1 ∨ z = 2 ∨ z = 3 ∨ z = 4 := by omega
  all_goals exact blk_cell h rfl
theorem rk_lit {S : Sch} {Q : Qry} {r : Bool} {f : Nat → Nod} {i : Nat} {R : Nat → Int} (h : ∀ q, nodeR S Q r f i q = R q) : rkArr S Q r f i = #[.int .i64 0, .int .i64 (R 1), .int .i64 (R 2), .int .i64 (R 3), .int .i64 (R 4)] := by
  rw [rkArr, h, h, h, h]
/-- What nodes below k, and of node k the ranks below z, earn, beside what is in M. -/
def pN (M : Fnd → Prop) (R : Nat → Nat → Int) (T : Nat → Nat → Int → Fnd) (k z : Nat) (x : Fnd) : Prop :=
  M x ∨ (∃ i r, i < k ∧ 1 ≤ r ∧ r ≤ 4 ∧ R i r ≠ 0 ∧ x = T i r (R i r)) ∨ (∃ r, 1 ≤ r ∧ r < z ∧ R k r ≠ 0 ∧ x = T k r (R k r))
section
variable {M : Fnd → Prop} {R : Nat → Nat → Int} {T : Nat → Nat → Int → Fnd} {k z : Nat} {y : Fnd} {e : Int}
theorem pn_zero : pN M R T 0 1 y ↔ M y := by
  constructor
  · rintro (h | ⟨i, r, h, _⟩ | ⟨r, h1, h2, _⟩)
    · exact h
    · omega
    · omega
  · exact .inl
theorem pn_hit' (hr : R k z = e) (h0 : e ≠ 0) (h1 : 1 ≤ z) : pN M R T k (z + 1) y ↔ pN M R T k z y ∨ y = T k z e := by
  subst hr
  constructor
  · rintro (h | h | ⟨r, a, b, c, d⟩)
    · exact .inl (.inl h)
    · exact .inl (.inr (.inl h))
    · by_cases hrz : r = z
      · subst hrz; exact .inr d
      · exact .inl (.inr (.inr ⟨r, a, by omega, c, d⟩))
  · rintro ((h | h | ⟨r, a, b, c, d⟩) | h)
    · exact .inl h
    · exact .inr (.inl h)
    · exact .inr (.inr ⟨r, a, by omega, c, d⟩)
    · exact .inr (.inr ⟨z, h1, by omega, h0, h⟩)
theorem pn_miss (hr : R k z = 0) : pN M R T k (z + 1) y ↔ pN M R T k z y := by
  constructor
  · rintro (h | h | ⟨r, a, b, c, d⟩)
    · exact .inl h
    · exact .inr (.inl h)
    · by_cases hrz : r = z
      · subst hrz; exact absurd hr c
      · exact .inr (.inr ⟨r, a, by omega, c, d⟩)
  · rintro (h | h | ⟨r, a, b, c, d⟩)
    · exact .inl h
    · exact .inr (.inl h)
    · exact .inr (.inr ⟨r, a, by omega, c, d⟩)
theorem pn_next : pN M R T (k + 1) 1 y ↔ pN M R T k 5 y := by
  constructor
  · rintro (h | ⟨i, r, a, b, c, d, e⟩ | ⟨r, a, b, _⟩)
    · exact .inl h
    · by_cases hik : i = k
      · subst hik; exact .inr (.inr ⟨r, b, by omega, d, e⟩)
      · exact .inr (.inl ⟨i, r, by omega, b, c, d, e⟩)
    · omega
  · rintro (h | ⟨i, r, a, b, c, d, e⟩ | ⟨r, a, b, c, d⟩)
    · exact .inl h
    · exact .inr (.inl ⟨i, r, by omega, b, c, d, e⟩)
    · exact .inr (.inl ⟨k, r, by omega, a, by omega, c, d⟩)
end
theorem tree_kids {n : Nat} {f : Nat → Nod} (ht : treeB n f = true) : ∀ i, i < n → (f i).a < n ∧ (f i).b < n := fun i hi => by
  have := (tree_shp ht).2.1.rng hi
  omega
theorem isTruth_last {n : Nat} {f : Nat → Nod} (hn : n ≠ 0) : isTruthB n f = truthB (f (n - 1)).op := by
  rw [isTruthB, decide_eq_true (by omega), Bool.true_and]
theorem FndOwn.far {w w9 : World} {B B' sz n : Nat} {v v' : Value} {L : List Fnd} {o : Obj} {e : TypeId} {xs : List Value} (h : FndOwn w B v L) (hg : (w.alloc o).grownBy w9 v.ownBlock) (hr : w.ownsRow B' e sz v' n xs) (he : e ≠ 89) : w9.ownsRow B' e sz v' n xs :=
  rowown_kept (World.ownsRow.alloc hr o) hg (fun g hg' => rowown_type h hr (Ne.symm he) hg')

theorem natrow_rd' {w : World} {B m : Nat} {A : Option Addr} {c : Nat} {L : List Nat} (h : w.ownsRow B 3 1 (.slice A m c) m (L.map natV)) (hm : L.length = m) (hL : m ≤ 2199023255488) : IntRd w w.heap.size A m (fun j => (L.getD j 0 : Nat)) := by
  subst hm
  exact natrow_rd h hL
/-- The findings of WHERE's nodes. -/
def TW (i r : Nat) (e : Int) : Fnd := ⟨6, r, e, 4, i, 0⟩
def pWn (S : Sch) (Q : Qry) (k z : Nat) : Fnd → Prop := pN (fun _ => False) (fun i r => nodeR S Q false Q.wh i r) TW k z
def pWt (S : Sch) (Q : Qry) (x : Fnd) : Prop := pWn S Q Q.wn 1 x ∨ (isTruthB Q.wn Q.wh = false ∧ x = ⟨7, 0, 75, 4, (Q.wn : Int) - 1, 0⟩)
def pCj (S : Sch) (Q : Qry) (p : Nat) (x : Fnd) : Prop := pWt S Q x ∨ ∃ q, q < p ∧ rootMix Q Q.wn Q.wh ((conjL Q.wn Q.wh).getD q 0) = true ∧ x = ⟨8, 0, 77, 4, ((conjL Q.wn Q.wh).getD q 0 : Nat), 0⟩
section
variable {S : Sch} {Q : Qry} {p root : Nat} {y : Fnd}
theorem pwt_hit (h : isTruthB Q.wn Q.wh = false) : pWt S Q y ↔ pWn S Q Q.wn 1 y ∨ y = ⟨7, 0, 75, 4, (Q.wn : Int) - 1, 0⟩ := by
  constructor
  · rintro (h1 | ⟨_, h1⟩)
    · exact .inl h1
    · exact .inr h1
  · rintro (h1 | h1)
    · exact .inl h1
    · exact .inr ⟨h, h1⟩
theorem pwt_miss (h : isTruthB Q.wn Q.wh = true) : pWt S Q y ↔ pWn S Q Q.wn 1 y := by
  constructor
  · rintro (h1 | ⟨h1, _⟩)
    · exact h1
    · rw [h] at h1; cases h1
  · exact .inl
theorem pcj_zero : pCj S Q 0 y ↔ pWt S Q y := by
  constructor
  · rintro (h1 | ⟨q, hq, _⟩)
    · exact h1
    · omega
  · exact .inl
theorem pcj_hit (hr : (conjL Q.wn Q.wh).getD p 0 = root) (h : rootMix Q Q.wn Q.wh root = true) : pCj S Q (p + 1) y ↔ pCj S Q p y ∨ y = ⟨8, 0, 77, 4, root, 0⟩ := by
  subst hr
  constructor
  · rintro (h1 | ⟨q, hq, h2, e⟩)
    · exact .inl (.inl h1)
    · by_cases hqp : q = p
      · subst hqp; exact .inr e
      · exact .inl (.inr ⟨q, by omega, h2, e⟩)
  · rintro ((h1 | ⟨q, hq, h2, e⟩) | h1)
    · exact .inl h1
    · exact .inr ⟨q, by omega, h2, e⟩
    · exact .inr ⟨p, by omega, h, h1⟩
theorem pcj_miss (hr : (conjL Q.wn Q.wh).getD p 0 = root) (h : rootMix Q Q.wn Q.wh root = false) : pCj S Q (p + 1) y ↔ pCj S Q p y := by
  subst hr
  constructor
  · rintro (h1 | ⟨q, hq, h2, e⟩)
    · exact .inl h1
    · by_cases hqp : q = p
      · subst hqp; rw [h] at h2; cases h2
      · exact .inr ⟨q, by omega, h2, e⟩
  · rintro (h1 | ⟨q, hq, h2, e⟩)
    · exact .inl h1
    · exact .inr ⟨q, by omega, h2, e⟩
theorem mwh_none (h : Q.wn = 0) : mWhere S Q y ↔ pWn S Q Q.wn 1 y := by
  constructor
  · rintro (⟨i, r, hi, _⟩ | ⟨h1, _⟩ | ⟨root, hr, _⟩)
    · omega
    · omega
    · have h1 := List.length_pos_of_mem hr
      have := conj_len (n := Q.wn) (f := Q.wh)
      omega
  · rintro (h1 | ⟨i, r, hi, _⟩ | ⟨r, a, b, _⟩)
    · exact h1.elim
    · omega
    · omega
theorem mwh_some (h : Q.wn ≠ 0) : mWhere S Q y ↔ pCj S Q (conjL Q.wn Q.wh).length y := by
  constructor
  · rintro (⟨i, r, hi, h1, h2, h3, e⟩ | ⟨_, h1, e⟩ | ⟨root, hr, h1, e⟩)
    · exact .inl (.inl (.inr (.inl ⟨i, r, hi, h1, h2, h3, e⟩)))
    · exact .inl (.inr ⟨h1, e⟩)
    · obtain ⟨q, hq, rfl⟩ := List.getElem_of_mem hr
      exact .inr ⟨q, hq, by rw [getD_at hq]; exact h1, by rw [getD_at hq]; exact e⟩
  · rintro (((h1 | ⟨i, r, hi, h1, h2, h3, e⟩ | ⟨r, a, b, _⟩) | ⟨h1, e⟩) | ⟨q, hq, h1, e⟩)
    · exact h1.elim
    · exact .inl ⟨i, r, hi, h1, h2, h3, e⟩
    · omega
    · exact .inr (.inl ⟨by omega, h1, e⟩)
    · exact .inr (.inr ⟨_, getD_mem hq, h1, e⟩)
end
set_option maxRecDepth 100000 in
set_option maxHeartbeats 16000000 in
theorem ofWhere_any (A : Option Addr) (cap : Nat) (S : Sch) (V : QryV) (Q : Qry) (w : World) (hS : TypRd w w.heap.size A S) (h : QryRd w w.heap.size V Q) (ht : Q.wn ≠ 0 → treeB Q.wn Q.wh = true) (hwn : Q.wn ≤ 1048576) {tt : TypeId} {fr : Nat × Nat} (hkw : w.heap[0]? = some (.cells kwArr tt fr)) :
    Calls Tryd.prog 63 #[.agg #[.slice A S.n cap], .agg (qryArr V Q)] w fun e w' => ∃ v L, e = .returned v ∧ Below w.heap.size w w' ∧ FndOwn w' w.heap.size v L ∧ Holds L (mWhere S Q) ∧ L.length ≤ 8388608 := by
  obtain ⟨aI, cI, aW, cW, aR, cR⟩ := V
  show Calls _ _ #[.agg #[.slice A S.n cap], .agg #[.slice aI Q.n cI, .int .i64 Q.mode, .int .i64 Q.after, .slice aW Q.wn cW, .int .i64 Q.within, .string Q.by_, .slice aR Q.m cR]] w _
  have hnI := h.rI.small
  obtain ⟨i1, hi1, hy0, hy1, hy2⟩ := info_parts infoFnd
  have hb0 := bnew (bnew (Below.refl w.heap.size w) (.cells #[.slice A S.n cap] 34)) (.cells #[.slice aI Q.n cI, .int .i64 Q.mode, .int .i64 Q.after, .slice aW Q.wn cW, .int .i64 Q.within, .string Q.by_, .slice aR Q.m cR] 40)
  have s0 := blk_alloc (blk_new w #[.slice A S.n cap] 34) (.cells #[.slice aI Q.n cI, .int .i64 Q.mode, .int .i64 Q.after, .slice aW Q.wn cW, .int .i64 Q.within, .string Q.by_, .slice aR Q.m cR] 40)
  have q0 := blk_new (w.alloc (.cells #[.slice A S.n cap] 34)) #[.slice aI Q.n cI, .int .i64 Q.mode, .int .i64 Q.after, .slice aW Q.wn cW, .int .i64 Q.within, .string Q.by_, .slice aR Q.m cR] 40
  rw [World.size_alloc] at q0
  have S0 := Lib.hid s0
  have Q0 := Lib.hid q0
  have HS := Lib.hid (hS.later hb0)
  have HQ := Lib.hid (h.later hb0)
  have HK := Lib.hid (block_below hkw hb0)
  have HTR := Lib.hid ht
  clear hS h s0 q0 ht hkw
  go_enter Tryd.func63, Tryd.ntmps63
  go_upto_region 1 with fail
  generalize (w.alloc _).alloc _ = w0 at *
  have hzw0 : w.heap.size ≤ w0.heap.size := hb0.size
  have x3 := blk_cell Q0.out (j := 3) rfl
  have HN0 := Lib.hid (FndOwn.nil w0 w0.heap.size)
  go_wp2_with fail
  go_loopw [5, 7] (fun v i wr => ∃ (k : Nat) (L : List Fnd), k ≤ Q.wn ∧ i = .int .i64 k ∧ Hid (FndOwn wr w0.heap.size v L) ∧ Hid (Holds L (pWn S Q k 1)) ∧ Hid (L.length ≤ 4 * k) ∧ Below w0.heap.size w0 wr) (fun _ i _ => Q.wn - (intOf i).toNat)
  case atStart => exact ⟨0, [], Nat.zero_le _, rfl, HN0, Lib.hid (Holds.same (M := fun _ => False) (fun y => by simp) fun y => pn_zero), Lib.hid (by simp), Below.refl _ _⟩
  case round =>
    clear HN0 x3
    obtain ⟨k, L, hk, rfl, HL, HM, HC, hb⟩ := hrel
    obtain ⟨WA, e1⟩ : ∃ W1 : World, W1 = wr := ⟨_, rfl⟩
    subst e1
    have hzA := hb.size
    by_cases hlt : k < Q.wn
    · have hkid := tree_kids (HTR.out (by omega)) k hlt
      have HKA := Lib.hid hkid.1
      have HKB := Lib.hid hkid.2
      obtain ⟨y0, y1, y2, y3, y4, y5, y6⟩ := blk7 (blk_below Q0.out hb)
      have u0 := blk_cell (blk_below S0.out hb) (j := 0) rfl
      obtain ⟨R, hR⟩ : ∃ R : Nat → Int, (fun r => nodeR S Q false Q.wh k r) = R := ⟨_, rfl⟩
      have HR := Lib.hid (fun r => congrFun hR r)
      have HRA := Lib.hid (rk_lit (S := S) (Q := Q) (r := false) (f := Q.wh) (i := k) (fun r => congrFun hR r))
      clear hR hkid
      go_wp2_with fail
      refine (ofNode_any A cap S ⟨aI, cI, aW, cW, aR, cR⟩ Q aW Q.wn cW Q.wh k false _ (HS.out.later hb) (HQ.out.later hb) (HQ.out.later hb).rW hlt HKA.out HKB.out).mono ?_
      rw [HRA.out]
      rintro e w5 ⟨rfl, hb5⟩
      have hb5' := bcall hb hb5
      have hb56 := bnew hb5 (.cells #[.int .i64 0, .int .i64 (R 1), .int .i64 (R 2), .int .i64 (R 3), .int .i64 (R 4)] 118)
      have hb6 := bnew hb5' (.cells #[.int .i64 0, .int .i64 (R 1), .int .i64 (R 2), .int .i64 (R 3), .int .i64 (R 4)] 118)
      have HL6 := Lib.hid (FndOwn.below HL.out hb56)
      have E6 := Lib.hid (blk_new w5 #[.int .i64 0, .int .i64 (R 1), .int .i64 (R 2), .int .i64 (R 3), .int .i64 (R 4)] 118)
      have HC := Lib.hid (show L.length + 1 ≤ 4 * k + 1 by have := HC.out; omega)
      clear y0 y1 y2 y3 y4 y5 y6 u0 HL HKA HKB HRA
      go_upto_region 7 with fail
      generalize w5.alloc _ = w6 at *
      go_wp2_with fail
      go_loopw [5, 9] (fun v q wr => ∃ (z : Nat) (L : List Fnd), 1 ≤ z ∧ z ≤ 5 ∧ q = .int .i64 z ∧ Hid (FndOwn wr w0.heap.size v L) ∧ Hid (Holds L (pWn S Q k z)) ∧ Hid (L.length + 1 ≤ 4 * k + z) ∧ Hid (wr.heap[w5.heap.size]? = some (.cells #[.int .i64 0, .int .i64 (R 1), .int .i64 (R 2), .int .i64 (R 3), .int .i64 (R 4)] 118 (0, 0))) ∧ Below w0.heap.size w0 wr) (fun _ q _ => 5 - (intOf q).toNat)
      case atStart => exact ⟨1, L, Nat.le_refl _, by omega, rfl, HL6, HM, HC, E6, hb6⟩
      case round =>
        clear HL6 HM HC E6 hb6
        obtain ⟨z, L, hz1, hz5, rfl, HL, HM, HC, EZ, hbz⟩ := hrel
        obtain ⟨WZ, e1⟩ : ∃ W1 : World, W1 = wr := ⟨_, rfl⟩
        subst e1
        have hzZ := hbz.size
        by_cases hlz : z ≤ 4
        · have ez := rk_cell EZ.out hz1 hlz
          obtain ⟨ev, hev⟩ : ∃ ev, R z = ev := ⟨_, rfl⟩
          rw [hev] at ez
          have HEV := Lib.hid ((HR.out z).trans hev)
          clear hev
          by_cases h0 : ev = 0
          · subst h0
            go_wp2_with fail
            go_roundw
            case rel => exact ⟨z + 1, L, by omega, by omega, by go_num, HL, Lib.hid (Holds.same HM.out fun y => pn_miss HEV.out), Lib.hid (by have := HC.out; omega), EZ, hbz⟩
            case measure => simp [intOf]; omega
          · have h0' : (ev != 0) = true := by rw [bne_iff_ne]; exact h0
            have HNE := Lib.hid h0
            have hl : L.length ≤ 2199023255560 := by have := HC.out; omega
            go_wp2_with fail
            refine (found_lit (6) (z) (ev) (4) (k) (0) _).mono ?_
            rintro e wf ⟨rfl, hbf⟩
            have HLf := Lib.hid (FndOwn.below HL.out hbf)
            have hcf := bcall hbz hbf
            have hzf := hcf.size
            have EZf := Lib.hid (blk_below EZ.out hbf)
            go_wp2_with (at_builtin; go_loud (refine wpList_append_lies _ rfl _ _ _ rfl w0.heap.size 89 i1 _ 6 48 Tryd.underlying86 hi1 hy0 hy1 hy2 rfl (by omega) _ L.length (flat (fndC L) 6 L.length) rfl (World.ownsRow.alloc HLf.out _) ⟨wf.heap.size, 0, none⟩ 1 1 [.int .i64 6, .int .i64 z, .int .i64 ev, .int .i64 4, .int .i64 k, .int .i64 0] rfl rfl (World.news_of_block (cs := #[.int .i64 6, .int .i64 z, .int .i64 ev, .int .i64 4, .int .i64 k, .int .i64 0]) (t := 89) (fr := (0, 0)) (heap_alloc_new wf _)) (by simp [Value.oneCell']) (by omega) (by unfold maxLen; omega) (by omega) (by simp; omega) (wf.heap.size + 1) (by simp) ?_; intro gg gcap w9 hown9 hgrow hat hlt9))
            have HL9 := Lib.hid (FndOwn.push (x := ⟨6, z, ev, 4, k, 0⟩) HLf.out hown9)
            have hb9 := FndOwn.under HLf.out (Nat.le_refl _) hcf hzf hgrow
            go_roundw
            case rel => exact ⟨z + 1, L ++ [⟨6, z, ev, 4, k, 0⟩], by omega, by omega, by go_num, HL9, Lib.hid (Holds.push HM.out fun y => by first | exact pn_hit' HEV.out HNE.out hz1), Lib.hid (by have := push_len (x := ⟨6, z, ev, 4, k, 0⟩) (show L.length ≤ 4 * k + z - 1 by have := HC.out; omega); have := HC.out; omega), Lib.hid (FndOwn.blk HLf.out hgrow EZf.out (by decide)), hb9⟩
            case measure => simp [intOf]; omega
        · obtain rfl : z = 5 := by omega
          have HM5 := Lib.hid (Holds.same HM.out fun y => pn_next)
          have HC5 := HC
          clear HM
          go_wp2_with fail
          go_roundw
          case rel => exact ⟨k + 1, L, by omega, by go_num, HL, HM5, Lib.hid (by have := HC5.out; omega), hbz⟩
          case measure => simp [intOf]; omega
    · obtain rfl : k = Q.wn := by omega
      by_cases hw0 : Q.wn = 0
      · have hw1 : ((Q.wn : Int) == 0) = true := by rw [beq_iff_eq]; omega
        have HM2 := Lib.hid (Holds.same HM.out fun y => mwh_none hw0)
        have HC2 := Lib.hid (show L.length ≤ 8388608 by have := HC.out; omega)
        go_wp2_with fail
        go_ret
        exact ⟨_, L, rfl, bcall hb0 hb, FndOwn.le HL.out hzw0, HM2.out, HC2.out⟩
      · have hw1 : ((Q.wn : Int) == 0) = false := by rw [beq_eq_false_iff_ne]; omega
        have hw2 : (1 : Int) ≤ (Q.wn : Int) := by omega
        have HTRW := Lib.hid (HTR.out hw0)
        have HW0 := Lib.hid hw0
        obtain ⟨tv, htv⟩ : ∃ tv, isTruthB Q.wn Q.wh = tv := ⟨_, rfl⟩
        have HTV := Lib.hid htv
        have HOP := Lib.hid ((isTruth_last hw0).symm.trans htv)
        obtain ⟨tb, toff, eT, htb, htc⟩ := (HQ.out.later hb).rW.spot (by omega)
        have eT : aW = some ⟨tb, toff, none⟩ := eT
        subst eT
        have c1 := node_truth htc (r := Q.wn - 1) (by omega)
        have et : ((Q.wn : Int) - 1).toNat = Q.wn - 1 := by omega
        have c2 : WA.cell? ⟨tb, toff + ((Q.wn : Int) - 1).toNat * 6, none⟩ = some (.int .i64 (Q.wh (Q.wn - 1)).op) := by rw [et]; exact c1
        clear htc htv et hw0
        go_upto_if 59 with (go_at_call 51; refine (refTruth_any _ _).mono ?_; rw [HOP.out]; rintro e wq ⟨rfl, hq⟩; have hq := hq.symm; subst hq)
        go_cut [5] from 47 to 66 (fun v wx => ∃ L, Hid (FndOwn wx w0.heap.size v L) ∧ Hid (Holds L (pWt S Q)) ∧ Hid (L.length ≤ 4 * Q.wn + 1) ∧ Below w0.heap.size w0 wx)
        case first =>
          have hl : L.length ≤ 2199023255560 := by have := HC.out; omega
          cases tv
          · skip
            go_wp2_with fail
            refine (found_lit (7) (0) (75) (4) ((Q.wn : Int) - 1) (0) _).mono ?_
            rintro e wf ⟨rfl, hbf⟩
            have HLf := Lib.hid (FndOwn.below HL.out hbf)
            have hcf := bcall hb hbf
            have hzf := hcf.size
            go_wp2_with (at_builtin; go_loud (refine wpList_append_lies _ rfl _ _ _ rfl w0.heap.size 89 i1 _ 6 48 Tryd.underlying86 hi1 hy0 hy1 hy2 rfl (by omega) _ L.length (flat (fndC L) 6 L.length) rfl (World.ownsRow.alloc HLf.out _) ⟨wf.heap.size, 0, none⟩ 1 1 [.int .i64 7, .int .i64 0, .int .i64 75, .int .i64 4, .int .i64 ((Q.wn : Int) - 1), .int .i64 0] rfl rfl (World.news_of_block (cs := #[.int .i64 7, .int .i64 0, .int .i64 75, .int .i64 4, .int .i64 ((Q.wn : Int) - 1), .int .i64 0]) (t := 89) (fr := (0, 0)) (heap_alloc_new wf _)) (by simp [Value.oneCell']) (by omega) (by unfold maxLen; omega) (by omega) (by simp; omega) (wf.heap.size + 1) (by simp) ?_; intro gg gcap w9 hown9 hgrow hat hlt9))
            have HL9 := Lib.hid (FndOwn.push (x := ⟨7, 0, 75, 4, (Q.wn : Int) - 1, 0⟩) HLf.out hown9)
            have hb9 := FndOwn.under HLf.out (Nat.le_refl _) hcf hzf hgrow
            go_meet
            exact ⟨L ++ [⟨7, 0, 75, 4, (Q.wn : Int) - 1, 0⟩], HL9, Lib.hid (Holds.push HM.out fun y => pwt_hit HTV.out), Lib.hid (push_len HC.out), hb9⟩
          · go_wp2_with fail
            go_meet
            exact ⟨L, HL, Lib.hid (Holds.same HM.out fun y => pwt_miss HTV.out), Lib.hid (by have := HC.out; omega), hb⟩
        case rest =>
        clear HL HM HC hb c1 c2
        obtain ⟨L, HL, HM, HC, hb⟩ := hcut
        obtain ⟨WB, ewc⟩ : ∃ w5 : World, w5 = wc := ⟨_, rfl⟩
        subst ewc
        have hcl := conj_len (n := Q.wn) (f := Q.wh)
        obtain ⟨cl, hcle⟩ : ∃ cl, (conjL Q.wn Q.wh).length = cl := ⟨_, rfl⟩
        have HCL := Lib.hid hcle
        rw [hcle] at hcl
        clear hcle
        go_wp2_with fail
        refine (refConj_any (some ⟨tb, toff, none⟩) Q.wn cW Q.wh _ (HQ.out.later hb).rW (block_below HK.out hb)).mono ?_
        rw [HCL.out]
        rintro e w2 ⟨v2, rfl, hb2, hown2⟩
        obtain ⟨A2, c2, rfl, _⟩ := rowown_shape hown2
        have hzWB := hb.size
        have HO2 := Lib.hid (ownsRow_le hown2 hzWB)
        have HL2 := Lib.hid (FndOwn.below HL.out hb2)
        have hb2' := bcall hb hb2
        clear hown2 HL
        go_wp2_with fail
        go_loopw [5, 11] (fun v i wr => ∃ (p : Nat) (L : List Fnd), p ≤ cl ∧ i = .int .i64 p ∧ Hid (FndOwn wr w0.heap.size v L) ∧ Hid (Holds L (pCj S Q p)) ∧ Hid (L.length ≤ 4 * Q.wn + 1 + p) ∧ Hid (wr.ownsRow w0.heap.size 3 1 (.slice A2 cl c2) cl ((conjL Q.wn Q.wh).map natV)) ∧ Below w0.heap.size w0 wr) (fun _ i _ => cl - (intOf i).toNat)
        case atStart => exact ⟨0, L, Nat.zero_le _, rfl, HL2, Lib.hid (Holds.same HM.out fun y => pcj_zero), HC, HO2, hb2'⟩
        case round =>
          clear HL2 HM HC HO2 hb2' hb2 hb
          obtain ⟨p, L, hp, rfl, HL, HM, HC, HO, hb⟩ := hrel
          obtain ⟨WC, e1⟩ : ∃ W1 : World, W1 = wr := ⟨_, rfl⟩
          subst e1
          have hzC := hb.size
          by_cases hlp : p < cl
          · obtain ⟨root, hroot⟩ : ∃ root, (conjL Q.wn Q.wh).getD p 0 = root := ⟨_, rfl⟩
            have HRT := Lib.hid hroot
            have hrlt : root < Q.wn := by rw [← hroot]; exact conjL_lt HTRW.out _ (getD_mem (by rw [HCL.out]; exact hlp))
            obtain ⟨lb, loff, eL, hlb, hlc⟩ := IntRd.spot (natrow_rd' HO.out HCL.out (by omega)) (by omega)
            have d0 := hlc p hlp
            rw [hroot] at d0
            subst eL
            obtain ⟨mx, hmx⟩ : ∃ mx, rootMix Q Q.wn Q.wh root = mx := ⟨_, rfl⟩
            have HMX := Lib.hid hmx
            have hsz := size_le (n := Q.wn) (f := Q.wh) (root := (root : Int))
            clear hlc hroot hmx
            go_wp2_with fail
            refine (refSub_any (some ⟨tb, toff, none⟩) Q.wn cW Q.wh root _ (HQ.out.later hb).rW (block_below HK.out hb)).mono ?_
            rintro e w3 ⟨v3, rfl, hb3, hown3⟩
            obtain ⟨A3, c3, rfl, _⟩ := rowown_shape hown3
            have HN3 := Lib.hid (show NodRd w3 w3.heap.size A3 (sizeI Q.wn Q.wh root) (subF Q.wn Q.wh root) from rowown_rd hown3 (by omega))
            have hb3' := bcall hb hb3
            obtain ⟨y0, y1, y2, y3, y4, y5, y6⟩ := blk7 (blk_below Q0.out hb3')
            have d3 := rd_later d0 hb3
            clear hown3 d0
            go_wp2_with fail
            refine (refUses_any ⟨aI, cI, some ⟨tb, toff, none⟩, cW, aR, cR⟩ Q A3 (sizeI Q.wn Q.wh root) c3 (subF Q.wn Q.wh root) _ (HQ.out.later hb3') HN3.out).mono ?_
            obtain ⟨UL, hUL⟩ : ∃ UL, usesL bareB Q.n Q.it (subF Q.wn Q.wh root) (sizeI Q.wn Q.wh root) Q.n = UL := ⟨_, rfl⟩
            have HUL := Lib.hid hUL
            have hull : UL.length ≤ Q.n := by rw [← hUL]; exact uses_len
            have HULT := Lib.hid (show ∀ i ∈ UL, i < Q.n by rw [← hUL]; exact uses_lt)
            have HMIX := Lib.hid (show rootMix Q Q.wn Q.wh root = decide (1 < cntT Q UL UL.length) by rw [cntT_all, ← hUL]; rfl)
            rw [hUL]
            clear hUL
            rintro e w4 ⟨u1, u2, u3, rfl, hb4, o1, o2, o3⟩
            obtain ⟨A4, c4, rfl, _⟩ := rowown_shape o1
            have HI4 := Lib.hid (natrow_rd o1 (Nat.le_trans hull hnI))
            obtain ⟨A5, n5, c5, rfl⟩ : ∃ A n c, u2 = Value.slice A n c := by
              obtain ⟨A, c, e, _⟩ := rowown_shape o2
              exact ⟨A, _, c, e⟩
            obtain ⟨A6, n6, c6, rfl⟩ : ∃ A n c, u3 = Value.slice A n c := by
              obtain ⟨A, c, e, _⟩ := rowown_shape o3
              exact ⟨A, _, c, e⟩
            have hb35 := bnew (bcall hb3 hb4) (.cells #[.slice A4 UL.length c4, .slice A5 n5 c5, .slice A6 n6 c6] 57)
            have hb5 := bcall hb hb35
            have hb45 := bnew (Below.refl w4.heap.size w4) (.cells #[.slice A4 UL.length c4, .slice A5 n5 c5, .slice A6 n6 c6] 57)
            have U5 := Lib.hid (blk_new w4 #[.slice A4 UL.length c4, .slice A5 n5 c5, .slice A6 n6 c6] 57)
            have HI5 := Lib.hid (IntRd.later HI4.out hb45)
            have d5 := rd_later d3 (bnew hb4 (.cells #[.slice A4 UL.length c4, .slice A5 n5 c5, .slice A6 n6 c6] 57))
            have hz45 : w4.heap.size < (w4.alloc (.cells #[.slice A4 UL.length c4, .slice A5 n5 c5, .slice A6 n6 c6] 57)).heap.size := by simp
            clear y0 y1 y2 y3 y4 y5 y6 o1 o2 o3 d3 hb4
            go_upto_region 22 with fail
            generalize w4.alloc _ = w5 at *
            go_wp2_with fail
            go_loopw [14, 15] (fun t j wr => ∃ z : Nat, z ≤ UL.length ∧ j = .int .i64 z ∧ t = .int .i64 (cntT Q UL z : Nat) ∧ Below w5.heap.size w5 wr) (fun _ j _ => UL.length - (intOf j).toNat)
            case atStart => exact ⟨0, Nat.zero_le _, rfl, rfl, Below.refl _ _⟩
            case round =>
              obtain ⟨z, hz, rfl, rfl, hbz⟩ := hrel
              obtain ⟨WD, e1⟩ : ∃ W1 : World, W1 = wr := ⟨_, rfl⟩
              subst e1
              have hb5z := bcall hb5 hbz
              have t0 := blk_cell (blk_below U5.out hbz) (j := 0) rfl
              have hzk := cntT_le Q UL z
              by_cases hlz : z < UL.length
              · obtain ⟨ub, uoff, eU, hub, huc⟩ := (IntRd.later HI5.out hbz).spot (by omega)
                subst eU
                have q0 := huc z hlz
                have hnx := cntT_next (Q := Q) hlz
                have hin := HULT.out _ (getD_mem hlz)
                obtain ⟨i, hi⟩ : ∃ i, UL.getD z 0 = i := ⟨_, rfl⟩
                rw [hi] at q0 hnx hin
                obtain ⟨ib, ioff, eI, hib, hci⟩ := (HQ.out.later hb5z).rI.spot (by omega)
                have eI : aI = some ⟨ib, ioff, none⟩ := eI
                subst eI
                obtain ⟨g0, ⟨ta, tc, g1, _, _, hty⟩, g2, g3, g4⟩ := hci i hin
                have x0 := blk_cell (blk_below Q0.out hb5z) (j := 0) rfl
                obtain ⟨y, hy⟩ : ∃ y, Q.it i = y := ⟨_, rfl⟩
                rw [hy] at g0 g1 g2 g3 g4 hnx
                obtain ⟨ng, tn, ty, vr, lo, hi'⟩ := y
                have g0 : WD.cell? ⟨ib, ioff + i * 5, none⟩ = some (.bool ng) := g0
                have g1 : WD.cell? ⟨ib, ioff + i * 5 + 1, none⟩ = some (.slice ta tn tc) := g1
                have g2 : WD.cell? ⟨ib, ioff + i * 5 + 2, none⟩ = some (.string vr) := g2
                have g3 : WD.cell? ⟨ib, ioff + i * 5 + 3, none⟩ = some (.int .i64 lo) := g3
                have g4 : WD.cell? ⟨ib, ioff + i * 5 + 4, none⟩ = some (.int .i64 hi') := g4
                have HNX := Lib.hid hnx
                have hzz := hbz.size
                have hzd1 : w4.heap.size < WD.heap.size := by omega
                have hzd2 : w.heap.size + 1 < WD.heap.size := by have := blk_lt Q0.out; have := hb5.size; omega
                clear huc hci hi hy hnx
                go_upto_region 26 with fail
                go_region
                all_goals
                  have hbI : Below WD.heap.size WD (WD.alloc (.cells #[.bool ng, .slice ta tn tc, .string vr, .int .i64 lo, .int .i64 hi'] 80)) := bnew (Below.refl _ _) _
                  have I6 := Lib.hid (blk_new WD #[.bool ng, .slice ta tn tc, .string vr, .int .i64 lo, .int .i64 hi'] 80)
                  generalize WD.alloc _ = w6 at *
                  clear g0 g1 g2 g3 g4 q0 x0 t0
                  have z0 := blk_cell I6.out (j := 0) rfl
                  have z4 := blk_cell I6.out (j := 4) rfl
                  cases ng
                  · by_cases hh : 1 < hi'
                    · have e : cntT Q UL (z + 1) = cntT Q UL z + 1 := by rw [HNX.out, if_pos (by simp [touchB, hh])]
                      have HEQ := Lib.hid e
                      clear e
                      go_wp2_with fail
                      go_roundw
                      case rel => exact ⟨z + 1, by omega, by go_num, by rw [HEQ.out]; go_num, bcall hbz (by first | exact hbI | exact hbI.drew)⟩
                      case measure => simp [intOf]; omega
                    · have e : cntT Q UL (z + 1) = cntT Q UL z := by rw [HNX.out, if_neg (by simp [touchB, hh])]; omega
                      have HEQ := Lib.hid e
                      clear e
                      go_wp2_with fail
                      go_roundw
                      case rel => exact ⟨z + 1, by omega, by go_num, by rw [HEQ.out], bcall hbz (by first | exact hbI | exact hbI.drew)⟩
                      case measure => simp [intOf]; omega
                  · have e : cntT Q UL (z + 1) = cntT Q UL z + 1 := by rw [HNX.out, if_pos (by simp [touchB])]
                    have HEQ := Lib.hid e
                    clear e
                    go_wp2_with fail
                    go_roundw
                    case rel => exact ⟨z + 1, by omega, by go_num, by rw [HEQ.out]; go_num, bcall hbz (by first | exact hbI | exact hbI.drew)⟩
                    case measure => simp [intOf]; omega
              · obtain rfl : z = UL.length := by omega
                have hbCD := bcall hb35 hbz
                have HLD := Lib.hid (FndOwn.below HL.out hbCD)
                have HOD := Lib.hid (rowown_below HO.out hbCD)
                have dD := rd_later d5 hbz
                have hl : L.length ≤ 2199023255560 := by have := HC.out; omega
                have HMM := Lib.hid (HMIX.out.symm.trans HMX.out)
                obtain ⟨ct, hct⟩ : ∃ ct, cntT Q UL UL.length = ct := ⟨_, rfl⟩
                have HMC := Lib.hid (show decide (1 < ct) = mx by rw [← hct]; exact HMM.out)
                rw [hct]
                rw [hct] at hzk
                clear hct d5 HMM
                by_cases hcc : 1 < ct
                · have HMT := Lib.hid (show rootMix Q Q.wn Q.wh root = true by rw [HMX.out, ← HMC.out]; exact decide_eq_true hcc)
                  have hcc' : (1 : Int) < (ct : Int) := by omega
                  go_wp2_with fail
                  refine (found_lit (8) (0) (77) (4) (root) (0) _).mono ?_
                  rintro e wf ⟨rfl, hbf⟩
                  have HLf := Lib.hid (FndOwn.below HLD.out hbf)
                  have hcf := bcall hb5z hbf
                  have hzf := hcf.size
                  have HOf := Lib.hid (rowown_below HOD.out hbf)
                  go_wp2_with (at_builtin; go_loud (refine wpList_append_lies _ rfl _ _ _ rfl w0.heap.size 89 i1 _ 6 48 Tryd.underlying86 hi1 hy0 hy1 hy2 rfl (by omega) _ L.length (flat (fndC L) 6 L.length) rfl (World.ownsRow.alloc HLf.out _) ⟨wf.heap.size, 0, none⟩ 1 1 [.int .i64 8, .int .i64 0, .int .i64 77, .int .i64 4, .int .i64 root, .int .i64 0] rfl rfl (World.news_of_block (cs := #[.int .i64 8, .int .i64 0, .int .i64 77, .int .i64 4, .int .i64 root, .int .i64 0]) (t := 89) (fr := (0, 0)) (heap_alloc_new wf _)) (by simp [Value.oneCell']) (by omega) (by unfold maxLen; omega) (by omega) (by simp; omega) (wf.heap.size + 1) (by simp) ?_; intro gg gcap w9 hown9 hgrow hat hlt9))
                  have HL9 := Lib.hid (FndOwn.push (x := ⟨8, 0, 77, 4, root, 0⟩) HLf.out hown9)
                  have hb9 := FndOwn.under HLf.out (Nat.le_refl _) hcf hzf hgrow
                  go_roundw
                  case rel => exact ⟨p + 1, L ++ [⟨8, 0, 77, 4, root, 0⟩], by omega, by go_num, HL9, Lib.hid (Holds.push HM.out fun y => pcj_hit HRT.out HMT.out), Lib.hid (push_len HC.out), Lib.hid (FndOwn.far HLf.out hgrow HOf.out (by decide)), hb9⟩
                  case measure => simp [intOf]; omega
                · have HMF := Lib.hid (show rootMix Q Q.wn Q.wh root = false by rw [HMX.out, ← HMC.out]; exact decide_eq_false hcc)
                  have hcc' : ¬ (1 : Int) < (ct : Int) := by omega
                  go_wp2_with fail
                  go_roundw
                  case rel => exact ⟨p + 1, L, by omega, by go_num, HLD, Lib.hid (Holds.same HM.out fun y => pcj_miss HRT.out HMF.out), Lib.hid (by have := HC.out; omega), HOD, hb5z⟩
                  case measure => simp [intOf]; omega
          · obtain rfl : p = cl := by omega
            have HM2 := Lib.hid (show Holds L (mWhere S Q) by have hm := HM.out; rw [← HCL.out] at hm; exact Holds.same hm fun y => mwh_some HW0.out)
            have HC2 := Lib.hid (show L.length ≤ 8388608 by have := HC.out; omega)
            go_wp2_with fail
            go_ret
            exact ⟨_, L, rfl, bcall hb0 hb, FndOwn.le HL.out hzw0, HM2.out, HC2.out⟩
end Go.Proofs.YtagcbljfaflhoaaDoor

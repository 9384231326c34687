/-
  The walk of the statement's own 'merged': two rising lists as one.
-/
import Derived.Test.YtagcbljfaflhoaaDoorTogether
import Derived.Test.YtagcbljfaflhoaaDoorIntC
set_option linter.unusedSimpArgs false
set_option linter.unusedVariables false
namespace Go.Proofs.YtagcbljfaflhoaaDoor
open Go.RowKit Go.ChangeShapes Go.WideShapes Go.ChangeAt Go.Deep Go.Joins
theorem drop_at {L : List Nat} {k : Nat} (hk : k < L.length) : L.drop k = L.getD k 0 :: L.drop (k + 1) := by
  rw [List.drop_eq_getElem_cons hk, getD_at hk]
theorem natV_snoc (R : List Nat) (x : Nat) : (R ++ [x]).map natV = R.map natV ++ [.int .i64 (x : Int)] := by simp [natV]
theorem infoIntM : (Tryd.prog.info? 3).map (fun i => (i.zero, i.size, i.bytes)) = some (some (.int .i64 0), 1, 8) := by kernel_rfl
set_option maxRecDepth 100000 in
set_option maxHeartbeats 4000000 in
theorem merged_any (A1 : Option Addr) (c1 : Nat) (L1 : List Nat) (A2 : Option Addr) (c2 : Nat) (L2 : List Nat) (w : World) (h1 : IntRd w w.heap.size A1 L1.length (fun j => (L1.getD j 0 : Nat))) (h2 : IntRd w w.heap.size A2 L2.length (fun j => (L2.getD j 0 : Nat))) (hs : L1.length + L2.length ≤ 2097152) :
    Calls Tryd.prog 38 #[.slice A1 L1.length c1, .slice A2 L2.length c2] w fun e w' => ∃ v', e = .returned v' ∧ Below w.heap.size w w' ∧ w'.ownsRow w.heap.size 3 1 v' (mergeL L1 L2).length ((mergeL L1 L2).map natV) := by
  obtain ⟨i0, hi0, hy0, hy1, hy2⟩ := info_parts infoIntM
  have H1 := Lib.hid h1
  have H2 := Lib.hid h2
  obtain ⟨la, hla⟩ : ∃ la, L1.length = la := ⟨_, rfl⟩
  obtain ⟨lb, hlb⟩ : ∃ lb, L2.length = lb := ⟨_, rfl⟩
  obtain ⟨ga, hga⟩ : ∃ g : Nat → Nat, (fun j => L1.getD j 0) = g := ⟨_, rfl⟩
  obtain ⟨gb, hgb⟩ : ∃ g : Nat → Nat, (fun j => L2.getD j 0) = g := ⟨_, rfl⟩
  have HGA := Lib.hid (fun j => congrFun hga j)
  have HGB := Lib.hid (fun j => congrFun hgb j)
  have H1 := Lib.hid (show IntRd w w.heap.size A1 la (fun j => (ga j : Nat)) by rw [← hga, ← hla]; exact h1)
  have H2 := Lib.hid (show IntRd w w.heap.size A2 lb (fun j => (gb j : Nat)) by rw [← hgb, ← hlb]; exact h2)
  have HLA := Lib.hid hla
  have HLB := Lib.hid hlb
  rw [hla, hlb] at hs ⊢
  clear h1 h2 hla hlb hga hgb
  go_enter Tryd.func38, Tryd.ntmps38
  go_wp2_with fail
  go_loopw [6, 7, 5] (fun i j v wr => ∃ (p q : Nat) (R : List Nat) (v0 : Value), p ≤ la ∧ q ≤ lb ∧ i = .int .i64 p ∧ j = .int .i64 q ∧ v = v0 ∧ R.length ≤ p + q ∧ Hid (R ++ mergeL (L1.drop p) (L2.drop q) = mergeL L1 L2) ∧ Below w.heap.size w wr ∧ Hid (wr.ownsRow w.heap.size 3 1 v0 R.length (R.map natV))) (fun i j _ _ => la - (intOf i).toNat + (lb - (intOf j).toNat))
  case atStart => exact ⟨0, 0, [], _, Nat.zero_le _, Nat.zero_le _, rfl, rfl, rfl, Nat.zero_le _, Lib.hid rfl, Below.refl _ _, Lib.hid (World.ownsRow_nil _ _ _ _)⟩
  case round =>
    obtain ⟨p, q, R, v, hp, hq, rfl, rfl, hv, hR, HR, hb, HV⟩ := hrel
    have hv := hv.symm
    subst hv
    obtain ⟨W1, e1⟩ : ∃ W1 : World, W1 = wr := ⟨_, rfl⟩
    subst e1
    have hbs := hb.size
    by_cases hpa : p < la
    · obtain ⟨b1, o1, rfl, hbl1, hcs1⟩ := (IntRd.later H1.out hb).spot (by omega)
      have x1 := hcs1 p hpa
      obtain ⟨x, hx⟩ : ∃ x, ga p = x := ⟨_, rfl⟩
      rw [hx] at x1
      have HX := Lib.hid ((HGA.out p).trans hx)
      clear hcs1 hx
      by_cases hqb : q < lb
      · obtain ⟨b2, o2, rfl, hbl2, hcs2⟩ := (IntRd.later H2.out hb).spot (by omega)
        have x2 := hcs2 q hqb
        obtain ⟨y, hy⟩ : ∃ y, gb q = y := ⟨_, rfl⟩
        rw [hy] at x2
        have HY := Lib.hid ((HGB.out q).trans hy)
        clear hcs2 hy
        have n1 : ((q : Int) == (lb : Int)) = false := by rw [beq_eq_false_iff_ne]; omega
        have n2 : ((p : Int) == (la : Int)) = false := by rw [beq_eq_false_iff_ne]; omega
        rcases Nat.lt_trichotomy x y with hc | hc | hc
        · have HM := Lib.hid (show (R ++ [x]) ++ mergeL (L1.drop (p + 1)) (L2.drop q) = mergeL L1 L2 by rw [← HR.out, drop_at (k := p) (by rw [HLA.out]; exact hpa), drop_at (k := q) (by rw [HLB.out]; exact hqb), HX.out, HY.out, merge_lt hc, List.append_assoc]; rfl)
          have hc1 : decide (x < y) = true := decide_eq_true hc
          go_wp2_with fail
          go_quiet (fail)
          have HVd : Hid (World.ownsRow (W1.drewN nq) w.heap.size 3 1 v R.length (R.map natV)) := HV
          have hbd : Below w.heap.size w (W1.drewN nq) := bdrewN hb _
          have xd := (show World.cell? (W1.drewN nq) ⟨b1, o1 + p, none⟩ = _ from x1)
          generalize (W1.drewN nq) = Wd at *
          have hbs2 := hbd.size
          go_wp2_with (at_builtin; go_loud (refine wpList_append_lies _ rfl _ _ _ rfl w.heap.size 3 i0 _ 1 8 Tryd.underlying27 hi0 hy0 hy1 hy2 rfl (by omega) v R.length (R.map natV) rfl (World.ownsRow.alloc HVd.out _) ⟨Wd.heap.size, 0, none⟩ 1 1 [.int .i64 (x : Nat)] rfl rfl (World.news_of_block (cs := #[.int .i64 (x : Nat)]) (t := 3) (fr := (0, 0)) (heap_alloc_new Wd _)) (by simp [Value.oneCell']) (by omega) (by unfold maxLen; omega) (by omega) (by simp; omega) (Wd.heap.size + 1) (by simp) ?_; intro gg gcap w9 hown9 hgrow hat hlt9))
          have hb9 := below_grown (hbd.alloc (by omega) (.cells #[.int .i64 (x : Nat)] 3)) hgrow (by simp; omega) (fun z hz => (HVd.out.lt z hz).1)
          have HV9 : Hid (w9.ownsRow w.heap.size 3 1 (.slice (some ⟨gg, 0, none⟩) (R.length + 1) gcap) (R ++ [x]).length ((R ++ [x]).map natV)) := Lib.hid (by rw [List.length_append, List.length_singleton, natV_snoc]; exact hown9)
          go_roundw
          case rel => exact ⟨p + 1, q, R ++ [x], _, by omega, by omega, by go_num, by go_num, rfl, by rw [List.length_append, List.length_singleton]; omega, HM, hb9, HV9⟩
          case measure => simp [intOf]; omega
        · subst hc
          have HM := Lib.hid (show (R ++ [x]) ++ mergeL (L1.drop (p + 1)) (L2.drop (q + 1)) = mergeL L1 L2 by rw [← HR.out, drop_at (k := p) (by rw [HLA.out]; exact hpa), drop_at (k := q) (by rw [HLB.out]; exact hqb), HX.out, HY.out, merge_eq, List.append_assoc]; rfl)
          have hc1 : decide (x < x) = false := decide_eq_false (Nat.lt_irrefl _)
          go_wp2_with fail
          go_quiet (fail)
          generalize nq = k1 at *
          go_wp2_with fail
          go_quiet (fail)
          have HVd : Hid (World.ownsRow ((W1.drewN k1).drewN nq) w.heap.size 3 1 v R.length (R.map natV)) := HV
          have hbd : Below w.heap.size w ((W1.drewN k1).drewN nq) := bdrewN (bdrewN hb _) _
          have xd := (show World.cell? ((W1.drewN k1).drewN nq) ⟨b1, o1 + p, none⟩ = _ from x1)
          generalize ((W1.drewN k1).drewN nq) = Wd at *
          have hbs2 := hbd.size
          go_wp2_with (at_builtin; go_loud (refine wpList_append_lies _ rfl _ _ _ rfl w.heap.size 3 i0 _ 1 8 Tryd.underlying27 hi0 hy0 hy1 hy2 rfl (by omega) v R.length (R.map natV) rfl (World.ownsRow.alloc HVd.out _) ⟨Wd.heap.size, 0, none⟩ 1 1 [.int .i64 (x : Nat)] rfl rfl (World.news_of_block (cs := #[.int .i64 (x : Nat)]) (t := 3) (fr := (0, 0)) (heap_alloc_new Wd _)) (by simp [Value.oneCell']) (by omega) (by unfold maxLen; omega) (by omega) (by simp; omega) (Wd.heap.size + 1) (by simp) ?_; intro gg gcap w9 hown9 hgrow hat hlt9))
          have hb9 := below_grown (hbd.alloc (by omega) (.cells #[.int .i64 (x : Nat)] 3)) hgrow (by simp; omega) (fun z hz => (HVd.out.lt z hz).1)
          have HV9 : Hid (w9.ownsRow w.heap.size 3 1 (.slice (some ⟨gg, 0, none⟩) (R.length + 1) gcap) (R ++ [x]).length ((R ++ [x]).map natV)) := Lib.hid (by rw [List.length_append, List.length_singleton, natV_snoc]; exact hown9)
          go_roundw
          case rel => exact ⟨p + 1, q + 1, R ++ [x], _, by omega, by omega, by go_num, by go_num, rfl, by rw [List.length_append, List.length_singleton]; omega, HM, hb9, HV9⟩
          case measure => simp [intOf]; omega
        · have HM := Lib.hid (show (R ++ [y]) ++ mergeL (L1.drop p) (L2.drop (q + 1)) = mergeL L1 L2 by rw [← HR.out, drop_at (k := p) (by rw [HLA.out]; exact hpa), drop_at (k := q) (by rw [HLB.out]; exact hqb), HX.out, HY.out, merge_gt hc, List.append_assoc]; rfl)
          have hc1 : decide (y < x) = true := decide_eq_true hc
          have hc2 : decide (x < y) = false := decide_eq_false (by omega)
          go_wp2_with fail
          go_quiet (fail)
          generalize nq = k1 at *
          go_wp2_with fail
          go_quiet (fail)
          have HVd : Hid (World.ownsRow ((W1.drewN k1).drewN nq) w.heap.size 3 1 v R.length (R.map natV)) := HV
          have hbd : Below w.heap.size w ((W1.drewN k1).drewN nq) := bdrewN (bdrewN hb _) _
          have xd := (show World.cell? ((W1.drewN k1).drewN nq) ⟨b2, o2 + q, none⟩ = _ from x2)
          generalize ((W1.drewN k1).drewN nq) = Wd at *
          have hbs2 := hbd.size
          go_wp2_with (at_builtin; go_loud (refine wpList_append_lies _ rfl _ _ _ rfl w.heap.size 3 i0 _ 1 8 Tryd.underlying27 hi0 hy0 hy1 hy2 rfl (by omega) v R.length (R.map natV) rfl (World.ownsRow.alloc HVd.out _) ⟨Wd.heap.size, 0, none⟩ 1 1 [.int .i64 (y : Nat)] rfl rfl (World.news_of_block (cs := #[.int .i64 (y : Nat)]) (t := 3) (fr := (0, 0)) (heap_alloc_new Wd _)) (by simp [Value.oneCell']) (by omega) (by unfold maxLen; omega) (by omega) (by simp; omega) (Wd.heap.size + 1) (by simp) ?_; intro gg gcap w9 hown9 hgrow hat hlt9))
          have hb9 := below_grown (hbd.alloc (by omega) (.cells #[.int .i64 (y : Nat)] 3)) hgrow (by simp; omega) (fun z hz => (HVd.out.lt z hz).1)
          have HV9 : Hid (w9.ownsRow w.heap.size 3 1 (.slice (some ⟨gg, 0, none⟩) (R.length + 1) gcap) (R ++ [y]).length ((R ++ [y]).map natV)) := Lib.hid (by rw [List.length_append, List.length_singleton, natV_snoc]; exact hown9)
          go_roundw
          case rel => exact ⟨p, q + 1, R ++ [y], _, by omega, by omega, by go_num, by go_num, rfl, by rw [List.length_append, List.length_singleton]; omega, HM, hb9, HV9⟩
          case measure => simp [intOf]; omega
      · obtain rfl : q = lb := by omega
        have HM := Lib.hid (show (R ++ [x]) ++ mergeL (L1.drop (p + 1)) (L2.drop q) = mergeL L1 L2 by rw [← HR.out, drop_at (k := p) (by rw [HLA.out]; exact hpa), HX.out, List.drop_eq_nil_of_le (show L2.length ≤ q by rw [HLB.out]; exact Nat.le_refl _), merge_none, merge_none, List.append_assoc]; rfl)
        go_wp2_with fail
        go_quiet (fail)
        have HVd : Hid (World.ownsRow (W1.drewN nq) w.heap.size 3 1 v R.length (R.map natV)) := HV
        have hbd : Below w.heap.size w (W1.drewN nq) := bdrewN hb _
        have xd := (show World.cell? (W1.drewN nq) ⟨b1, o1 + p, none⟩ = _ from x1)
        generalize (W1.drewN nq) = Wd at *
        have hbs2 := hbd.size
        go_wp2_with (at_builtin; go_loud (refine wpList_append_lies _ rfl _ _ _ rfl w.heap.size 3 i0 _ 1 8 Tryd.underlying27 hi0 hy0 hy1 hy2 rfl (by omega) v R.length (R.map natV) rfl (World.ownsRow.alloc HVd.out _) ⟨Wd.heap.size, 0, none⟩ 1 1 [.int .i64 (x : Nat)] rfl rfl (World.news_of_block (cs := #[.int .i64 (x : Nat)]) (t := 3) (fr := (0, 0)) (heap_alloc_new Wd _)) (by simp [Value.oneCell']) (by omega) (by unfold maxLen; omega) (by omega) (by simp; omega) (Wd.heap.size + 1) (by simp) ?_; intro gg gcap w9 hown9 hgrow hat hlt9))
        have hb9 := below_grown (hbd.alloc (by omega) (.cells #[.int .i64 (x : Nat)] 3)) hgrow (by simp; omega) (fun z hz => (HVd.out.lt z hz).1)
        have HV9 : Hid (w9.ownsRow w.heap.size 3 1 (.slice (some ⟨gg, 0, none⟩) (R.length + 1) gcap) (R ++ [x]).length ((R ++ [x]).map natV)) := Lib.hid (by rw [List.length_append, List.length_singleton, natV_snoc]; exact hown9)
        go_roundw
        case rel => exact ⟨p + 1, q, R ++ [x], _, by omega, by omega, by go_num, by go_num, rfl, by rw [List.length_append, List.length_singleton]; omega, HM, hb9, HV9⟩
        case measure => simp [intOf]; omega
    · obtain rfl : p = la := by omega
      by_cases hqb : q < lb
      · obtain ⟨b2, o2, rfl, hbl2, hcs2⟩ := (IntRd.later H2.out hb).spot (by omega)
        have x2 := hcs2 q hqb
        obtain ⟨y, hy⟩ : ∃ y, gb q = y := ⟨_, rfl⟩
        rw [hy] at x2
        have HY := Lib.hid ((HGB.out q).trans hy)
        clear hcs2 hy
        have n1 : ((q : Int) == (lb : Int)) = false := by rw [beq_eq_false_iff_ne]; omega
        have HM := Lib.hid (show (R ++ [y]) ++ mergeL (L1.drop p) (L2.drop (q + 1)) = mergeL L1 L2 by rw [← HR.out, drop_at (k := q) (by rw [HLB.out]; exact hqb), HY.out, List.drop_eq_nil_of_le (show L1.length ≤ p by rw [HLA.out]; exact Nat.le_refl _), merge_nil, merge_nil, List.append_assoc]; rfl)
        go_wp2_with fail
        go_quiet (fail)
        generalize nq = k1 at *
        go_wp2_with fail
        go_quiet (fail)
        have HVd : Hid (World.ownsRow ((W1.drewN k1).drewN nq) w.heap.size 3 1 v R.length (R.map natV)) := HV
        have hbd : Below w.heap.size w ((W1.drewN k1).drewN nq) := bdrewN (bdrewN hb _) _
        have xd := (show World.cell? ((W1.drewN k1).drewN nq) ⟨b2, o2 + q, none⟩ = _ from x2)
        generalize ((W1.drewN k1).drewN nq) = Wd at *
        have hbs2 := hbd.size
        go_wp2_with (at_builtin; go_loud (refine wpList_append_lies _ rfl _ _ _ rfl w.heap.size 3 i0 _ 1 8 Tryd.underlying27 hi0 hy0 hy1 hy2 rfl (by omega) v R.length (R.map natV) rfl (World.ownsRow.alloc HVd.out _) ⟨Wd.heap.size, 0, none⟩ 1 1 [.int .i64 (y : Nat)] rfl rfl (World.news_of_block (cs := #[.int .i64 (y : Nat)]) (t := 3) (fr := (0, 0)) (heap_alloc_new Wd _)) (by simp [Value.oneCell']) (by omega) (by unfold maxLen; omega) (by omega) (by simp; omega) (Wd.heap.size + 1) (by simp) ?_; intro gg gcap w9 hown9 hgrow hat hlt9))
        have hb9 := below_grown (hbd.alloc (by omega) (.cells #[.int .i64 (y : Nat)] 3)) hgrow (by simp; omega) (fun z hz => (HVd.out.lt z hz).1)
        have HV9 : Hid (w9.ownsRow w.heap.size 3 1 (.slice (some ⟨gg, 0, none⟩) (R.length + 1) gcap) (R ++ [y]).length ((R ++ [y]).map natV)) := Lib.hid (by rw [List.length_append, List.length_singleton, natV_snoc]; exact hown9)
        go_roundw
        case rel => exact ⟨p, q + 1, R ++ [y], _, by omega, by omega, by go_num, by go_num, rfl, by rw [List.length_append, List.length_singleton]; omega, HM, hb9, HV9⟩
        case measure => simp [intOf]; omega
      · obtain rfl : q = lb := by omega
        have HE := Lib.hid (show R = mergeL L1 L2 by rw [← HR.out, List.drop_eq_nil_of_le (show L1.length ≤ p by rw [HLA.out]; exact Nat.le_refl _), merge_nil, List.drop_eq_nil_of_le (show L2.length ≤ q by rw [HLB.out]; exact Nat.le_refl _), List.append_nil])
        go_wp2_with fail
        go_ret
        exact ⟨_, rfl, hb, by rw [← HE.out]; exact HV.out⟩
end Go.Proofs.YtagcbljfaflhoaaDoor

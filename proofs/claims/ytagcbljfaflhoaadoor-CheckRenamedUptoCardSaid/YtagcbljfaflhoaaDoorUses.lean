/-
  What nodes mention of a query's items: plain, and the program's walk.
-/
import Derived.Test.YtagcbljfaflhoaaDoorByName
import Derived.Test.YtagcbljfaflhoaaDoorIntC
set_option linter.unusedSimpArgs false
set_option linter.unusedVariables false
namespace Go.Proofs.YtagcbljfaflhoaaDoor
open Go.RowKit Go.ChangeShapes Go.WideShapes Go.ChangeAt Go.Deep Go.Joins
open Go.Maps (Keyed IsMap)
def bareB (op : Int) : Bool := op == 4 || op == 11
def prevB (op : Int) : Bool := op == 11
def aggB (op : Int) : Bool := decide (5 ≤ op) && decide (op ≤ 10)
/-- How many of the first k nodes of a kind mention item i. -/
def cntU (P : Int → Bool) (n : Nat) (it : Nat → Itm) (t : Nat → Nod) (k i : Nat) : Nat := ((List.range k).filter fun j => itemI n it (t j).vr == i && P (t j).op).length
def anyU (P : Int → Bool) (n : Nat) (it : Nat → Itm) (t : Nat → Nod) (k i : Nat) : Bool := (List.range k).any fun j => itemI n it (t j).vr == i && P (t j).op
/-- The items that nodes of a kind mention. -/
def usesL (P : Int → Bool) (n : Nat) (it : Nat → Itm) (t : Nat → Nod) (k m : Nat) : List Nat := (List.range m).filter (anyU P n it t k)
section
variable {P : Int → Bool} {n : Nat} {it : Nat → Itm} {t : Nat → Nod} {k i : Nat}
theorem cnt_zero : cntU P n it t 0 i = 0 := rfl
theorem cnt_le : cntU P n it t k i ≤ k := by
  unfold cntU
  refine Nat.le_trans (List.length_filter_le _ _) ?_
  simp
theorem cnt_hit (h : itemI n it (t k).vr = i) (hp : P (t k).op = true) : cntU P n it t (k + 1) i = cntU P n it t k i + 1 := by
  unfold cntU
  rw [List.range_succ, List.filter_append, List.length_append]
  simp [h, hp]
theorem cnt_miss (h : itemI n it (t k).vr ≠ i ∨ P (t k).op = false) : cntU P n it t (k + 1) i = cntU P n it t k i := by
  unfold cntU
  rw [List.range_succ, List.filter_append, List.length_append]
  rcases h with h | h
  · simp [h]
  · simp [h]
theorem cnt_any : (0 < cntU P n it t k i) ↔ anyU P n it t k i = true := by
  unfold cntU anyU
  rw [List.any_eq_true, List.length_pos_iff_exists_mem]
  constructor
  · rintro ⟨x, hx⟩
    rw [List.mem_filter] at hx
    exact ⟨x, hx.1, hx.2⟩
  · rintro ⟨x, h1, h2⟩
    exact ⟨x, List.mem_filter.2 ⟨h1, h2⟩⟩
theorem any_succ : anyU P n it t (k + 1) i = (anyU P n it t k i || (itemI n it (t k).vr == i && P (t k).op)) := by
  unfold anyU
  rw [List.range_succ, List.any_append]
  simp
theorem uses_hit {m : Nat} (h : anyU P n it t k m = true) : usesL P n it t k (m + 1) = usesL P n it t k m ++ [m] := by
  unfold usesL
  rw [List.range_succ, List.filter_append]
  simp [h]
theorem uses_miss {m : Nat} (h : anyU P n it t k m = false) : usesL P n it t k (m + 1) = usesL P n it t k m := by
  unfold usesL
  rw [List.range_succ, List.filter_append]
  simp [h]
theorem uses_len {m : Nat} : (usesL P n it t k m).length ≤ m := by
  unfold usesL
  refine Nat.le_trans (List.length_filter_le _ _) ?_
  simp
end
/-- Numbers as cells. -/
def natV (i : Nat) : Value := .int .i64 i
theorem natV_flat (L : List Nat) : L.map natV = flat (intC (fun j => (L.getD j 0 : Nat))) 1 L.length := by
  refine flat_ext (by simp) fun j hj i hi => ?_
  obtain rfl : i = 0 := by omega
  simp [intC, natV, hj]
/-- What a counting map says: of the first k nodes. -/
structure CntMap (P : Int → Bool) (n : Nat) (it : Nat → Itm) (t : Nat → Nod) (k : Nat) (D : DataW Unit) : Prop where
  isMap : IsMap D
  at_ : ∀ i : Nat, D.atKey (.int .i64 i) (.lit (.int .i64 0)) = .lit (.int .i64 (cntU P n it t k i))
theorem cm_zero (P : Int → Bool) (n : Nat) (it : Nat → Itm) (t : Nat → Nod) : CntMap P n it t 0 (.map []) := ⟨Maps.isMap_empty, fun _ => rfl⟩
theorem cm_miss {P : Int → Bool} {n : Nat} {it : Nat → Itm} {t : Nat → Nod} {k : Nat} {D : DataW Unit} (h : CntMap P n it t k D) (hp : itemI n it (t k).vr = -1 ∨ P (t k).op = false) : CntMap P n it t (k + 1) D := by
  refine ⟨h.isMap, fun i => ?_⟩
  rw [cnt_miss]
  · exact h.at_ i
  · rcases hp with hp | hp
    · left; omega
    · exact Or.inr hp
theorem cm_hit {P : Int → Bool} {n : Nat} {it : Nat → Itm} {t : Nat → Nod} {k j : Nat} {D : DataW Unit} (h : CntMap P n it t k D) (hj : itemI n it (t k).vr = j) (hp : P (t k).op = true) {c c' : Int} (hc : D.atKey (.int .i64 j) (.lit (.int .i64 0)) = .lit (.int .i64 c)) (hc' : c' = c + 1) :
    CntMap P n it t (k + 1) (D.put (.int .i64 j) (.lit (.int .i64 c'))) := by
  rw [h.at_ j] at hc
  have hc : ((cntU P n it t k j : Nat) : Int) = c := by injection hc with hc; injection hc
  refine ⟨h.isMap.put _ _, fun i => ?_⟩
  by_cases hi : i = j
  · subst hi
    rw [Maps.atKey_put_same h.isMap (show WideAt.IsKeyLit (.int .i64 _) from trivial), cnt_hit hj hp, hc', ← hc]
    rfl
  · rw [Maps.atKey_put_other (by intro e; injection e with _ e; omega), cnt_miss (Or.inl (by omega))]
    exact h.at_ i
/-- A map that block b is, keyed by numbers. -/
def CnOwn (w : World) (b k : Nat) (D : DataW Unit) : Prop := w.ownsMap Tryd.prog 3 (plainElem Tryd.prog 3) b k D
theorem isBare_any (op : Int) (w : World) : Calls Tryd.prog 75 #[.int .i64 op] w fun e w' => e = .returned (.bool (bareB op)) ∧ w' = w := by
  by_cases h4 : op = 4
  · subst h4
    go_enter Tryd.func75, Tryd.ntmps75
    go_wp2_with fail
    go_ret
    exact ⟨rfl, rfl⟩
  · have h1 : (op == 4) = false := by rw [beq_eq_false_iff_ne]; exact h4
    go_enter Tryd.func75, Tryd.ntmps75
    go_wp2_with fail
    go_ret
    exact ⟨by simp [bareB, h1], rfl⟩
theorem isAgg_any (op : Int) (w : World) : Calls Tryd.prog 76 #[.int .i64 op] w fun e w' => e = .returned (.bool (aggB op)) ∧ w' = w := by
  by_cases h4 : 5 ≤ op
  · go_enter Tryd.func76, Tryd.ntmps76
    go_wp2_with fail
    go_ret
    exact ⟨by simp [aggB, h4], rfl⟩
  · go_enter Tryd.func76, Tryd.ntmps76
    go_wp2_with fail
    go_ret
    exact ⟨by simp [aggB]; omega, rfl⟩
theorem infoIntU : (Tryd.prog.info? 3).map (fun i => (i.zero, i.size, i.bytes)) = some (some (.int .i64 0), 1, 8) := by kernel_rfl
set_option maxRecDepth 100000 in
set_option maxHeartbeats 2000000 in
/-- The items whose count is above nought. -/
theorem rising_any {P : Int → Bool} {n : Nat} {it : Nat → Itm} {t : Nat → Nod} {k b q cap N : Nat} {aI : Option Addr} {D : DataW Unit} (w : World) (hn : n ≤ 2199023255488) (hO : CnOwn w b N D) (hC : CntMap P n it t k D) (hq : w.cell? ⟨q, 0, none⟩ = some (.slice aI n cap)) :
    Calls Tryd.prog 77 #[.map (some b), .pointer (some ⟨q, 0, none⟩)] w fun e w' => ∃ v, e = .returned v ∧ Below w.heap.size w w' ∧ w'.ownsRow w.heap.size 3 1 v (usesL P n it t k n).length ((usesL P n it t k n).map natV) := by
  obtain ⟨i0, hi0, hz0, hz1, hz2⟩ := info_parts infoIntU
  have HO := Lib.hid hO
  have HC := Lib.hid hC
  have hqb := (rd_addr hq).2
  clear hO hC
  go_enter Tryd.func77, Tryd.ntmps77
  go_wp2_with fail
  go_loopw [4, 9] (fun v i wr => ∃ (m : Nat) (ov : Value), m ≤ n ∧ i = .int .i64 m ∧ ov = v ∧ Hid (wr.ownsRow w.heap.size 3 1 ov (usesL P n it t k m).length ((usesL P n it t k m).map natV)) ∧ Below w.heap.size w wr) (fun _ i _ => n - (intOf i).toNat)
  case atStart => exact ⟨0, .slice none 0 0, Nat.zero_le _, rfl, rfl, Lib.hid (World.ownsRow_nil _ _ _ _), Below.refl _ _⟩
  case round =>
    obtain ⟨m, ov, hm, rfl, rfl, HR, hb⟩ := hrel
    obtain ⟨W1, e1⟩ : ∃ W1 : World, W1 = wr := ⟨_, rfl⟩
    subst e1
    by_cases hlt : m < n
    · have HM : Hid (W1.ownsMap Tryd.prog 3 (plainElem (H := Unit) Tryd.prog 3) b N D) := Lib.hid (HO.out.kept (row := none) ⟨hb.os, hb.tape, hb.output, hb.size, fun i hi _ => hb.block i hi⟩ (by simp))
      cases hu : anyU P n it t k m
      · have hle : ¬ (0 < cntU P n it t k m) := fun e => by rw [cnt_any, hu] at e; cases e
        have HU := Lib.hid (uses_miss hu)
        go_wp2_with (at_lookup; refine wpList_lookup_own_int _ rfl _ _ 102 rfl 3 3 .i64 lawInt Tryd.underlying102 Tryd.underlying3 (zeroInt _) b N D rfl HM.out _ _ rfl (Go.Maps.keyOf_int_mk Tryd.underlying3 (WalkArith.wf_i64 (by omega))) ?_; intro c hat hwc; rw [HC.out.at_ m] at hat; injection hat with hat; injection hat with _ hat; subst hat)
        go_roundw
        case rel => exact ⟨m + 1, ov, by omega, by go_num, rfl, Lib.hid (by rw [HU.out]; exact HR.out), hb⟩
        case measure => simp [intOf]; omega
      · have hlt0 : 0 < cntU P n it t k m := cnt_any.2 hu
        have HU := Lib.hid (uses_hit hu)
        have hul : (usesL P n it t k m).length ≤ m := uses_len
        go_wp2_with (first | (at_lookup; refine wpList_lookup_own_int _ rfl _ _ 102 rfl 3 3 .i64 lawInt Tryd.underlying102 Tryd.underlying3 (zeroInt _) b N D rfl HM.out _ _ rfl (Go.Maps.keyOf_int_mk Tryd.underlying3 (WalkArith.wf_i64 (by omega))) ?_; intro c hat hwc; rw [HC.out.at_ m] at hat; injection hat with hat; injection hat with _ hat; subst hat) | (at_builtin; go_loud (refine wpList_append_lies _ rfl _ _ _ rfl w.heap.size 3 i0 _ 1 8 Tryd.underlying27 hi0 hz0 hz1 hz2 rfl (by omega) ov (usesL P n it t k m).length ((usesL P n it t k m).map natV) rfl (HR.out.alloc _) ⟨W1.heap.size, 0, none⟩ 1 1 [.int .i64 (m : Nat)] rfl rfl (World.news_of_block (cs := #[.int .i64 (m : Nat)]) (t := 3) (fr := (0, 0)) (heap_alloc_new W1 _)) (by simp [Value.oneCell']) (by omega) (by unfold maxLen; omega) (by omega) (by have := hb.size; simp; omega) (W1.heap.size + 1) (by simp) ?_; intro gg gcap w9 hown9 hgrow hat hlt9)))
        have hb9 := below_grown (bnew hb (.cells #[.int .i64 (m : Nat)] 3)) hgrow (by have := hb.size; simp; omega) (fun x hx => by have := (HR.out.lt x hx).1; omega)
        go_roundw
        case rel => exact ⟨m + 1, _, by omega, by go_num, rfl, Lib.hid (by rw [HU.out, List.map_append, List.length_append]; exact hown9), hb9⟩
        case measure => simp [intOf]; omega
    · obtain rfl : m = n := by omega
      go_wp2_with fail
      go_ret
      exact ⟨ov, rfl, hb, HR.out⟩
end Go.Proofs.YtagcbljfaflhoaaDoor

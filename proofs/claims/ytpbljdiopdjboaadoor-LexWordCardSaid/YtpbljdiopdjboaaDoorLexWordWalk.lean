/-
  The walk of the law LexWord: lex.Word and the reference's Word, of every string.
-/
import Derived.Test.YtpbljdiopdjboaaDoorLexNamesWalk
import Derived.Test.YtpbljdiopdjboaaDoorLexWordPlain
import Derived.Test.YtpbljdiopdjboaaDoorMem
namespace Go.Proofs.YtpbljdiopdjboaaDoor
open Go.RowKit Go.ChangeShapes Go.WideShapes Go.ChangeAt
set_option maxHeartbeats 400000 in
theorem alike_any (s k : ByteArray) (w : World) (hs : s.size ≤ maxLen) (_hk : k.size ≤ maxLen) :
    Calls Tryd.prog 7 #[.string s, .string k] w fun e w' => e = .returned (.bool (alikeB s k)) ∧ w' = w := by
  unfold maxLen at hs
  by_cases hz : s.size = k.size
  · have HZ := Lib.hid hz
    have h0 : ((s.size : Int) != (k.size : Int)) = false := by rw [hz]; simp
    have hz1 : s.size ≤ k.size := by omega
    have hz2 : k.size ≤ s.size := by omega
    clear hz
    go_enter Tryd.func7, Tryd.ntmps7
    go_wp2
    go_loop [14] (fun i => ∃ j : Nat, j ≤ s.size ∧ i = .int .i64 j ∧ likeTo s k j) (fun i => s.size - (intOf i).toNat)
    case atStart => exact ⟨0, Nat.zero_le _, rfl, likeTo_zero _ _⟩
    case round =>
      obtain ⟨j, hj, rfl, hl⟩ := hrel
      have HL := Lib.hid hl
      clear hl
      by_cases hlt : j < s.size
      · have hlk : j < k.size := by omega
        go_wp2
        all_goals first
          | (go_ret
             exact ⟨ret_bool (alike_miss hlt hlk (by first | exact up_ne_small (by assumption) (by assumption) (by assumption) | exact up_ne_other (by omega) (by assumption))).symm, rfl⟩)
          | (go_round
             case rel => exact ⟨j + 1, by omega, by go_num, likeTo_step HL.out hlt hlk (by first | exact up_eq_small (by assumption) (by assumption) (by assumption) | exact up_eq_other (by omega) (by assumption))⟩
             case measure => simp [intOf]; omega)
      · go_wp2
        go_ret
        exact ⟨ret_bool (likeTo_all HZ.out (by have : j = s.size := by omega
                                               subst this; exact HL.out)).symm, rfl⟩
  · have h0 : ((s.size : Int) != (k.size : Int)) = true := by simp; omega
    go_enter Tryd.func7, Tryd.ntmps7
    go_wp2
    go_ret
    exact ⟨ret_bool (alike_short hz).symm, rfl⟩
/-- The table's array as the program loads it whole. -/
def kwArr : Array Value := (kwList.map fun s => Value.string ⟨s.toArray⟩).toArray
/-- Keyword i. -/
def kwAt (i : Nat) : ByteArray := ⟨(kwList.getD i []).toArray⟩
theorem kwAt_size (i : Nat) : (kwAt i).size ≤ maxLen := by
  by_cases h : i < 27
  · have : ∀ j, j < 27 → (kwAt j).size ≤ 27 := by decide
    have := this i h
    unfold maxLen
    omega
  · have : kwAt i = ⟨#[]⟩ := by
      unfold kwAt
      rw [List.getD_eq_getElem?_getD, List.getElem?_eq_none (by simp [kwList]; omega)]
      rfl
    rw [this]
    exact Nat.zero_le _
theorem run_kwAt (P : Program) (t : TypeId) (ht : P.underlying t = some (.array 27 9)) (hs : (P.info? 9).map (·.size) = some 1) (hu : P.underlying 9 = some .string) (j : Nat) (hj : j < 27) (w : World) :
    (Instr.index t (.agg kwArr) (.int .i64 (j : Int))).run P w = .ok (.string (kwAt j)) w := by
  obtain ⟨i, hi, hz⟩ := Option.map_eq_some_iff.1 hs
  have h1 : (0 : Int) ≤ (j : Int) ∧ (j : Int) < ((27 : Nat) : Int) := by omega
  have h2 : kwArr[j]? = some (.string (kwAt j)) := by
    have : ∀ k, k < 27 → kwArr[k]? = some (.string (kwAt k)) := by
      intro k hk
      have hl : k < kwList.length := hk
      simp [kwArr, kwAt, hl, List.getD_eq_getElem?_getD]
    exact this j hj
  simp [Instr.index, run_underlying ht, asIntOf, sizeOf, typeInfo, hi, hz, part, isAgg, run_underlying hu, h2, hj, go_sem]
/-- The kind of a word: 30 and the number of the first keyword that it is, else 1. -/
def firstKw (p : Nat → Bool) : Nat → Nat → Int
  | _, 0 => 1
  | i, n + 1 => if p i then 30 + (i : Int) else firstKw p (i + 1) n
theorem firstKw_miss {p : Nat → Bool} {n : Nat} : ∀ (j : Nat), (∀ i, i < j → p i = false) → j ≤ n → firstKw p 0 n = firstKw p j (n - j) := by
  intro j
  induction j with
  | zero => intro _ _; rfl
  | succ j ih =>
    intro h hj
    rw [ih (fun i hi => h i (by omega)) (by omega)]
    obtain ⟨m, hm⟩ : ∃ m, n - j = m + 1 := ⟨n - j - 1, by omega⟩
    rw [hm]
    simp only [firstKw, h j (by omega)]
    rw [if_neg (by simp)]
    congr 1
    omega
theorem firstKw_hit {p : Nat → Bool} {n j : Nat} (h : ∀ i, i < j → p i = false) (hj : j < n) (hp : p j = true) : firstKw p 0 n = 30 + (j : Int) := by
  rw [firstKw_miss j h (by omega)]
  obtain ⟨m, hm⟩ : ∃ m, n - j = m + 1 := ⟨n - j - 1, by omega⟩
  rw [hm]
  simp [firstKw, hp]
theorem firstKw_none {p : Nat → Bool} {n : Nat} (h : ∀ i, i < n → p i = false) : firstKw p 0 n = 1 := by
  rw [firstKw_miss n h (Nat.le_refl _), Nat.sub_self]
  rfl
def kindOf (s : ByteArray) : Int := firstKw (fun i => alikeB s (kwAt i)) 0 27
set_option maxHeartbeats 400000 in
theorem word_any (s : ByteArray) (w : World) (hs : s.size ≤ maxLen) {tt : TypeId} {fr : Nat × Nat} (hb : w.heap[0]? = some (.cells kwArr tt fr)) :
    Calls Tryd.prog 5 #[.string s] w fun e w' => e = .returned (.int .i64 (kindOf s)) ∧ w' = w := by
  have HB := Lib.hid hb
  clear hb
  have hix := fun j hj w => run_kwAt Tryd.prog 22 Tryd.underlying22 (by kernel_rfl) Tryd.underlying9 j hj w
  go_enter Tryd.func5, Tryd.ntmps5
  go_wp2_with (refine wpList_load_row rfl 22 _ rfl 0 rfl tt _ fr _ HB.out Tryd.underlying22 rfl (by kernel_rfl) ?_)
  go_loop [6] (fun i => ∃ j : Nat, j ≤ 27 ∧ i = .int .i64 j ∧ Hid (∀ k, k < j → alikeB s (kwAt k) = false)) (fun i => 27 - (intOf i).toNat)
  case atStart => exact ⟨0, by omega, rfl, Lib.hid (fun _ h => absurd h (Nat.not_lt_zero _))⟩
  case round =>
    obtain ⟨j, hj, rfl, HL⟩ := hrel
    by_cases hlt : j < 27
    · have hx := hix j hlt
      clear hix
      cases hp : alikeB s (kwAt j)
      all_goals
        have HP := Lib.hid hp
        clear hp
        go_wp2_with fail
        refine (alike_any s (kwAt j) _ hs (kwAt_size j)).mono ?_
        rintro e w' ⟨rfl, rfl⟩
        rw [HP.out]
        go_wp2_with fail
      · go_round
        case rel =>
          refine ⟨j + 1, by omega, by go_num, Lib.hid (fun k hk => ?_)⟩
          by_cases e : k = j
          · subst e; exact HP.out
          · exact HL.out k (by omega)
        case measure => simp [intOf]; omega
      · go_ret
        exact ⟨ret_int (firstKw_hit HL.out hlt HP.out).symm, rfl⟩
    · go_wp2_with fail
      go_ret
      refine ⟨ret_int (firstKw_none (n := 27) fun k hk => HL.out k (by omega)).symm, rfl⟩
theorem infoByte : (Tryd.prog.info? 5).map (fun i => (i.zero, i.size, i.bytes)) = some (some (.int .u8 0), 1, 1) := by kernel_rfl
/-- A text, its letters made great. -/
def upper (s : ByteArray) : ByteArray := ⟨(s.data.toList.map up).toArray⟩
theorem upTake_succ {s : ByteArray} {j : Nat} (h : j < s.size) : (s.data.toList.map up).take (j + 1) = (s.data.toList.map up).take j ++ [up s[j]] := by
  have h1 : j < (s.data.toList.map up).length := by simpa using h
  rw [List.take_succ_eq_append_getElem h1, List.getElem_map]
  rfl
theorem upTake_own {s : ByteArray} {j : Nat} (h : j < s.size) {x : Int} (hx : x = ((up s[j]).toNat : Int)) : byteCells ((s.data.toList.map up).take j) ++ [.int .u8 x] = byteCells ((s.data.toList.map up).take (j + 1)) := by
  rw [upTake_succ h, hx]
  simp [byteCells]
set_option maxHeartbeats 400000 in
theorem upper_any (s : ByteArray) (w : World) (hs : s.size ≤ 140737488351232) :
    Calls Tryd.prog 8 #[.string s] w fun e w' => e = .returned (.string (upper s)) ∧ Below w.heap.size w w' := by
  obtain ⟨i0, hi, hz0, hz1, hz2⟩ := info_parts infoByte
  go_enter Tryd.func8, Tryd.ntmps8
  go_wp2
  go_loopw [3, 4] (fun v i wr => ∃ j : Nat, j ≤ s.size ∧ i = .int .i64 j ∧ wr.ownsRow w.heap.size 5 1 v j (byteCells ((s.data.toList.map up).take j)) ∧ Below w.heap.size w wr) (fun _ i _ => s.size - (intOf i).toNat)
  case atStart => exact ⟨0, Nat.zero_le _, rfl, World.ownsRow_nil _ _ _ _, Below.refl _ _⟩
  case round =>
    obtain ⟨j, hj, rfl, hown, hb⟩ := hrel
    have hbs := hb.size
    by_cases hlt : j < s.size
    · by_cases hc : 97 ≤ s[j].toNat ∧ s[j].toNat ≤ 122
      · obtain ⟨c1, c2⟩ := hc
        go_wp2_with (at_builtin; refine wpList_append_own _ rfl (.tmp 23) (.tmp 25) 29 rfl w.heap.size 5 i0 (.int .u8 0) 1 1 Tryd.underlying29 hi hz0 hz1 hz2 rfl (by decide) _ _ _ rfl (hown.alloc _) ⟨wr.heap.size, 0, none⟩ 1 1 [.int .u8 ((s[j].toNat : Int) - 32)] rfl rfl (cell_one_new _ _ _) (by intro u hu; simp at hu; subst hu; rfl) (by unfold maxLen; omega) (by omega) (by simp; omega) ?_)
        intro v1 w1 hown1 hg1 _
        have hb1 : Below w.heap.size w w1 := (bnew hb _).grown hg1 (by simp; omega) (fun k hk => (hown.lt k hk).1)
        rw [upTake_own hlt (up_small c1 c2).symm] at hown1
        go_wp2
        go_roundw
        case rel => exact ⟨j + 1, by omega, by go_num, hown1, hb1⟩
        case measure => simp [intOf]; omega
      · have c3 : s[j].toNat < 97 ∨ 122 < s[j].toNat := by omega
        have hu := up_other hc
        have HU := Lib.hid hu
        clear hu hc
        rcases c3 with c1 | c1
        all_goals
          go_wp2_with (at_builtin; refine wpList_append_own _ rfl (.tmp 23) (.tmp 25) 29 rfl w.heap.size 5 i0 (.int .u8 0) 1 1 Tryd.underlying29 hi hz0 hz1 hz2 rfl (by decide) _ _ _ rfl (hown.alloc _) ⟨wr.heap.size, 0, none⟩ 1 1 [.int .u8 (s[j].toNat : Int)] rfl rfl (cell_one_new _ _ _) (by intro u hu; simp at hu; subst hu; rfl) (by unfold maxLen; omega) (by omega) (by simp; omega) ?_)
          intro v1 w1 hown1 hg1 _
          have hb1 : Below w.heap.size w w1 := (bnew hb _).grown hg1 (by simp; omega) (fun k hk => (hown.lt k hk).1)
          rw [upTake_own hlt (by rw [HU.out])] at hown1
          go_wp2
          go_roundw
          case rel => exact ⟨j + 1, by omega, by go_num, hown1, hb1⟩
          case measure => simp [intOf]; omega
    · have hall : byteCells ((s.data.toList.map up).take j) = byteCells (s.data.toList.map up) := by
        rw [List.take_of_length_le (by simp; omega)]
      rw [hall] at hown
      have hcv := run_string_own (P := Tryd.prog) wr 29 9 5 Tryd.underlying29 Tryd.underlying5 Tryd.underlying9 hown
      clear hall
      go_wp2
      go_ret
      exact ⟨rfl, hb⟩
theorem eq_upper (s k : ByteArray) : (k.toList == (upper s).toList) = alikeB s k := by
  rw [Go.ByteArray.toList_eq, Go.ByteArray.toList_eq, Bool.eq_iff_iff, beq_iff_eq, alikeB, beq_iff_eq]
  simp only [upper]
  exact eq_comm
theorem kwArr_cell {w : World} {g : Nat} {tt : TypeId} {fr : Nat × Nat} (hb : w.heap[g]? = some (.cells kwArr tt fr)) (j : Nat) (hj : j < 27) : w.cell? ⟨g, j, none⟩ = some (.string (kwAt j)) := by
  have hl : j < kwList.length := hj
  rw [cell_of_row w g j kwArr tt fr hb]
  simp [kwArr, kwAt, hl, List.getD_eq_getElem?_getD]
set_option maxHeartbeats 400000 in
theorem refWord_any (s : ByteArray) (w : World) (hs : s.size ≤ 140737488351232) {tt : TypeId} {fr : Nat × Nat} (hb : w.heap[1]? = some (.cells kwArr tt fr)) :
    Calls Tryd.prog 6 #[.string s] w fun e w' => e = .returned (.int .i64 (kindOf s)) ∧ Below w.heap.size w w' := by
  have HB := Lib.hid hb
  clear hb
  go_enter Tryd.func6, Tryd.ntmps6
  go_wp2_with fail
  refine (upper_any s _ hs).mono ?_
  rintro e w1 ⟨rfl, hb1⟩
  have HC := Lib.hid (fun j hj => kwArr_cell (block_below HB.out hb1) j hj)
  go_wp2_with fail
  go_loop [4] (fun i => ∃ j : Nat, j ≤ 27 ∧ i = .int .i64 j ∧ Hid (∀ k, k < j → alikeB s (kwAt k) = false)) (fun i => 27 - (intOf i).toNat)
  case atStart => exact ⟨0, by omega, rfl, Lib.hid (fun _ h => absurd h (Nat.not_lt_zero _))⟩
  case round =>
    obtain ⟨j, hj, rfl, HL⟩ := hrel
    by_cases hlt : j < 27
    · have hcell := HC.out j hlt
      have he := eq_upper s (kwAt j)
      cases hp : alikeB s (kwAt j)
      all_goals
        have HP := Lib.hid hp
        rw [hp] at he
        clear hp
        go_wp2_with fail
      · go_round
        case rel =>
          refine ⟨j + 1, by omega, by go_num, Lib.hid (fun k hk => ?_)⟩
          by_cases e : k = j
          · subst e; exact HP.out
          · exact HL.out k (by omega)
        case measure => simp [intOf]; omega
      · go_ret
        exact ⟨ret_int (firstKw_hit HL.out hlt HP.out).symm, hb1⟩
    · go_wp2_with fail
      go_ret
      exact ⟨ret_int (firstKw_none (n := 27) fun k hk => HL.out k (by omega)).symm, hb1⟩
set_option maxHeartbeats 400000 in
theorem lexWord_walk (s : ByteArray) (w : World) (hs : s.size ≤ 140737488351232) {t0 t1 : TypeId} {f0 f1 : Nat × Nat} (h0 : w.heap[0]? = some (.cells kwArr t0 f0)) (h1 : w.heap[1]? = some (.cells kwArr t1 f1)) :
    Calls Tryd.prog 4 #[.string s] w fun e w' => e = .returned (.bool true) ∧ Below w.heap.size w w' := by
  have H0 := Lib.hid h0
  have H1 := Lib.hid h1
  clear h0 h1
  go_enter Tryd.func4, Tryd.ntmps4
  go_wp2_with fail
  refine (word_any s _ (by unfold maxLen; omega) H0.out).mono ?_
  rintro e w' ⟨rfl, rfl⟩
  go_wp2_with fail
  refine (refWord_any s _ hs H1.out).mono ?_
  rintro e w1 ⟨rfl, hb1⟩
  go_wp2_with fail
  go_ret
  exact ⟨ret_bool (by simp), hb1⟩
theorem gKeywords3 : Tryd.prog.globalNamed "sluice/sluiceref3.Keywords" = some 1 := by kernel_rfl
theorem tKeywords3 : (Tryd.prog.globals[1]?).map (·.type) = some 22 := by kernel_rfl
theorem kwVar3 {W : World} {laid : List (String × DataW Unit)} (h : laidMet Tryd.prog laid W) (i : Nat) (hi : laid[i]? = some ("sluice/sluiceref3.Keywords", Rows.laid_sluice_sluiceref3_Keywords)) :
    W.var? Tryd.prog "sluice/sluiceref3.Keywords" = some (kwList.map fun s => Value.string ⟨s.toArray⟩).toArray :=
  strTab h i kwList hi gKeywords3 tKeywords3 Tryd.underlying22 Tryd.underlying9 cellsStr cellsKw
theorem lexWord_main {H : Type} {enc : TypeId × Value → H} (W : World) (base : Nat) {v0 : Value} {d0 : DataW H} {p0 : List MemPlace} {X C S : Prop}
    (o0 : Value.okWide Tryd.prog W .any base 9 v0) (h0 : DataW.Trod enc Tryd.prog W 0 (fun _ => true) true 9 v0 d0 p0)
    (_ : X) (hz : ReachedAll Tryd.prog ([9] ++ (OpenSpec.ofChange Rows.lexWordSpec).bare.plain.varTypes Tryd.prog) ([d0] ++ [])) (_ : C)
    (h : laidMetH Tryd.prog Rows.lexWordRow.laid W) (_ : S) :
    Calls Tryd.prog 4 #[v0] W fun e W' => e = .returned (.bool true) ∧ Below W.heap.size W W' := by
  have hv0 := kwVar (laid := Rows.lexWordRow.laid) h 0 rfl
  have hv1 := kwVar3 (laid := Rows.lexWordRow.laid) h 1 rfl
  obtain ⟨t0, f0, g0⟩ := var_block gKeywords hv0
  obtain ⟨t1, f1, g1⟩ := var_block gKeywords3 hv1
  obtain ⟨s, rfl, rfl, rfl, hmax⟩ := Go.ChangeMaps.open_string Tryd.underlying9 o0 h0
  have hl := reach_string (reach_cons hz).1
  exact lexWord_walk s W (by simpa using hl) g0 g1
end Go.Proofs.YtpbljdiopdjboaaDoor

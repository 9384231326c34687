/-
  The walks of event.IsName and of what it calls: every string.
-/
import Derived.Test.YtfcdkadblagijaaDoorLetters2
import Derived.Test.YtfcdkadblagijaaDoorMem
import Derived.Laws.RangeAny
import Derived.Lib.ConvBytes
set_option linter.unusedSimpArgs false
namespace Go.Proofs.YtfcdkadblagijaaDoor
open Go.RowKit Go.ChangeShapes Go.WideShapes Go.ChangeAt
theorem wordByte_any (n : Int) (w : World) : Calls Tryd.prog 54 #[.int .i32 n] w fun e w' => e = .returned (.bool (wordI n)) ∧ w' = w := by
  go_enter Tryd.func54, Tryd.ntmps54
  go_wp2
  all_goals go_ret
  all_goals refine ⟨ret_bool ?_, rfl⟩
  all_goals (rw [Bool.eq_iff_iff]; simp only [wordI, ltrI, digI, Bool.or_eq_true, Bool.and_eq_true, decide_eq_true_eq, beq_iff_eq, iff_true, true_iff, Bool.false_eq_true, iff_false, false_iff]; omega)
/-- The row that 'upper' works on: j letters made great. -/
def half (s : ByteArray) (j : Nat) : List UInt8 := (s.data.toList.take j).map up ++ s.data.toList.drop j
theorem half_len (s : ByteArray) (j : Nat) : (half s j).length = s.size := by simp [half]; omega
theorem half_zero (s : ByteArray) : half s 0 = s.data.toList := by simp [half]
theorem half_all (s : ByteArray) : half s s.size = s.data.toList.map up := by
  unfold half
  rw [List.take_of_length_le (by simp), List.drop_of_length_le (by simp)]
  simp
theorem byte_at {s : ByteArray} {j : Nat} (h : j < s.size) : s.data.toList[j]? = some s[j] := by
  rw [List.getElem?_eq_getElem (by simpa using h)]
  rfl
theorem half_at {s : ByteArray} {j : Nat} (h : j < s.size) : (half s j)[j]? = some s[j] := by
  have h1 : ((s.data.toList.take j).map up).length = j := by simp; omega
  unfold half
  rw [List.getElem?_append_right (by omega), h1, Nat.sub_self, List.getElem?_drop, Nat.add_zero, byte_at h]
theorem half_set {s : ByteArray} {j : Nat} (h : j < s.size) : (half s j).set j (up s[j]) = half s (j + 1) := by
  have h1 : j < s.data.toList.length := by simpa using h
  have e1 : s.data.toList.drop j = s[j] :: s.data.toList.drop (j + 1) := by
    rw [List.drop_eq_getElem_cons h1]
    rfl
  have e2 : (s.data.toList.take (j + 1)).map up = (s.data.toList.take j).map up ++ [up s[j]] := by
    rw [List.take_succ_eq_append_getElem h1, List.map_append]
    rfl
  have e3 : ((s.data.toList.take j).map up).length = j := by simp; omega
  unfold half
  rw [e1, e2]
  generalize (s.data.toList.take j).map up = a at e3
  subst e3
  simp
theorem half_same {s : ByteArray} {j : Nat} (h : j < s.size) (he : up s[j] = s[j]) : half s (j + 1) = half s j := by
  rw [← half_set h, he]
  apply List.ext_getElem?
  intro i
  by_cases e : i = j
  · subst e
    rw [half_at h, List.getElem?_set_self (by rw [half_len]; exact h)]
  · rw [List.getElem?_set_ne (Ne.symm e)]
/-- A block holds these bytes from its head on, and they may be written. -/
def ByteRow (w : World) (B : Nat) (xs : List UInt8) : Prop := ∀ (i : Nat) (c : UInt8), xs[i]? = some c → w.cell? ⟨B, i, none⟩ = some (.int .u8 (c.toNat : Int)) ∧ w.frozen? ⟨B, i, none⟩ = false
theorem ByteRow.set_ {w : World} {B : Nat} {xs : List UInt8} (h : ByteRow w B xs) (j : Nat) (c : UInt8) : ByteRow (w.setCell ⟨B, j, none⟩ (.int .u8 (c.toNat : Int))) B (xs.set j c) := by
  intro i d hi
  by_cases e : i = j
  · subst e
    have hl : i < xs.length := by
      have := (List.getElem?_eq_some_iff.1 hi).1
      simpa using this
    rw [List.getElem?_set_self hl] at hi
    obtain rfl := Option.some.inj hi
    obtain ⟨h1, h2⟩ := h i _ (List.getElem?_eq_getElem hl)
    exact ⟨World.cell?_setCell_same _ _ _ h1, by rw [World.frozen?_setCell]; exact h2⟩
  · rw [List.getElem?_set_ne (Ne.symm e)] at hi
    obtain ⟨h1, h2⟩ := h i d hi
    refine ⟨?_, by rw [World.frozen?_setCell]; exact h2⟩
    rw [World.cell?_setCell_other _ _ _ _ (by intro h; injection h with _ h; exact e h.symm)]
    exact h1
theorem byteRow_conv (w : World) (e : TypeId) (s : ByteArray) : ByteRow (Lib.bytesWorld w e s) w.heap.size s.data.toList := by
  intro i c hi
  have hi' : i < s.size := by simpa using (List.getElem?_eq_some_iff.1 hi).1
  refine ⟨?_, ?_⟩
  · rw [Lib.bytesWorld_cell w e s i hi', List.getD_eq_getElem?_getD, hi]
    rfl
  · simp [World.frozen?, Lib.bytesWorld_at_new, Lib.bytesCells]
    omega
/-- 'string(b)' of a row of bytes. -/
theorem run_string_row {P : Program} (w : World) (src dst e : TypeId) (hs : P.underlying src = some (.slice e)) (he : P.underlying e = some (.int .u8)) (hd : P.underlying dst = some .string)
    {B n cap : Nat} {xs : List UInt8} (hr : ByteRow w B xs) (hl : xs.length = n) : (convert src dst (.slice (some ⟨B, 0, none⟩) n cap)).run P w = .ok (.string ⟨xs.toArray⟩) w := by
  have hc : ∀ j v, (byteCells xs)[j]? = some v → w.cell? ((⟨B, 0, none⟩ : Addr).add j) = some v := by
    intro j v hv
    rw [byteCells, List.getElem?_map, Option.map_eq_some_iff] at hv
    obtain ⟨c, hc, rfl⟩ := hv
    have hadd : (⟨B, 0, none⟩ : Addr).add j = ⟨B, j, none⟩ := by unfold Addr.add; split <;> simp_all
    rw [hadd]
    exact (hr j c hc).1
  rw [run_convert_bytes_string w src dst e _ _ _ hs he hd]
  have hload := run_loadCells_list (P := P) (w := w) ⟨B, 0, none⟩ (byteCells xs) hc
  have hlen : (byteCells xs).length = n := by simp [byteCells, hl]
  rw [hlen] at hload
  have h2 := run_bytesToString (P := P) w ⟨B, 0, none⟩ n cap (xs.map fun c => (c.toNat : Int)) (by rw [hload]; congr 1; simp [byteCells])
  rw [h2, push_all]
  simp
theorem below_conv (w : World) (e : TypeId) (s : ByteArray) : Below w.heap.size w (Lib.bytesWorld w e s) :=
  ⟨by simp [Lib.bytesWorld, World.freeze, World.alloc, World.drew, -World.alloc_eq, -World.drew_eq], by simp [Lib.bytesWorld, World.freeze, World.alloc, World.drew, -World.alloc_eq, -World.drew_eq], by simp [Lib.bytesWorld, World.freeze, World.alloc, World.drew, -World.alloc_eq, -World.drew_eq], by rw [Lib.bytesWorld_size]; omega, fun k hk => Lib.bytesWorld_at_old w e s k hk⟩
set_option maxHeartbeats 400000 in
theorem upper_any (s : ByteArray) (w : World) (hs : s.size ≤ 140737488351232) :
    Calls Tryd.prog 55 #[.string s] w fun e w' => e = .returned (.string (upper s)) ∧ Below w.heap.size w w' := by
  have hcv := Lib.run_convert_string_bytes (P := Tryd.prog) w 9 92 5 s Tryd.underlying9 Tryd.underlying92 Tryd.underlying5
  have hr0 := byteRow_conv w 5 s
  have hb0 := below_conv w 5 s
  generalize Lib.bytesWorld w 5 s = w0 at hcv hr0 hb0
  generalize grownCap w s.size 0 5 = cap at hcv
  have HR0 := Lib.hid hr0
  clear hr0
  go_enter Tryd.func55, Tryd.ntmps55
  go_wp2
  clear hcv
  go_loopw [10] (fun i wr => ∃ j : Nat, j ≤ s.size ∧ i = .int .i64 j ∧ Hid (ByteRow wr w.heap.size (half s j)) ∧ Below w.heap.size w wr) (fun i _ => s.size - (intOf i).toNat)
  case atStart => exact ⟨0, Nat.zero_le _, rfl, Lib.hid (by rw [half_zero]; exact HR0.out), hb0⟩
  case round =>
    obtain ⟨j, hj, rfl, HR, hb⟩ := hrel
    have hbs := hb.size
    by_cases hlt : j < s.size
    · have hcell := HR.out j s[j] (half_at hlt)
      obtain ⟨hcell, hfz⟩ := hcell
      go_wp2
      all_goals go_roundw
      case rel =>
        have e : (s[j].toNat : Int) - 97 + 65 = ((up s[j]).toNat : Int) := by rw [up_small (by omega) (by omega)]; omega
        exact ⟨j + 1, by omega, by go_num, Lib.hid (by rw [e, ← half_set hlt]; exact HR.out.set_ j (up s[j])), bset hb (Nat.le_refl _) _⟩
      case measure => simp [intOf]; omega
      case rel => exact ⟨j + 1, by omega, by go_num, Lib.hid (by rw [half_same hlt (up_other (by omega))]; exact HR.out), hb⟩
      case measure => simp [intOf]; omega
      case rel => exact ⟨j + 1, by omega, by go_num, Lib.hid (by rw [half_same hlt (up_other (by omega))]; exact HR.out), hb⟩
      case measure => simp [intOf]; omega
    · have hje : j = s.size := by omega
      have hcv2 := run_string_row (P := Tryd.prog) wr 92 9 5 Tryd.underlying92 Tryd.underlying5 Tryd.underlying9 (cap := cap) HR.out (half_len s j)
      have HJ := Lib.hid hje
      clear hje
      go_wp2
      go_ret
      exact ⟨by rw [HJ.out, half_all]; rfl, hb⟩
theorem empty_of {s : ByteArray} (h : s.size = 0) : s.toList.isEmpty = true := by
  rw [Go.ByteArray.toList_eq, List.isEmpty_iff_length_eq_zero]
  simpa using h
theorem nonempty_of {s : ByteArray} (h : 0 < s.size) : s.toList.isEmpty = false := by
  cases he : s.toList.isEmpty
  · rfl
  · rw [Go.ByteArray.toList_eq, List.isEmpty_iff_length_eq_zero] at he
    simp at he
    simp [he, ByteArray.size] at h
theorem isName_small (s : ByteArray) (w : World) (h : s.size = 0) : Calls Tryd.prog 38 #[.string s] w fun e w' => e = .returned (.bool (nameB s)) ∧ Below w.heap.size w w' := by
  have HN := Lib.hid (name_small (s := s) (by omega))
  have he := empty_of h
  clear h
  go_enter Tryd.func38, Tryd.ntmps38
  go_wp2_with fail
  go_ret
  exact ⟨ret_bool HN.out.symm, Below.refl _ _⟩
theorem isName_great (s : ByteArray) (w : World) (h : 16 < s.size) : Calls Tryd.prog 38 #[.string s] w fun e w' => e = .returned (.bool (nameB s)) ∧ Below w.heap.size w w' := by
  have HN := Lib.hid (name_great (s := s) (by omega))
  have he := nonempty_of (s := s) (by omega)
  go_enter Tryd.func38, Tryd.ntmps38
  go_wp2_with fail
  go_ret
  exact ⟨ret_bool HN.out.symm, Below.refl _ _⟩
theorem dig_iff {n : Int} : digI n = true ↔ 48 ≤ n ∧ n ≤ 57 := by simp [digI]
theorem dig_not {n : Int} (h : n < 48 ∨ 57 < n) : digI n = false := by
  rw [Bool.eq_false_iff, ne_eq, dig_iff]
  omega
theorem isName_digit (s : ByteArray) (w : World) (h0 : 0 < s.size) (h1 : s.size ≤ 16) (hd1 : 48 ≤ s[0].toNat) (hd2 : s[0].toNat ≤ 57) : Calls Tryd.prog 38 #[.string s] w fun e w' => e = .returned (.bool (nameB s)) ∧ Below w.heap.size w w' := by
  have HN := Lib.hid (name_digit h0 (dig_iff.2 ⟨by omega, by omega⟩))
  have he := nonempty_of h0
  go_enter Tryd.func38, Tryd.ntmps38
  go_wp2_with fail
  go_ret
  exact ⟨ret_bool HN.out.symm, Below.refl _ _⟩
set_option maxHeartbeats 1000000 in
theorem isName_rest (s : ByteArray) (w : World) (h0 : 0 < s.size) (h1 : s.size ≤ 16) (hd : s[0].toNat < 48 ∨ 57 < s[0].toNat) {tt : TypeId} {fr : Nat × Nat} (hb : w.heap[2]? = some (.cells kwArr tt fr)) :
    Calls Tryd.prog 38 #[.string s] w fun e w' => e = .returned (.bool (nameB s)) ∧ Below w.heap.size w w' := by
  have he := nonempty_of h0
  have HB := Lib.hid hb
  clear hb
  have HD := Lib.hid hd
  have hix := fun j hj w => run_kwAt Tryd.prog Tryd.underlying88 (by kernel_rfl) Tryd.underlying9 j hj w
  rcases hd with hd | hd
  all_goals
    go_enter Tryd.func38, Tryd.ntmps38
    go_wp2_with fail
    go_loopw [4] (fun _ wr => ∃ j : Nat, j ≤ s.size ∧ wr = w.iter s j ∧ Hid (∀ k (hk : k < s.size), k < j → wordI (s[k].toNat) = true)) (fun _ wr => s.size - wr.iterPos w.heap.size)
    case atStart => exact ⟨0, Nat.zero_le _, rfl, Lib.hid (fun _ _ h => absurd h (Nat.not_lt_zero _))⟩
    case round =>
      obtain ⟨j, hj, rfl, HL⟩ := hrel
      by_cases hlt : j < s.size
      · by_cases hasc : s[j].toNat < 128
        · have hnx := fun ty => run_next_ascii (P := Tryd.prog) w s j ty hlt hasc
          cases hw : wordI (s[j].toNat)
          all_goals
            have HW := Lib.hid hw
            clear hw
            go_wp2_with fail
            refine (wordByte_any _ _).mono ?_
            rintro e w' ⟨rfl, rfl⟩
            rw [HW.out]
            go_wp2_with fail
          · go_ret
            exact ⟨ret_bool (name_word hlt HW.out).symm, bnew (Below.refl _ _) _⟩
          · go_roundw
            case rel =>
              refine ⟨j + 1, by omega, rfl, Lib.hid (fun k hk hkj => ?_)⟩
              by_cases e : k = j
              · subst e; exact HW.out
              · exact HL.out k hk (by omega)
            case measure => simp; omega
        · have hnx := fun ty => run_next_any (P := Tryd.prog) w s j ty hlt
          have hhi := (decode_high s j hlt (by omega)).1
          generalize Utf8.decode s j = dc at hnx hhi
          have hw : wordI (dc.1 : Int) = false := word_high (by omega)
          have HW := Lib.hid hw
          have HW2 := Lib.hid (word_high (n := (s[j].toNat : Int)) (by omega))
          clear hw
          go_wp2_with fail
          refine (wordByte_any _ _).mono ?_
          rintro e w' ⟨rfl, rfl⟩
          rw [HW.out]
          go_wp2_with fail
          go_ret
          exact ⟨ret_bool (name_word hlt HW2.out).symm, bnew (Below.refl _ _) _⟩
      · have hnx := fun ty => run_next_end (P := Tryd.prog) w s j ty hlt
        go_wp2_with fail
        refine (upper_any s _ (by omega)).mono ?_
        rintro e w1 ⟨rfl, hb1⟩
        have hbw : Below w.heap.size w w1 := bcall (bnew (Below.refl _ _) (.stringIter s j)) hb1
        have HB1 := Lib.hid (block_below HB.out hbw)
        have HALL := Lib.hid (show ∀ k (hk : k < s.size), wordI (s[k].toNat) = true from fun k hk => HL.out k hk (by omega))
        clear hnx hb1
        go_wp2_with (refine wpList_load_row rfl 88 _ rfl 2 rfl tt _ fr _ HB1.out Tryd.underlying88 rfl (by kernel_rfl) ?_)
        go_loop [36] (fun i => ∃ j : Nat, j ≤ 27 ∧ i = .int .i64 j ∧ Hid (∀ k, k < j → alikeB s (kwAt k) = false)) (fun i => 27 - (intOf i).toNat)
        case atStart => exact ⟨0, by omega, rfl, Lib.hid (fun _ h => absurd h (Nat.not_lt_zero _))⟩
        case round =>
          obtain ⟨m, hm, rfl, HM⟩ := hrel
          by_cases hlt2 : m < 27
          · have hx := hix m hlt2
            have heq := upper_eq s (kwAt m)
            cases hp : alikeB s (kwAt m)
            all_goals
              have HP := Lib.hid hp
              rw [hp] at heq
              clear hp
              go_wp2_with fail
            · go_round
              case rel =>
                refine ⟨m + 1, by omega, by go_num, Lib.hid (fun k hk => ?_)⟩
                by_cases e : k = m
                · subst e; exact HP.out
                · exact HM.out k (by omega)
              case measure => simp [intOf]; omega
            · go_ret
              exact ⟨ret_bool (name_kw hlt2 HP.out).symm, hbw⟩
          · go_wp2_with fail
            go_ret
            exact ⟨ret_bool (name_yes h0 h1 HALL.out (dig_not (by have := HD.out; omega)) (fun k hk => HM.out k (by omega))).symm, hbw⟩
theorem isName_any (s : ByteArray) (w : World) {tt : TypeId} {fr : Nat × Nat} (hb : w.heap[2]? = some (.cells kwArr tt fr)) :
    Calls Tryd.prog 38 #[.string s] w fun e w' => e = .returned (.bool (nameB s)) ∧ Below w.heap.size w w' := by
  by_cases h0 : s.size = 0
  · exact isName_small s w h0
  by_cases h1 : 16 < s.size
  · exact isName_great s w h1
  have h0' : 0 < s.size := by omega
  by_cases hd : 48 ≤ s[0].toNat ∧ s[0].toNat ≤ 57
  · exact isName_digit s w h0' (by omega) hd.1 hd.2
  · exact isName_rest s w h0' (by omega) (by omega) hb
end Go.Proofs.YtfcdkadblagijaaDoor

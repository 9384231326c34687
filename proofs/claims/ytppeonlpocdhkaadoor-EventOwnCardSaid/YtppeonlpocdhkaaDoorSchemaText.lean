/-
  A schema's text, plain: its words and marks, and what they say.
-/
import Derived.Test.YtppeonlpocdhkaaDoorSchemaErr
import Derived.Laws.RangeAny
namespace Go.Proofs.YtppeonlpocdhkaaDoor
open Go.RowKit
/-- A piece of a text: from a on, ahead of z; a word, or one byte that is none. -/
structure Pce where
  a : Nat
  z : Nat
  wd : Bool
def skipW (s : ByteArray) (k : Nat) : Nat := if h : k < s.size then if wordI (s[k].toNat) = true then skipW s (k + 1) else k else k
termination_by s.size - k
def skipC (s : ByteArray) (k : Nat) : Nat := if h : k < s.size then if s[k].toNat = 10 then k else skipC s (k + 1) else k
termination_by s.size - k
section
variable {s : ByteArray} {k : Nat}
theorem skipW_on (h : k < s.size) (hw : wordI (s[k].toNat) = true) : skipW s k = skipW s (k + 1) := by rw [skipW, dif_pos h, if_pos hw]
theorem skipW_off (h : k < s.size) (hw : wordI (s[k].toNat) = false) : skipW s k = k := by rw [skipW, dif_pos h, if_neg (by rw [hw]; simp)]
theorem skipW_out (h : ¬ k < s.size) : skipW s k = k := by rw [skipW, dif_neg h]
theorem skipC_on (h : k < s.size) (hw : s[k].toNat ≠ 10) : skipC s k = skipC s (k + 1) := by rw [skipC, dif_pos h, if_neg hw]
theorem skipC_off (h : k < s.size) (hw : s[k].toNat = 10) : skipC s k = k := by rw [skipC, dif_pos h, if_pos hw]
theorem skipC_out (h : ¬ k < s.size) : skipC s k = k := by rw [skipC, dif_neg h]
theorem skipW_ge (s : ByteArray) (k : Nat) : k ≤ skipW s k := by fun_induction skipW s k <;> omega
theorem skipC_ge (s : ByteArray) (k : Nat) : k ≤ skipC s k := by fun_induction skipC s k <;> omega
theorem skipW_le (s : ByteArray) (k : Nat) : k ≤ s.size → skipW s k ≤ s.size := by fun_induction skipW s k <;> omega
theorem skipC_le (s : ByteArray) (k : Nat) : k ≤ s.size → skipC s k ≤ s.size := by fun_induction skipC s k <;> omega
theorem skipW_words (s : ByteArray) (k : Nat) : ∀ j, k ≤ j → j < skipW s k → ∀ h : j < s.size, wordI (s[j].toNat) = true := by
  fun_induction skipW s k with
  | case1 k h hw ih =>
    intro j hj hz hs
    by_cases e : j = k
    · subst e; exact hw
    · exact ih j (by omega) hz hs
  | case2 k h hw => intro j hj hz; omega
  | case3 k h => intro j hj hz; omega
theorem skipC_run {j : Nat} : ∀ n, (∀ i, j ≤ i → i < j + n → ∃ h : i < s.size, s[i].toNat ≠ 10) → skipC s j = skipC s (j + n)
  | 0, _ => rfl
  | n + 1, h => by
    rw [skipC_run n fun i h1 h2 => h i h1 (by omega)]
    obtain ⟨h1, h2⟩ := h (j + n) (by omega) (by omega)
    rw [skipC_on h1 h2]
    rfl
end
def blankI (n : Nat) : Bool := n == 32 || n == 9 || n == 10 || n == 13
def cutFrom (s : ByteArray) (i : Nat) : List Pce :=
  if h : i < s.size then
    if blankI (s[i].toNat) = true then cutFrom s (i + 1)
    else if s[i].toNat = 35 then cutFrom s (skipC s (i + 1))
    else if wordI (s[i].toNat) = true then ⟨i, skipW s (i + 1), true⟩ :: cutFrom s (skipW s (i + 1))
    else ⟨i, i + 1, false⟩ :: cutFrom s (i + 1)
  else []
termination_by s.size - i
decreasing_by
  all_goals
    have h1 := skipC_ge s (i + 1)
    have h2 := skipW_ge s (i + 1)
    omega
section
variable {s : ByteArray} {i : Nat}
theorem cut_blank (h : i < s.size) (hb : blankI (s[i].toNat) = true) : cutFrom s i = cutFrom s (i + 1) := by rw [cutFrom, dif_pos h, if_pos hb]
theorem cut_note (h : i < s.size) (hc : s[i].toNat = 35) : cutFrom s i = cutFrom s (skipC s (i + 1)) := by
  have hb : ¬ blankI (s[i].toNat) = true := by rw [hc]; decide
  rw [cutFrom, dif_pos h, if_neg hb, if_pos hc]
theorem cut_word (h : i < s.size) (hw : wordI (s[i].toNat) = true) : cutFrom s i = ⟨i, skipW s (i + 1), true⟩ :: cutFrom s (skipW s (i + 1)) := by
  have h1 : ¬ blankI (s[i].toNat) = true := by
    intro hb
    simp only [blankI, Bool.or_eq_true, beq_iff_eq] at hb
    rcases hb with ((hb | hb) | hb) | hb <;> (rw [hb] at hw; revert hw; decide)
  have h2 : ¬ s[i].toNat = 35 := by intro hb; rw [hb] at hw; revert hw; decide
  rw [cutFrom, dif_pos h, if_neg h1, if_neg h2, if_pos hw]
theorem cut_mark (h : i < s.size) (h1 : blankI (s[i].toNat) = false) (h2 : s[i].toNat ≠ 35) (h3 : wordI (s[i].toNat) = false) : cutFrom s i = ⟨i, i + 1, false⟩ :: cutFrom s (i + 1) := by
  rw [cutFrom, dif_pos h, if_neg (by rw [h1]; simp), if_neg h2, if_neg (by rw [h3]; simp)]
theorem cut_end (h : ¬ i < s.size) : cutFrom s i = [] := by rw [cutFrom, dif_neg h]
end
/-- What a piece of a text is. -/
structure PceOk (s : ByteArray) (p : Pce) : Prop where
  lt : p.a < p.z
  le : p.z ≤ s.size
  words : p.wd = true → ∀ j, p.a ≤ j → j < p.z → ∀ h : j < s.size, wordI (s[j].toNat) = true
  mark : p.wd = false → p.z = p.a + 1 ∧ ∀ h : p.a < s.size, wordI (s[p.a].toNat) = false
theorem cut_ok (s : ByteArray) (i : Nat) : ∀ p ∈ cutFrom s i, PceOk s p := by
  fun_induction cutFrom s i with
  | case1 i h hb ih => exact ih
  | case2 i h hb hc ih => exact ih
  | case3 i h hb hc hw ih =>
    intro p hp
    rcases List.mem_cons.1 hp with rfl | hp
    · refine ⟨skipW_ge s (i + 1), skipW_le s (i + 1) (by omega), fun _ j h1 h2 h3 => ?_, fun h => by simp at h⟩
      by_cases e : j = i
      · subst e; exact hw
      · have h1' : i ≤ j := h1
        exact skipW_words s (i + 1) j (by omega) h2 h3
    · exact ih p hp
  | case4 i h hb hc hw ih =>
    intro p hp
    rcases List.mem_cons.1 hp with rfl | hp
    · exact ⟨Nat.lt_succ_self i, h, fun h => by simp at h, fun _ => ⟨rfl, fun _ => by simpa using hw⟩⟩
    · exact ih p hp
  | case5 i h => simp
theorem cut_len (s : ByteArray) (i : Nat) : (cutFrom s i).length ≤ s.size - i := by
  fun_induction cutFrom s i with
  | case1 i h hb ih => omega
  | case2 i h hb hc ih => have := skipC_ge s (i + 1); omega
  | case3 i h hb hc hw ih => have := skipW_ge s (i + 1); simp only [List.length_cons]; omega
  | case4 i h hb hc hw ih => simp only [List.length_cons]; omega
  | case5 i h => simp
/-! ### What the pieces say -/
abbrev TList := List (ByteArray × List ByteArray)
/-- Where the reading stands: what may come next (0: a definition, 1: its name, 2: its bracket, 3: an attribute or the bracket's end, 4: an attribute, 5: a comma or the bracket's end), and the types till now. -/
structure Gst where
  want : Nat
  ts : TList
def lastA (ts : TList) : List ByteArray := match ts.getLast? with | some t => t.2 | none => []
def pushA (ts : TList) (x : ByteArray) : TList := match ts.getLast? with | some t => ts.dropLast ++ [(t.1, t.2 ++ [x])] | none => []
theorem lastA_snoc (ts : TList) (n : ByteArray) (l : List ByteArray) : lastA (ts ++ [(n, l)]) = l := by simp [lastA]
theorem pushA_snoc (ts : TList) (n : ByteArray) (l : List ByteArray) (x : ByteArray) : pushA (ts ++ [(n, l)]) x = ts ++ [(n, l ++ [x])] := by simp [pushA]
def nmOf (ts : TList) (i : Nat) : ByteArray := (ts.getD i (.empty, [])).1
def atsOf (ts : TList) (i : Nat) : List ByteArray := (ts.getD i (.empty, [])).2
/-- The types as a schema. -/
def schOf (ts : TList) : Sch := ⟨ts.length, nmOf ts, fun i => (atsOf ts i).length, fun i j => (atsOf ts i).getD j .empty⟩
def gname (ts : TList) (w : ByteArray) : Int := if digI (first0 w).toNat = true then 21 else if nameB w = false then 22 else if inB ts.length (nmOf ts) w = true then 25 else 0
def gattr (l : List ByteArray) (w : ByteArray) : Int :=
  if digI (first0 w).toNat = true then 21 else if l.length = 8 then 24 else if nameB w = false ∨ (w.toList == [116, 115]) = true then 22 else if inB l.length (fun j => l.getD j .empty) w = true then 25 else 0
def gword (st : Gst) (w : ByteArray) : Int × Gst :=
  match st.want with
  | 0 => (if (w.toList == [116, 121, 112, 101]) = false then 21 else if st.ts.length = 16 then 23 else 0, ⟨1, st.ts⟩)
  | 1 => (gname st.ts w, ⟨2, st.ts ++ [(w, [])]⟩)
  | 3 => (gattr (lastA st.ts) w, ⟨5, pushA st.ts w⟩)
  | 4 => (gattr (lastA st.ts) w, ⟨5, pushA st.ts w⟩)
  | _ => (21, st)
def gmark (st : Gst) (c : Nat) : Int × Gst :=
  if c = 40 ∧ st.want = 2 then (0, ⟨3, st.ts⟩) else if c = 41 ∧ (st.want = 3 ∨ st.want = 5) then (0, ⟨0, st.ts⟩) else if c = 44 ∧ st.want = 5 then (0, ⟨4, st.ts⟩) else (21, st)
def byteAt (s : ByteArray) (i : Nat) : Nat := if h : i < s.size then s[i].toNat else 0
theorem byteAt_eq {s : ByteArray} {i : Nat} (h : i < s.size) : byteAt s i = s[i].toNat := dif_pos h
def gstep (s : ByteArray) (st : Gst) (p : Pce) : Int × Gst := if p.wd = true then gword st (s.extract p.a p.z) else gmark st (byteAt s p.a)
/-- What a reading ends with: the error, its place, the types. -/
structure Gres where
  code : Int
  pos : Nat
  ts : TList
def gend (s : ByteArray) (st : Gst) : Gres := if st.want ≠ 0 then ⟨21, s.size, []⟩ else if st.ts.length = 0 then ⟨23, s.size, []⟩ else ⟨0, 0, st.ts⟩
def gfin (s : ByteArray) : Gst → List Pce → Gres
  | st, [] => gend s st
  | st, p :: ps => if (gstep s st p).1 ≠ 0 then ⟨(gstep s st p).1, p.a, []⟩ else gfin s (gstep s st p).2 ps
/-- What a schema's text says. -/
def parseRes (s : ByteArray) : Gres := if 4096 < s.size then ⟨20, 4096, []⟩ else gfin s ⟨0, []⟩ (cutFrom s 0)
section
variable {s : ByteArray} {st : Gst} {l : List Pce} {p : Pce} {i : Nat}
theorem gfin_bad {c : Int} {st' : Gst} (h : gstep s st p = (c, st')) (hc : c ≠ 0) : gfin s st (p :: l) = ⟨c, p.a, []⟩ := by rw [gfin, h, if_pos hc]
theorem gfin_ok {st' : Gst} (h : gstep s st p = (0, st')) : gfin s st (p :: l) = gfin s st' l := by rw [gfin, h, if_neg (by simp)]
theorem gstep_word (h : p.wd = true) : gstep s st p = gword st (s.extract p.a p.z) := if_pos h
theorem gstep_mark (h : p.wd = false) : gstep s st p = gmark st (byteAt s p.a) := if_neg (by rw [h]; simp)
theorem drop_at (h : i < l.length) : l.drop i = l[i] :: l.drop (i + 1) := List.drop_eq_getElem_cons h
theorem drop_out (h : l.length ≤ i) : l.drop i = [] := List.drop_of_length_le h
theorem parseRes_long (h : 4096 < s.size) : parseRes s = ⟨20, 4096, []⟩ := if_pos h
theorem parseRes_rest (h : ¬ 4096 < s.size) : parseRes s = gfin s ⟨0, []⟩ (cutFrom s 0) := if_neg h
end
/-- A rune of several bytes: each of them stands above ASCII. -/
theorem decode_bytes (s : ByteArray) (j : Nat) (h : j < s.size) (ha : 128 ≤ s[j].toNat) : j + (Utf8.decode s j).2 ≤ s.size ∧ ∀ i, j ≤ i → i < j + (Utf8.decode s j).2 → ∃ h : i < s.size, 128 ≤ s[i].toNat := by
  have hget : ∀ k (hk : j + k < s.size), (s.get! (j + k)).toNat = s[j + k].toNat := fun k hk => by rw [show s.get! (j + k) = s[j + k] from get_at s (j + k) hk]
  have one : ∀ n, n ≤ 4 → (∀ k, k < n → ∃ hk : j + k < s.size, 128 ≤ s[j + k].toNat) → 1 ≤ n → j + n ≤ s.size ∧ ∀ i, j ≤ i → i < j + n → ∃ h : i < s.size, 128 ≤ s[i].toNat := by
    intro n _ hk h1
    refine ⟨?_, fun i h2 h3 => ?_⟩
    · obtain ⟨h4, _⟩ := hk (n - 1) (by omega)
      omega
    · obtain ⟨h4, h5⟩ := hk (i - j) (by omega)
      have e : j + (i - j) = i := by omega
      simp only [e] at h4 h5
      exact ⟨h4, h5⟩
  have h0 : ∃ hk : j + 0 < s.size, 128 ≤ s[j + 0].toNat := ⟨h, ha⟩
  have hc : ∀ k, (decide (j + k < s.size) && ((s.get! (j + k)).toNat / 64 == 2)) = true → ∃ hk : j + k < s.size, 128 ≤ s[j + k].toNat := by
    intro k hk
    simp only [Bool.and_eq_true, decide_eq_true_eq, beq_iff_eq] at hk
    refine ⟨hk.1, ?_⟩
    have := hget k hk.1
    omega
  have all : ∀ n, (∀ k, k < n → 1 ≤ k → (decide (j + k < s.size) && ((s.get! (j + k)).toNat / 64 == 2)) = true) → ∀ k, k < n → ∃ hk : j + k < s.size, 128 ≤ s[j + k].toNat := by
    intro n hn k hk
    by_cases e : k = 0
    · subst e; exact h0
    · exact hc k (hn k hk (by omega))
  unfold Utf8.decode
  dsimp only
  split
  · exact one 1 (by omega) (all 1 (by omega)) (by omega)
  split
  · rename_i hq
    rw [Bool.and_eq_true] at hq
    split
    · refine one 2 (by omega) (all 2 (fun k h1 h2 => ?_)) (by omega)
      obtain rfl : k = 1 := by omega
      exact hq.2
    · exact one 1 (by omega) (all 1 (by omega)) (by omega)
  split
  · rename_i hq
    simp only [Bool.and_eq_true] at hq
    split
    · refine one 3 (by omega) (all 3 (fun k h1 h2 => ?_)) (by omega)
      rw [Bool.and_eq_true]
      obtain rfl | rfl : k = 1 ∨ k = 2 := by omega
      · exact hq.1.2
      · exact hq.2
    · exact one 1 (by omega) (all 1 (by omega)) (by omega)
  split
  · rename_i hq
    simp only [Bool.and_eq_true] at hq
    split
    · refine one 4 (by omega) (all 4 (fun k h1 h2 => ?_)) (by omega)
      rw [Bool.and_eq_true]
      obtain rfl | rfl | rfl : k = 1 ∨ k = 2 ∨ k = 3 := by omega
      · exact hq.1.1.2
      · exact hq.1.2
      · exact hq.2
    · exact one 1 (by omega) (all 1 (by omega)) (by omega)
  · exact one 1 (by omega) (all 1 (by omega)) (by omega)
end Go.Proofs.YtppeonlpocdhkaaDoor

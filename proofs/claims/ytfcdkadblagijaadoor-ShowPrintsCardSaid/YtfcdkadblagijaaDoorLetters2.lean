/-
  Plain facts on names: letters, digits, words, keywords.
-/
import Derived.Test.YtfcdkadblagijaaDoorLetters
namespace Go.Proofs.YtfcdkadblagijaaDoor
open Go.RowKit
/-- A letter, by its number. -/
def ltrI (n : Int) : Bool := (decide (65 ≤ n) && decide (n ≤ 90)) || (decide (97 ≤ n) && decide (n ≤ 122))
def digI (n : Int) : Bool := decide (48 ≤ n) && decide (n ≤ 57)
def wordI (n : Int) : Bool := ltrI n || digI n || n == 95
/-- The keywords, as the rows list them. -/
def kwList : List (List UInt8) := [[80, 65, 84, 84, 69, 82, 78], [83, 69, 81], [85, 83, 73, 78, 71], [65, 78, 89], [78, 69, 88, 84], [83, 84, 82, 73, 67, 84], [87, 72, 69, 82, 69], [87, 73, 84, 72, 73, 78], [80, 65, 82, 84, 73, 84, 73, 79, 78], [66, 89], [82, 69, 84, 85, 82, 78], [65, 78, 68], [79, 82], [78, 79, 84], [84, 82, 85, 69], [70, 65, 76, 83, 69], [67, 79, 85, 78, 84], [83, 85, 77], [77, 73, 78], [77, 65, 88], [70, 73, 82, 83, 84], [76, 65, 83, 84], [80, 82, 69, 86], [65, 70, 84, 69, 82], [65, 76, 76], [80, 65, 83, 84], [79, 78, 67, 69]]
/-- The table's array as a program loads it whole. -/
def kwArr : Array Value := (kwList.map fun s => Value.string ⟨s.toArray⟩).toArray
/-- Keyword i. -/
def kwAt (i : Nat) : ByteArray := ⟨(kwList.getD i []).toArray⟩
/-- A text, its letters made great. -/
def upper (s : ByteArray) : ByteArray := ⟨(s.data.toList.map up).toArray⟩
theorem kwAt_size (i : Nat) : (kwAt i).size ≤ 27 := by
  by_cases h : i < 27
  · have : ∀ j, j < 27 → (kwAt j).size ≤ 27 := by decide
    exact this i h
  · have : kwAt i = ⟨#[]⟩ := by
      unfold kwAt
      rw [List.getD_eq_getElem?_getD, List.getElem?_eq_none (by simp [kwList]; omega)]
      rfl
    rw [this]
    exact Nat.zero_le _
theorem kwArr_at {j : Nat} (hj : j < 27) : kwArr[j]? = some (.string (kwAt j)) := by
  have hl : j < kwList.length := hj
  simp [kwArr, kwAt, hl, List.getD_eq_getElem?_getD]
theorem kwArr_cell {w : World} {g : Nat} {tt : TypeId} {fr : Nat × Nat} (hb : w.heap[g]? = some (.cells kwArr tt fr)) (j : Nat) (hj : j < 27) : w.cell? ⟨g, j, none⟩ = some (.string (kwAt j)) := by
  rw [cell_of_row w g j kwArr tt fr hb, kwArr_at hj]
theorem run_kwAt (P : Program) {t e : TypeId} (ht : P.underlying t = some (.array 27 e)) (hs : (P.info? e).map (·.size) = some 1) (hu : P.underlying e = some .string) (j : Nat) (hj : j < 27) (w : World) :
    (Instr.index t (.agg kwArr) (.int .i64 (j : Int))).run P w = .ok (.string (kwAt j)) w := by
  obtain ⟨i, hi, hz⟩ := Option.map_eq_some_iff.1 hs
  simp [Instr.index, run_underlying ht, asIntOf, sizeOf, typeInfo, hi, hz, part, isAgg, run_underlying hu, kwArr_at hj, hj, go_sem]
theorem eq_upper (s k : ByteArray) : (k.toList == (upper s).toList) = alikeB s k := by
  rw [Go.ByteArray.toList_eq, Go.ByteArray.toList_eq, Bool.eq_iff_iff, beq_iff_eq, alikeB, beq_iff_eq]
  simp only [upper]
  exact eq_comm
theorem upper_eq (s k : ByteArray) : ((upper s).toList == k.toList) = alikeB s k := by
  rw [← eq_upper, Bool.eq_iff_iff, beq_iff_eq, beq_iff_eq]
  exact eq_comm
/-- Is s a keyword? -/
def isKw (s : ByteArray) : Bool := (List.range 27).any fun i => alikeB s (kwAt i)
theorem isKw_hit {s : ByteArray} {j : Nat} (hj : j < 27) (h : alikeB s (kwAt j) = true) : isKw s = true := by
  unfold isKw
  rw [List.any_eq_true]
  exact ⟨j, by simpa using hj, h⟩
theorem isKw_none {s : ByteArray} (h : ∀ k, k < 27 → alikeB s (kwAt k) = false) : isKw s = false := by
  unfold isKw
  rw [List.any_eq_false]
  intro x hx
  rw [h x (by simpa using hx)]
  simp
/-- The first byte. -/
def first0 (s : ByteArray) : UInt8 := s.data.toList.headD 0
/-- Is s a name? -/
def nameB (s : ByteArray) : Bool := decide (0 < s.size) && decide (s.size ≤ 16) && (s.data.toList.all fun c => wordI c.toNat) && !digI (first0 s).toNat && !isKw s
theorem head_at {s : ByteArray} (h : 0 < s.size) : first0 s = s[0] := by
  obtain ⟨⟨l⟩⟩ := s
  cases l with
  | nil => simp [ByteArray.size] at h
  | cons c l => rfl
theorem name_small {s : ByteArray} (h : ¬ 0 < s.size) : nameB s = false := by simp [nameB, h]
theorem name_great {s : ByteArray} (h : ¬ s.size ≤ 16) : nameB s = false := by simp [nameB, h]
theorem name_digit {s : ByteArray} (h : 0 < s.size) (hd : digI (s[0].toNat) = true) : nameB s = false := by simp [nameB, head_at h, hd]
theorem name_word {s : ByteArray} {j : Nat} (h : j < s.size) (hd : wordI (s[j].toNat) = false) : nameB s = false := by
  have : (s.data.toList.all fun c => wordI c.toNat) = false := by
    rw [List.all_eq_false]
    have h2 : j < s.data.toList.length := by simpa using h
    refine ⟨s.data.toList[j], List.getElem_mem h2, ?_⟩
    have : s.data.toList[j] = s[j] := rfl
    rw [this, hd]
    simp
  simp [nameB, this]
theorem all_words {s : ByteArray} (h : ∀ j (hj : j < s.size), wordI (s[j].toNat) = true) : (s.data.toList.all fun c => wordI c.toNat) = true := by
  rw [List.all_eq_true]
  intro c hc
  obtain ⟨j, hj, rfl⟩ := List.getElem_of_mem hc
  exact h j (by simpa using hj)
theorem name_kw {s : ByteArray} {j : Nat} (hj : j < 27) (h : alikeB s (kwAt j) = true) : nameB s = false := by simp [nameB, isKw_hit hj h]
theorem name_yes {s : ByteArray} (h0 : 0 < s.size) (h1 : s.size ≤ 16) (h2 : ∀ j (hj : j < s.size), wordI (s[j].toNat) = true) (h3 : digI (s[0].toNat) = false) (h4 : ∀ k, k < 27 → alikeB s (kwAt k) = false) : nameB s = true := by
  simp [nameB, h0, h1, head_at h0, h3, all_words h2, isKw_none h4]
theorem word_high {n : Int} (h : 128 ≤ n) : wordI n = false := by
  simp [wordI, ltrI, digI]
  omega
end Go.Proofs.YtfcdkadblagijaaDoor

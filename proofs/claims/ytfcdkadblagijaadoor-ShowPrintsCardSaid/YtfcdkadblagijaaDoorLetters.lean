/-
  Plain facts on letters of any case: a byte made great, a text made great, and when a text is a keyword in letters of any case.
-/
import Derived.Test.YtfcdkadblagijaaDoorKit
namespace Go.Proofs.YtfcdkadblagijaaDoor
open Go.RowKit
/-- A byte, a small letter made great. -/
def up (c : UInt8) : UInt8 := if 97 ≤ c.toNat ∧ c.toNat ≤ 122 then c - 32 else c
theorem up_small {c : UInt8} (h1 : 97 ≤ c.toNat) (h2 : c.toNat ≤ 122) : ((up c).toNat : Int) = (c.toNat : Int) - 32 := by
  unfold up
  rw [if_pos ⟨h1, h2⟩, UInt8.toNat_sub_of_le]
  · simp
    omega
  · rw [UInt8.le_iff_toNat_le]
    simp
    omega
theorem up_other {c : UInt8} (h : ¬ (97 ≤ c.toNat ∧ c.toNat ≤ 122)) : up c = c := if_neg h
/-- Is s the keyword k, in letters of any case? -/
def alikeB (s k : ByteArray) : Bool := s.data.toList.map up == k.data.toList
/-- The first i letters of s, made great, are k's. -/
def likeTo (s k : ByteArray) (i : Nat) : Prop := (s.data.toList.map up).take i = k.data.toList.take i
theorem likeTo_zero (s k : ByteArray) : likeTo s k 0 := by simp [likeTo]
theorem likeTo_step {s k : ByteArray} {i : Nat} (h : likeTo s k i) (hs : i < s.size) (hk : i < k.size) (he : up s[i] = k[i]) : likeTo s k (i + 1) := by
  unfold likeTo at *
  have h1 : i < (s.data.toList.map up).length := by simpa using hs
  have h2 : i < k.data.toList.length := by simpa using hk
  rw [List.take_succ_eq_append_getElem h1, List.take_succ_eq_append_getElem h2, h]
  congr 2
  rw [List.getElem_map]
  exact he
theorem likeTo_all {s k : ByteArray} (hz : s.size = k.size) (h : likeTo s k s.size) : alikeB s k = true := by
  unfold likeTo at h
  unfold alikeB
  have h1 : (s.data.toList.map up).length = s.size := by simp
  have h2 : k.data.toList.length = k.size := by simp
  rw [List.take_of_length_le (by omega), List.take_of_length_le (by omega)] at h
  simpa using h
theorem alike_miss {s k : ByteArray} {i : Nat} (hs : i < s.size) (hk : i < k.size) (he : ¬ up s[i] = k[i]) : alikeB s k = false := by
  unfold alikeB
  rw [beq_eq_false_iff_ne]
  intro h
  apply he
  have h1 : (s.data.toList.map up)[i]? = k.data.toList[i]? := by rw [h]
  have h2 : i < s.data.toList.length := by simpa using hs
  have h3 : i < k.data.toList.length := by simpa using hk
  rw [List.getElem?_map, List.getElem?_eq_getElem h2, List.getElem?_eq_getElem h3] at h1
  exact Option.some.inj h1
theorem alike_short {s k : ByteArray} (h : s.size ≠ k.size) : alikeB s k = false := by
  unfold alikeB
  rw [beq_eq_false_iff_ne]
  intro he
  apply h
  have := congrArg List.length he
  simpa using this
theorem up_ne_small {c d : UInt8} (h1 : (97 : Int) ≤ c.toNat) (h2 : (c.toNat : Int) ≤ 122) (h : ((c.toNat : Int) - 32 != (d.toNat : Int)) = true) : ¬ up c = d := by
  intro e
  have h3 := up_small (c := c) (by omega) (by omega)
  rw [e] at h3
  rw [bne_iff_ne] at h
  omega
theorem up_eq_small {c d : UInt8} (h1 : (97 : Int) ≤ c.toNat) (h2 : (c.toNat : Int) ≤ 122) (h : ((c.toNat : Int) - 32 != (d.toNat : Int)) = false) : up c = d := by
  have h3 := up_small (c := c) (by omega) (by omega)
  rw [bne_eq_false_iff_eq] at h
  apply UInt8.toNat_inj.1
  omega
theorem up_ne_other {c d : UInt8} (h1 : ¬ (97 ≤ c.toNat ∧ c.toNat ≤ 122)) (h : ((c.toNat : Int) != (d.toNat : Int)) = true) : ¬ up c = d := by
  rw [up_other h1]
  rintro rfl
  simp at h
theorem up_eq_other {c d : UInt8} (h1 : ¬ (97 ≤ c.toNat ∧ c.toNat ≤ 122)) (h : ((c.toNat : Int) != (d.toNat : Int)) = false) : up c = d := by
  rw [up_other h1]
  rw [bne_eq_false_iff_eq] at h
  apply UInt8.toNat_inj.1
  omega
end Go.Proofs.YtfcdkadblagijaaDoor

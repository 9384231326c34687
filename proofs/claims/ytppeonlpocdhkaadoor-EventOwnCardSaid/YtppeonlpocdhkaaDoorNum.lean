/-
  Numbers and ids as texts, plain: what the library's reading comes to, and the reference's.
-/
import Derived.Test.YtppeonlpocdhkaaDoorSchemaText
import Derived.Lib.ParseIntBCases
namespace Go.Proofs.YtppeonlpocdhkaaDoor
open Go.RowKit
def digU (c : UInt8) : Bool := decide (48 ≤ c.toNat) && decide (c.toNat ≤ 57)
theorem digU_iff {c : UInt8} : digU c = true ↔ 48 ≤ c.toNat ∧ c.toNat ≤ 57 := by simp [digU]
theorem digU_not {c : UInt8} : digU c = false ↔ ¬ (48 ≤ c.toNat ∧ c.toNat ≤ 57) := by
  rw [← Bool.not_eq_true, digU_iff]
/-- The value of digits behind acc, if it is below 2^64. -/
def idGo (acc : Nat) : List UInt8 → Option Nat
  | [] => some acc
  | c :: r => if digU c = true then (if 18446744073709551615 < acc * 10 + (c.toNat - 48) then none else idGo (acc * 10 + (c.toNat - 48)) r) else none
def idL (l : List UInt8) : Option Nat := if l = [] then none else idGo 0 l
/-- Digits alone, one at least. -/
def digsL (l : List UInt8) : Bool := l.all digU && !l.isEmpty
def numL (l : List UInt8) : Option Int :=
  match l with
  | [] => none
  | c :: r =>
    if c.toNat = 45 then (match idL r with | some u => if 9223372036854775808 < u then none else some (-(u : Int)) | none => none)
    else match idL (c :: r) with | some u => if 9223372036854775808 ≤ u then none else some (u : Int) | none => none
theorem idGo_not {l : List UInt8} : ∀ acc, l.all digU = false → idGo acc l = none := by
  induction l with
  | nil => intro acc h; simp at h
  | cons c r ih =>
    intro acc h
    unfold idGo
    cases hc : digU c
    · simp
    · rw [if_pos rfl]
      split
      · rfl
      · exact ih _ (by simpa [hc] using h)
theorem idL_not {l : List UInt8} (h : digsL l = false) : idL l = none := by
  unfold idL
  by_cases e : l = []
  · rw [if_pos e]
  · rw [if_neg e]
    refine idGo_not 0 ?_
    have : l.isEmpty = false := by cases l <;> simp_all
    simpa [digsL, this] using h
theorem idGo_lib {l : List UInt8} : ∀ acc, l.all digU = true → Lib.parseUintM 18446744073709551615 acc l = (match idGo acc l with | some u => .ok u | none => .range) := by
  induction l with
  | nil => intro acc _; rfl
  | cons c r ih =>
    intro acc h
    simp only [List.all_cons, Bool.and_eq_true] at h
    have hc := digU_iff.1 h.1
    unfold Lib.parseUintM idGo
    rw [if_pos hc, if_pos h.1]
    by_cases h1 : 18446744073709551615 < acc * 10 + (c.toNat - 48)
    · rw [if_pos h1]
      by_cases h2 : 1844674407370955162 ≤ acc
      · rw [if_pos h2, if_pos h1]
      · rw [if_neg h2, if_pos h1]
    · rw [if_neg h1, if_neg (by omega), if_neg h1]
      exact ih _ h.2
theorem idL_lib {l : List UInt8} (h : digsL l = true) : Lib.parseUintB 64 l = (match idL l with | some u => .ok u | none => .range) := by
  simp only [digsL, Bool.and_eq_true, Bool.not_eq_true', List.isEmpty_eq_false_iff] at h
  unfold Lib.parseUintB idL
  rw [if_neg h.2, if_neg h.2]
  exact idGo_lib 0 h.1
/-- What stands behind a '-'. -/
def trimL (l : List UInt8) : List UInt8 := match l with | c :: r => if c.toNat = 45 then r else c :: r | [] => []
theorem numL_not {l : List UInt8} (h : digsL (trimL l) = false) : numL l = none := by
  cases l with
  | nil => rfl
  | cons c r =>
    unfold numL
    unfold trimL at h
    dsimp only at h ⊢
    by_cases e : c.toNat = 45
    · rw [if_pos e] at h ⊢
      rw [idL_not h]
    · rw [if_neg e] at h ⊢
      rw [idL_not h]
theorem numL_lib {l : List UInt8} (h : digsL (trimL l) = true) : Lib.parseIntB 64 l = (match numL l with | some v => .ok v | none => .range) := by
  cases l with
  | nil => simp [digsL, trimL] at h
  | cons c r =>
    unfold trimL at h
    dsimp only at h
    by_cases e : c.toNat = 45
    · rw [if_pos e] at h
      have e' : c = 45 := UInt8.toNat_inj.1 e
      subst e'
      rw [Lib.parseIntB_minus, idL_lib h]
      unfold numL
      dsimp only
      rw [if_pos e]
      cases idL r with
      | none => rfl
      | some u =>
        show Lib.signedC (2 ^ (64 - 1)) (.ok u) = _
        unfold Lib.signedC
        dsimp only
        have e2 : (2 : Nat) ^ (64 - 1) = 9223372036854775808 := by decide
        rw [e2]
        by_cases h3 : 9223372036854775808 < u
        · rw [if_pos h3, if_pos h3]
        · rw [if_neg h3, if_neg h3]
    · rw [if_neg e] at h
      have hc : digU c = true := by
        simp only [digsL, List.all_cons, Bool.and_eq_true] at h
        exact h.1.1
      have h43 : c.toNat ≠ 43 := by have := digU_iff.1 hc; omega
      rw [Lib.parseIntB_plain 64 c r h43 e, idL_lib h]
      unfold numL
      dsimp only
      rw [if_neg e]
      cases idL (c :: r) with
      | none => rfl
      | some u =>
        show Lib.signlessC (2 ^ (64 - 1)) (.ok u) = _
        unfold Lib.signlessC
        dsimp only
        have e2 : (2 : Nat) ^ (64 - 1) = 9223372036854775808 := by decide
        rw [e2]
        by_cases h3 : 9223372036854775808 ≤ u
        · rw [if_pos h3, if_pos h3]
        · rw [if_neg h3, if_neg h3]
theorem idGo_le {l : List UInt8} : ∀ acc u, acc ≤ 18446744073709551615 → idGo acc l = some u → u ≤ 18446744073709551615 := by
  induction l with
  | nil => intro acc u h1 h; injection h with h; omega
  | cons c r ih =>
    intro acc u h1 h
    unfold idGo at h
    split at h
    · split at h
      · cases h
      · exact ih _ u (by omega) h
    · cases h
theorem idL_le {l : List UInt8} {u : Nat} (h : idL l = some u) : u ≤ 18446744073709551615 := by
  unfold idL at h
  split at h
  · cases h
  · exact idGo_le 0 u (by omega) h
theorem numL_range {l : List UInt8} {v : Int} (h : numL l = some v) : -9223372036854775808 ≤ v ∧ v ≤ 9223372036854775807 := by
  cases l with
  | nil => cases h
  | cons c r =>
    unfold numL at h
    dsimp only at h
    split at h
    · split at h
      · split at h
        · cases h
        · injection h with h; omega
      · cases h
    · split at h
      · split at h
        · cases h
        · injection h with h; omega
      · cases h
end Go.Proofs.YtppeonlpocdhkaaDoor

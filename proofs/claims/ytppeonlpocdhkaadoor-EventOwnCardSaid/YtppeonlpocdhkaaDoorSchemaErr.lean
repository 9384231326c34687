/-
  When a schema is one: the errors, plain.
-/
import Derived.Test.YtppeonlpocdhkaaDoorLetters2
import Derived.Test.YtppeonlpocdhkaaDoorSchemaFns
namespace Go.Proofs.YtppeonlpocdhkaaDoor
/-- The first number that is not 0. -/
def firstNZ (e : Nat → Int) (n : Nat) : Int := match (List.range n).find? (fun k => e k != 0) with | some k => e k | none => 0
theorem firstNZ_hit {e : Nat → Int} {n j : Nat} (hj : j < n) (hp : e j ≠ 0) (hn : ∀ k, k < j → e k = 0) : firstNZ e n = e j := by
  have : (List.range n).find? (fun k => e k != 0) = some j := by
    rw [List.find?_eq_some_iff_getElem]
    refine ⟨by simpa using hp, j, by simpa using hj, by simp, fun k hk => ?_⟩
    simp [hn k hk]
  simp [firstNZ, this]
theorem firstNZ_zero {e : Nat → Int} {n : Nat} (hn : ∀ k, k < n → e k = 0) : firstNZ e n = 0 := by
  have : (List.range n).find? (fun k => e k != 0) = none := by
    rw [List.find?_eq_none]
    intro k hk
    rw [hn k (by simpa using hk)]
    simp
  simp [firstNZ, this]
/-- Is the text among the first n? -/
def inB (n : Nat) (f : Nat → ByteArray) (nm : ByteArray) : Bool := (List.range n).any fun k => (f k).toList == nm.toList
theorem inB_hit {n k : Nat} {f : Nat → ByteArray} {nm : ByteArray} (hk : k < n) (h : ((f k).toList == nm.toList) = true) : inB n f nm = true := by
  unfold inB
  rw [List.any_eq_true]
  exact ⟨k, by simpa using hk, h⟩
theorem inB_none {n : Nat} {f : Nat → ByteArray} {nm : ByteArray} (h : ∀ k, k < n → ((f k).toList == nm.toList) = false) : inB n f nm = false := by
  unfold inB
  rw [List.any_eq_false]
  intro k hk
  rw [h k (by simpa using hk)]
  simp
theorem of_inB {n : Nat} {f : Nat → ByteArray} {nm : ByteArray} (h : inB n f nm = false) : ∀ k, k < n → ((f k).toList == nm.toList) = false := by
  intro k hk
  cases hp : ((f k).toList == nm.toList)
  · rfl
  · rw [inB_hit hk hp] at h; cases h
/-- Is it there ahead of itself? -/
def twiceB (f : Nat → ByteArray) (i : Nat) : Bool := inB i f (f i)
theorem place_once {n i : Nat} {f : Nat → ByteArray} (hi : i < n) (h : twiceB f i = false) : placeI n f (f i) = i := firstI_hit hi (beq_self_eq_true _) (of_inB h)
theorem place_twice {n i : Nat} {f : Nat → ByteArray} (hi : i < n) (h : twiceB f i = true) : ∃ k : Nat, k < i ∧ placeI n f (f i) = k := by
  rcases firstI_or (fun k => (f k).toList == (f i).toList) n with ⟨_, hn⟩ | ⟨j, hj, e, hp, hb⟩
  · have := hn i hi
    simp at this
  · refine ⟨j, ?_, e⟩
    rcases Nat.lt_or_ge j i with h1 | h1
    · exact h1
    · have : twiceB f i = false := inB_none fun k hk => hb k (by omega)
      rw [this] at h
      cases h
def attrErr (f : Nat → ByteArray) (j : Nat) : Int := if nameB (f j) = false then 22 else if ((f j).toList == [116, 115]) = true then 22 else if twiceB f j = true then 25 else 0
def typeErr (S : Sch) (i : Nat) : Int := if nameB (S.nm i) = false then 22 else if twiceB S.nm i = true then 25 else if 8 < S.ln i then 24 else firstNZ (attrErr (S.atr i)) (S.ln i)
def schErr (S : Sch) : Int := if S.n = 0 ∨ 16 < S.n then 23 else firstNZ (typeErr S) S.n
section
variable {f : Nat → ByteArray} {j i : Nat} {S : Sch}
theorem attrErr_name (h : nameB (f j) = false) : attrErr f j = 22 := by simp [attrErr, h]
theorem attrErr_ts (h : nameB (f j) = true) (h2 : ((f j).toList == [116, 115]) = true) : attrErr f j = 22 := by simp only [attrErr, h, h2, if_true]; rfl
theorem attrErr_twice (h : nameB (f j) = true) (h2 : ((f j).toList == [116, 115]) = false) (h3 : twiceB f j = true) : attrErr f j = 25 := by simp only [attrErr, h, h2, h3, if_true]; rfl
theorem attrErr_ok (h : nameB (f j) = true) (h2 : ((f j).toList == [116, 115]) = false) (h3 : twiceB f j = false) : attrErr f j = 0 := by simp only [attrErr, h, h2, h3]; rfl
theorem typeErr_name (h : nameB (S.nm i) = false) : typeErr S i = 22 := by simp [typeErr, h]
theorem typeErr_twice (h : nameB (S.nm i) = true) (h2 : twiceB S.nm i = true) : typeErr S i = 25 := by simp [typeErr, h, h2]
theorem typeErr_many (h : nameB (S.nm i) = true) (h2 : twiceB S.nm i = false) (h3 : 8 < S.ln i) : typeErr S i = 24 := by simp [typeErr, h, h2, h3]
theorem typeErr_rest (h : nameB (S.nm i) = true) (h2 : twiceB S.nm i = false) (h3 : ¬ 8 < S.ln i) : typeErr S i = firstNZ (attrErr (S.atr i)) (S.ln i) := by simp [typeErr, h, h2, h3]
theorem schErr_n (h : S.n = 0 ∨ 16 < S.n) : schErr S = 23 := by simp [schErr, h]
theorem schErr_rest (h : 0 < S.n) (h2 : S.n ≤ 16) : schErr S = firstNZ (typeErr S) S.n := by
  have : ¬ (S.n = 0 ∨ 16 < S.n) := by omega
  simp only [schErr, if_neg this]
/-- What is a schema. -/
theorem sch_zero (h : schErr S = 0) : 0 < S.n ∧ S.n ≤ 16 ∧ ∀ i, i < S.n → nameB (S.nm i) = true ∧ twiceB S.nm i = false ∧ S.ln i ≤ 8 ∧ ∀ j, j < S.ln i → nameB (S.atr i j) = true ∧ ((S.atr i j).toList == [116, 115]) = false ∧ twiceB (S.atr i) j = false := by
  by_cases hn : S.n = 0 ∨ 16 < S.n
  · rw [schErr_n hn] at h; cases h
  rw [schErr_rest (by omega) (by omega)] at h
  have nz : ∀ {e : Nat → Int} {n : Nat}, firstNZ e n = 0 → ∀ k, k < n → e k = 0 := by
    intro e n h0 k hk
    cases hf : (List.range n).find? (fun k => e k != 0) with
    | none => simpa using List.find?_eq_none.1 hf k (by simpa using hk)
    | some q =>
      have h1 := List.find?_some hf
      simp only [firstNZ, hf] at h0
      simp [h0] at h1
  refine ⟨by omega, by omega, fun i hi => ?_⟩
  have h1 := nz h i hi
  cases hq : nameB (S.nm i)
  · rw [typeErr_name hq] at h1; cases h1
  cases hr : twiceB S.nm i
  · by_cases h8 : 8 < S.ln i
    · rw [typeErr_many hq hr h8] at h1; cases h1
    rw [typeErr_rest hq hr h8] at h1
    refine ⟨rfl, rfl, by omega, fun j hj => ?_⟩
    have h2 := nz h1 j hj
    cases ha : nameB (S.atr i j)
    · rw [attrErr_name ha] at h2; cases h2
    cases hb : ((S.atr i j).toList == [116, 115])
    · cases hc : twiceB (S.atr i) j
      · exact ⟨rfl, rfl, rfl⟩
      · rw [attrErr_twice ha hb hc] at h2; cases h2
    · rw [attrErr_ts ha hb] at h2; cases h2
  · rw [typeErr_twice hq hr] at h1; cases h1
end
end Go.Proofs.YtppeonlpocdhkaaDoor

/-
  An event's line, plain: its words, and what they say.
-/
import Derived.Test.YtppeonlpocdhkaaDoorNum
import Derived.Test.YtppeonlpocdhkaaDoorCheckEvent
import Derived.Test.YtppeonlpocdhkaaDoorPceStep
namespace Go.Proofs.YtppeonlpocdhkaaDoor
open Go.RowKit
def gapI (n : Nat) : Bool := n == 32 || n == 9
def skipE (s : ByteArray) (k : Nat) : Nat := if h : k < s.size then if gapI (s[k].toNat) = true then k else skipE s (k + 1) else k
termination_by s.size - k
section
variable {s : ByteArray} {k : Nat}
theorem skipE_on (h : k < s.size) (hw : gapI (s[k].toNat) = false) : skipE s k = skipE s (k + 1) := by rw [skipE, dif_pos h, if_neg (by rw [hw]; simp)]
theorem skipE_off (h : k < s.size) (hw : gapI (s[k].toNat) = true) : skipE s k = k := by rw [skipE, dif_pos h, if_pos hw]
theorem skipE_out (h : ¬ k < s.size) : skipE s k = k := by rw [skipE, dif_neg h]
theorem skipE_ge (s : ByteArray) (k : Nat) : k ≤ skipE s k := by fun_induction skipE s k <;> omega
theorem skipE_le (s : ByteArray) (k : Nat) : k ≤ s.size → skipE s k ≤ s.size := by fun_induction skipE s k <;> omega
end
def wordsE (s : ByteArray) (i : Nat) : List Pce :=
  if h : i < s.size then
    if gapI (s[i].toNat) = true then wordsE s (i + 1) else ⟨i, skipE s (i + 1), true⟩ :: wordsE s (skipE s (i + 1))
  else []
termination_by s.size - i
decreasing_by
  all_goals
    have h1 := skipE_ge s (i + 1)
    omega
section
variable {s : ByteArray} {i : Nat}
theorem words_gap (h : i < s.size) (hb : gapI (s[i].toNat) = true) : wordsE s i = wordsE s (i + 1) := by rw [wordsE, dif_pos h, if_pos hb]
theorem words_word (h : i < s.size) (hb : gapI (s[i].toNat) = false) : wordsE s i = ⟨i, skipE s (i + 1), true⟩ :: wordsE s (skipE s (i + 1)) := by rw [wordsE, dif_pos h, if_neg (by rw [hb]; simp)]
theorem words_end (h : ¬ i < s.size) : wordsE s i = [] := by rw [wordsE, dif_neg h]
/-- Behind a word stands a gap, or nothing. -/
theorem words_skip (s : ByteArray) (i : Nat) : wordsE s (skipE s i) = wordsE s (skipE s i + 1) := by
  fun_induction skipE s i with
  | case1 k h hw => exact words_gap h hw
  | case2 k h hw ih => exact ih
  | case3 k h => rw [words_end h, words_end (by omega)]
end
theorem words_ok (s : ByteArray) (i : Nat) : ∀ p ∈ wordsE s i, p.a < p.z ∧ p.z ≤ s.size := by
  fun_induction wordsE s i with
  | case1 i h hb ih => exact ih
  | case2 i h hb ih =>
    intro p hp
    rcases List.mem_cons.1 hp with rfl | hp
    · exact ⟨skipE_ge s (i + 1), skipE_le s (i + 1) (by omega)⟩
    · exact ih p hp
  | case3 i h => simp
theorem words_len (s : ByteArray) (i : Nat) : (wordsE s i).length ≤ s.size - i := by
  fun_induction wordsE s i with
  | case1 i h hb ih => omega
  | case2 i h hb ih => have := skipE_ge s (i + 1); simp only [List.length_cons]; omega
  | case3 i h => simp
/-- Each word lies in the text. -/
def WOk (s : ByteArray) (L : List Pce) : Prop := ∀ i, i < L.length → (gp L i).a < (gp L i).z ∧ (gp L i).z ≤ s.size
theorem wok_words (s : ByteArray) : WOk s (wordsE s 0) := by
  intro i hi
  have : gp (wordsE s 0) i = (wordsE s 0)[i] := by simp [gp, hi]
  rw [this]
  exact words_ok s 0 _ (List.getElem_mem hi)
/-- The text of word i; empty where there is none. -/
def wtx (s : ByteArray) (L : List Pce) (i : Nat) : ByteArray := if i < L.length then wdAt s L i else .empty
theorem wtx_in {s : ByteArray} {L : List Pce} {i : Nat} (h : i < L.length) : wtx s L i = wdAt s L i := if_pos h
theorem wtx_out {s : ByteArray} {L : List Pce} {i : Nat} (h : ¬ i < L.length) : wtx s L i = .empty := if_neg h
def numT (t : ByteArray) : Option Int := numL t.data.toList
def idT (t : ByteArray) : Option Nat := idL t.data.toList
theorem numT_empty : numT .empty = none := rfl
theorem idT_empty : idT .empty = none := rfl
/-- What the first three words come to: the error, the word that it is told of; or the event's head. -/
structure Ehd where
  code : Int
  bad : Nat
  ts : Int
  id : Nat
  ty : Nat
def headR (S : Sch) (s : ByteArray) (L : List Pce) : Ehd :=
  match numT (wtx s L 0) with
  | none => ⟨26, 0, 0, 0, 0⟩
  | some ts =>
    if ts < -1152921504606846976 ∨ 1152921504606846976 < ts then ⟨29, 0, 0, 0, 0⟩ else
    match idT (wtx s L 1) with
    | none => ⟨26, 1, 0, 0, 0⟩
    | some id =>
      if L.length < 3 then ⟨26, 2, 0, 0, 0⟩ else
      if typeI S (wtx s L 2) < 0 then ⟨27, 2, 0, 0, 0⟩ else ⟨0, 0, ts, id, (typeI S (wtx s L 2)).toNat⟩
section
variable {S : Sch} {s : ByteArray} {L : List Pce} {ts : Int} {id : Nat}
theorem headR_ts (h : numT (wtx s L 0) = none) : headR S s L = ⟨26, 0, 0, 0, 0⟩ := by unfold headR; rw [h]
theorem headR_range (h : numT (wtx s L 0) = some ts) (h1 : ts < -1152921504606846976 ∨ 1152921504606846976 < ts) : headR S s L = ⟨29, 0, 0, 0, 0⟩ := by unfold headR; rw [h]; exact if_pos h1
theorem headR_id (h : numT (wtx s L 0) = some ts) (h1 : ¬ (ts < -1152921504606846976 ∨ 1152921504606846976 < ts)) (h2 : idT (wtx s L 1) = none) : headR S s L = ⟨26, 1, 0, 0, 0⟩ := by
  unfold headR; rw [h]; dsimp only; rw [if_neg h1, h2]
theorem headR_three (h : numT (wtx s L 0) = some ts) (h1 : ¬ (ts < -1152921504606846976 ∨ 1152921504606846976 < ts)) (h2 : idT (wtx s L 1) = some id) (h3 : L.length < 3) : headR S s L = ⟨26, 2, 0, 0, 0⟩ := by
  unfold headR; rw [h]; dsimp only; rw [if_neg h1, h2]; exact if_pos h3
theorem headR_type (h : numT (wtx s L 0) = some ts) (h1 : ¬ (ts < -1152921504606846976 ∨ 1152921504606846976 < ts)) (h2 : idT (wtx s L 1) = some id) (h3 : ¬ L.length < 3) (h4 : typeI S (wtx s L 2) < 0) : headR S s L = ⟨27, 2, 0, 0, 0⟩ := by
  unfold headR; rw [h]; dsimp only; rw [if_neg h1, h2]; dsimp only; rw [if_neg h3, if_pos h4]
theorem headR_ok (h : numT (wtx s L 0) = some ts) (h1 : ¬ (ts < -1152921504606846976 ∨ 1152921504606846976 < ts)) (h2 : idT (wtx s L 1) = some id) (h3 : ¬ L.length < 3) (h4 : ¬ typeI S (wtx s L 2) < 0) : headR S s L = ⟨0, 0, ts, id, (typeI S (wtx s L 2)).toNat⟩ := by
  unfold headR; rw [h]; dsimp only; rw [if_neg h1, h2]; dsimp only; rw [if_neg h3, if_neg h4]
end
/-- The values from place i on: the error and its word, or 0. -/
def attrsR (s : ByteArray) (L : List Pce) (n i : Nat) : Int × Nat :=
  if i < n then
    if L.length ≤ 3 + i then (28, 3 + i) else
    match numT (wtx s L (3 + i)) with
    | none => (26, 3 + i)
    | some _ => attrsR s L n (i + 1)
  else if 3 + n < L.length then (28, 3 + n) else (0, 0)
termination_by n - i
def attrV (s : ByteArray) (L : List Pce) (n j : Nat) : Int := if j < n then (numT (wtx s L (3 + j))).getD 0 else 0
/-- What a line's reading ends with: the error, its place, the event. -/
structure Eres where
  code : Int
  pos : Nat
  ts : Int
  id : Nat
  ty : Nat
  at_ : Nat → Int
def evBad (c : Int) (p : Nat) : Eres := ⟨c, p, 0, 0, 0, fun _ => 0⟩
def evRes (S : Sch) (s : ByteArray) : Eres :=
  if schErr S ≠ 0 then evBad (schErr S) 0 else
  if (headR S s (wordsE s 0)).code ≠ 0 then evBad (headR S s (wordsE s 0)).code (placeN s (wordsE s 0) (headR S s (wordsE s 0)).bad) else
  if (attrsR s (wordsE s 0) (S.ln (headR S s (wordsE s 0)).ty) 0).1 ≠ 0 then evBad (attrsR s (wordsE s 0) (S.ln (headR S s (wordsE s 0)).ty) 0).1 (placeN s (wordsE s 0) (attrsR s (wordsE s 0) (S.ln (headR S s (wordsE s 0)).ty) 0).2) else
  ⟨0, 0, (headR S s (wordsE s 0)).ts, (headR S s (wordsE s 0)).id, (headR S s (wordsE s 0)).ty, attrV s (wordsE s 0) (S.ln (headR S s (wordsE s 0)).ty)⟩
section
variable {s : ByteArray} {L : List Pce} {n i : Nat} {v : Int}
theorem attrs_few (h : i < n) (h1 : L.length ≤ 3 + i) : attrsR s L n i = (28, 3 + i) := by rw [attrsR, if_pos h, if_pos h1]
theorem attrs_bad (h : i < n) (h1 : ¬ L.length ≤ 3 + i) (h2 : numT (wtx s L (3 + i)) = none) : attrsR s L n i = (26, 3 + i) := by rw [attrsR, if_pos h, if_neg h1, h2]
theorem attrs_next (h : i < n) (h1 : ¬ L.length ≤ 3 + i) (h2 : numT (wtx s L (3 + i)) = some v) : attrsR s L n i = attrsR s L n (i + 1) := by
  conv => lhs; rw [attrsR]
  rw [if_pos h, if_neg h1, h2]
theorem attrs_many (h : ¬ i < n) (h1 : 3 + n < L.length) : attrsR s L n i = (28, 3 + n) := by rw [attrsR, if_neg h, if_pos h1]
theorem attrs_done (h : ¬ i < n) (h1 : ¬ 3 + n < L.length) : attrsR s L n i = (0, 0) := by rw [attrsR, if_neg h, if_neg h1]
end
end Go.Proofs.YtppeonlpocdhkaaDoor

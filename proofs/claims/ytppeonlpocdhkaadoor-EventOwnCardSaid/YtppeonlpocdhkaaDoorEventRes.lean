/-
  What a line's reading ends with: the event's cells, and the ways there.
-/
import Derived.Test.YtppeonlpocdhkaaDoorHead
namespace Go.Proofs.YtppeonlpocdhkaaDoor
open Go.RowKit
theorem ev_set (ts id ty : Int) (a : Nat → Int) {k : Nat} (hk : k < 8) (v : Int) : (evCells ts id ty a).setIfInBounds (3 + k) (.int .i64 v) = evCells ts id ty (upd a k v) := by
  match k, hk with
  | 0, _ => rfl
  | 1, _ => rfl
  | 2, _ => rfl
  | 3, _ => rfl
  | 4, _ => rfl
  | 5, _ => rfl
  | 6, _ => rfl
  | 7, _ => rfl
theorem ev_ext {ts id ty : Int} {a a' : Nat → Int} (h : ∀ j, j < 8 → a j = a' j) : evCells ts id ty a = evCells ts id ty a' := by
  unfold evCells
  rw [h 0 (by omega), h 1 (by omega), h 2 (by omega), h 3 (by omega), h 4 (by omega), h 5 (by omega), h 6 (by omega), h 7 (by omega)]
theorem ev_one (ts id ty : Int) (a : Nat → Int) : (evCells ts id ty a).all (·.oneCell') = true := by simp [evCells, Value.oneCell']
section
variable {S : Sch} {s : ByteArray} {L : List Pce} {c : Int} {k : Nat} {ts : Int} {id ty : Nat}
theorem evRes_sch (h : schErr S ≠ 0) : evRes S s = evBad (schErr S) 0 := if_pos h
theorem evRes_head (hL : wordsE s 0 = L) (h : schErr S = 0) (h1 : (headR S s L).code ≠ 0) : evRes S s = evBad (headR S s L).code (placeN s L (headR S s L).bad) := by
  subst hL
  unfold evRes
  rw [if_neg (by rw [h]; simp), if_pos h1]
theorem evRes_attrs (hL : wordsE s 0 = L) (h : schErr S = 0) (h1 : headR S s L = ⟨0, 0, ts, id, ty⟩) (h2 : attrsR s L (S.ln ty) 0 = (c, k)) (hc : c ≠ 0) : evRes S s = evBad c (placeN s L k) := by
  subst hL
  unfold evRes
  rw [if_neg (by rw [h]; simp), h1, if_neg (by simp)]
  dsimp only
  rw [h2, if_pos hc]
theorem evRes_ok (hL : wordsE s 0 = L) (h : schErr S = 0) (h1 : headR S s L = ⟨0, 0, ts, id, ty⟩) (h2 : attrsR s L (S.ln ty) 0 = (0, 0)) : evRes S s = ⟨0, 0, ts, id, ty, attrV s L (S.ln ty)⟩ := by
  subst hL
  unfold evRes
  rw [if_neg (by rw [h]; simp), h1, if_neg (by simp)]
  dsimp only
  rw [h2, if_neg (by simp)]
theorem head_parts (h1 : (headR S s L).code = 0) : ∃ (ts : Int) (id ty : Nat), headR S s L = ⟨0, 0, ts, id, ty⟩ ∧ ty < S.n := by
  unfold headR at h1 ⊢
  cases hn : numT (wtx s L 0) with
  | none => rw [hn] at h1; cases h1
  | some t =>
    rw [hn] at h1
    dsimp only at h1 ⊢
    by_cases hr : t < -1152921504606846976 ∨ 1152921504606846976 < t
    · rw [if_pos hr] at h1; cases h1
    rw [if_neg hr] at h1 ⊢
    cases hi : idT (wtx s L 1) with
    | none => rw [hi] at h1; cases h1
    | some u =>
      rw [hi] at h1
      dsimp only at h1 ⊢
      by_cases h3 : L.length < 3
      · rw [if_pos h3] at h1; cases h1
      rw [if_neg h3] at h1 ⊢
      by_cases h4 : typeI S (wtx s L 2) < 0
      · rw [if_pos h4] at h1; cases h1
      rw [if_neg h4]
      refine ⟨t, u, _, rfl, ?_⟩
      rcases firstI_or (fun k => (S.nm k).toList == (wtx s L 2).toList) S.n with ⟨e, _⟩ | ⟨j, hj, e, _⟩
      · have e' : typeI S (wtx s L 2) = -1 := e
        rw [e'] at h4
        exact absurd (by decide) h4
      · have e' : typeI S (wtx s L 2) = j := e
        rw [e']
        simpa using hj
end
/-- What the call ends with. -/
def EvEnd (S : Sch) (s : ByteArray) (e : Ending) : Prop :=
  e = .returned (.tuple #[.agg (evCells (evRes S s).ts (evRes S s).id (evRes S s).ty (evRes S s).at_), .int .i64 (evRes S s).code, .int .i64 (evRes S s).pos])
theorem ee_bad {S : Sch} {s : ByteArray} {c : Int} {p : Nat} (h : evRes S s = evBad c p) : EvEnd S s (.returned (.tuple #[.agg #[.int .i64 0, .int .u64 0, .int .i64 0, .int .i64 0, .int .i64 0, .int .i64 0, .int .i64 0, .int .i64 0, .int .i64 0, .int .i64 0, .int .i64 0], .int .i64 c, .int .i64 p])) := by
  unfold EvEnd
  rw [h]
  rfl
theorem ee_ok {S : Sch} {s : ByteArray} {L : List Pce} {ts : Int} {id ty n : Nat} {a : Nat → Int} (h : evRes S s = ⟨0, 0, ts, id, ty, attrV s L n⟩) (ha : ∀ j, j < 8 → a j = attrV s L n j) : EvEnd S s (.returned (.tuple #[.agg (evCells ts id ty a), .int .i64 0, .int .i64 0])) := by
  unfold EvEnd
  rw [h, ev_ext ha]
  rfl
/-- The values up to k. -/
def VInv (s : ByteArray) (L : List Pce) (k : Nat) (a : Nat → Int) : Prop := ∀ j, j < 8 → a j = if j < k then (numT (wtx s L (3 + j))).getD 0 else 0
theorem VInv.next {s : ByteArray} {L : List Pce} {k : Nat} {a : Nat → Int} {v : Int} (h : VInv s L k a) (hv : numT (wtx s L (3 + k)) = some v) : VInv s L (k + 1) (upd a k v) := by
  intro j hj
  unfold upd
  by_cases e : j = k
  · subst e
    rw [if_pos rfl, if_pos (by omega), hv]
    rfl
  · rw [if_neg e, h j hj]
    by_cases h2 : j < k
    · rw [if_pos h2, if_pos (by omega)]
    · rw [if_neg h2, if_neg (by omega)]
end Go.Proofs.YtppeonlpocdhkaaDoor

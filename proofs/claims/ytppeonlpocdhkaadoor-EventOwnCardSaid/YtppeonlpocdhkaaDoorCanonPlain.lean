/-
  What is read from a text is sound, or is refused at a place in the text.
-/
import Derived.Test.YtppeonlpocdhkaaDoorBacks
set_option linter.unusedVariables false
namespace Go.Proofs.YtppeonlpocdhkaaDoor
open Go.RowKit
/-- A type that may stand at place i of ts. -/
def TyOk (ts : TList) (i : Nat) : Prop := nameB (nmOf ts i) = true ∧ inB i (nmOf ts) (nmOf ts i) = false ∧ (atsOf ts i).length ≤ 8 ∧ ∀ j, j < (atsOf ts i).length → nameB ((atsOf ts i).getD j .empty) = true ∧ (((atsOf ts i).getD j .empty).toList == [116, 115]) = false ∧ inB j (fun j => (atsOf ts i).getD j .empty) ((atsOf ts i).getD j .empty) = false
def TsOk (ts : TList) : Prop := ts.length ≤ 16 ∧ ∀ i, i < ts.length → TyOk ts i
theorem nm_left {ts : TList} {x : ByteArray × List ByteArray} {i : Nat} (h : i < ts.length) : nmOf (ts ++ [x]) i = nmOf ts i ∧ atsOf (ts ++ [x]) i = atsOf ts i := by
  simp only [nmOf, atsOf, List.getD_eq_getElem?_getD, List.getElem?_append_left h]
  exact ⟨trivial, trivial⟩
theorem nm_last (ts : TList) (x : ByteArray × List ByteArray) : nmOf (ts ++ [x]) ts.length = x.1 ∧ atsOf (ts ++ [x]) ts.length = x.2 := by simp [nmOf, atsOf]
theorem tyok_left {ts : TList} {x : ByteArray × List ByteArray} {i : Nat} (h : i < ts.length) (ht : TyOk ts i) : TyOk (ts ++ [x]) i := by
  obtain ⟨a, b⟩ := nm_left (x := x) h
  unfold TyOk at *
  rw [a, b, inB_congr (f' := nmOf ts) (fun j hj => (nm_left (x := x) (show j < ts.length by omega)).1)]
  exact ht
theorem tyok_back {ts : TList} {x : ByteArray × List ByteArray} {i : Nat} (h : i < ts.length) (ht : TyOk (ts ++ [x]) i) : TyOk ts i := by
  obtain ⟨a, b⟩ := nm_left (x := x) h
  unfold TyOk at *
  rw [a, b, inB_congr (f' := nmOf ts) (fun j hj => (nm_left (x := x) (show j < ts.length by omega)).1)] at ht
  exact ht
theorem tsok_snoc {ts : TList} {nm : ByteArray} (h : TsOk ts) (hl : ts.length < 16) (h1 : nameB nm = true) (h2 : inB ts.length (nmOf ts) nm = false) : TsOk (ts ++ [(nm, [])]) := by
  refine ⟨by simp; omega, fun i hi => ?_⟩
  have hi' : i < ts.length + 1 := by simpa using hi
  by_cases e : i = ts.length
  · subst e
    obtain ⟨a, b⟩ := nm_last ts (nm, [])
    unfold TyOk
    rw [a, b, inB_congr (f' := nmOf ts) (fun j hj => (nm_left (x := (nm, [])) hj).1)]
    exact ⟨h1, h2, by simp, fun j hj => by simp at hj⟩
  · exact tyok_left (by omega) (h.2 i (by omega))
theorem tsok_push {ts : TList} {nm x : ByteArray} {l : List ByteArray} (h : TsOk (ts ++ [(nm, l)])) (h8 : l.length ≠ 8) (h1 : nameB x = true) (h2 : (x.toList == [116, 115]) = false) (h3 : inB l.length (fun j => l.getD j .empty) x = false) : TsOk (ts ++ [(nm, l ++ [x])]) := by
  obtain ⟨hn, hall⟩ := h
  refine ⟨by simpa using hn, fun i hi => ?_⟩
  have hi' : i < ts.length + 1 := by simpa using hi
  by_cases e : i = ts.length
  · subst e
    have ho := hall ts.length (by simp)
    obtain ⟨a, b⟩ := nm_last ts (nm, l)
    obtain ⟨a', b'⟩ := nm_last ts (nm, l ++ [x])
    unfold TyOk at ho ⊢
    rw [a, b, inB_congr (f' := nmOf ts) (fun j hj => (nm_left (x := (nm, l)) hj).1)] at ho
    dsimp only at ho
    rw [a', b', inB_congr (f' := nmOf ts) (fun j hj => (nm_left (x := (nm, l ++ [x])) hj).1)]
    dsimp only
    obtain ⟨o1, o2, o3, o4⟩ := ho
    have hg : ∀ j, j < l.length → (l ++ [x]).getD j .empty = l.getD j .empty := fun j hj => by simp only [List.getD_eq_getElem?_getD, List.getElem?_append_left hj]
    refine ⟨o1, o2, by simp only [List.length_append, List.length_singleton]; omega, fun j hj => ?_⟩
    have hj' : j < l.length + 1 := by simpa using hj
    have hi2 : inB j (fun k => (l ++ [x]).getD k .empty) ((l ++ [x]).getD j .empty) = inB j (fun k => l.getD k .empty) ((l ++ [x]).getD j .empty) := inB_congr fun k hk => hg k (by omega)
    show _ ∧ _ ∧ inB j (fun k => (l ++ [x]).getD k .empty) ((l ++ [x]).getD j .empty) = false
    rw [hi2]
    by_cases e2 : j = l.length
    · subst e2
      have : (l ++ [x]).getD l.length .empty = x := by simp
      rw [this]
      exact ⟨h1, h2, h3⟩
    · rw [hg j (by omega)]
      exact o4 j (by omega)
  · exact tyok_left (by omega) (tyok_back (by omega) (hall i (by simp; omega)))
theorem tsok_sch {ts : TList} (h : TsOk ts) (h0 : ts ≠ []) : schErr (schOf ts) = 0 := by
  have hl : 0 < ts.length := List.length_pos_iff.2 h0
  exact sch_ok hl h.1 fun i hi => h.2 i hi
/-- Where the reading stands soundly. -/
structure GIn (st : Gst) : Prop where
  ok : TsOk st.ts
  room : st.want = 1 → st.ts.length < 16
  some_ : 2 ≤ st.want → st.ts ≠ []
theorem last_of {ts : TList} (h : ts ≠ []) : ∃ ts' nm l, ts = ts' ++ [(nm, l)] := by
  refine ⟨ts.dropLast, (ts.getLast h).1, (ts.getLast h).2, ?_⟩
  exact (List.dropLast_concat_getLast h).symm
theorem gin_attr {st : Gst} {w : ByteArray} (h : GIn st) (hw : 2 ≤ st.want) (h0 : gattr (lastA st.ts) w = 0) : GIn ⟨5, pushA st.ts w⟩ := by
  obtain ⟨ts', nm, l, e⟩ := last_of (h.some_ hw)
  have hok := h.ok
  rw [e] at hok h0 ⊢
  rw [lastA_snoc] at h0
  rw [pushA_snoc]
  unfold gattr at h0
  split at h0
  · cases h0
  split at h0
  · cases h0
  rename_i h8
  split at h0
  · cases h0
  rename_i h1
  split at h0
  · cases h0
  rename_i h3
  refine ⟨tsok_push hok h8 ?_ ?_ (Bool.eq_false_iff.2 h3), (fun h => by have h : (5 : Nat) = 1 := h; omega), fun _ => by simp⟩
  · cases hn : nameB w
    · exact absurd (Or.inl hn) h1
    · rfl
  · cases hn : (w.toList == [116, 115])
    · rfl
    · exact absurd (Or.inr hn) h1
theorem gin_word {st : Gst} {w : ByteArray} (h : GIn st) (h0 : (gword st w).1 = 0) : GIn (gword st w).2 := by
  obtain ⟨wt, ts⟩ := st
  match wt, h, h0 with
  | 0, h, h0 =>
    have h0 : (if (w.toList == [116, 121, 112, 101]) = false then (21 : Int) else if ts.length = 16 then 23 else 0) = 0 := h0
    split at h0
    · cases h0
    split at h0
    · cases h0
    rename_i h16
    have := h.ok.1
    exact ⟨h.ok, (fun _ => by show ts.length < 16; have : ts.length ≤ 16 := this; omega), fun h => by have h : 2 ≤ 1 := h; omega⟩
  | 1, h, h0 =>
    have h0 : gname ts w = 0 := h0
    unfold gname at h0
    split at h0
    · cases h0
    split at h0
    · cases h0
    rename_i hn
    split at h0
    · cases h0
    rename_i hi
    exact ⟨tsok_snoc h.ok (h.room rfl) (by simpa using hn) (Bool.eq_false_iff.2 hi), (fun h => by have h : (2 : Nat) = 1 := h; omega), fun _ => by simp [gword]⟩
  | 2, h, h0 => exact absurd h0 (by show (21 : Int) ≠ 0; decide)
  | 3, h, h0 => exact gin_attr h (by show 2 ≤ 3; omega) h0
  | 4, h, h0 => exact gin_attr h (by show 2 ≤ 4; omega) h0
  | n + 5, h, h0 => exact absurd h0 (by show (21 : Int) ≠ 0; decide)
theorem gin_mark {st : Gst} {c : Nat} (h : GIn st) (h0 : (gmark st c).1 = 0) : GIn (gmark st c).2 := by
  unfold gmark at h0 ⊢
  split
  · rename_i e
    exact ⟨h.ok, (fun h => by have h : (3 : Nat) = 1 := h; omega), fun _ => h.some_ (by omega)⟩
  · split
    · exact ⟨h.ok, (fun h => by have h : (0 : Nat) = 1 := h; omega), fun h => by have h : 2 ≤ 0 := h; omega⟩
    · split
      · rename_i e
        exact ⟨h.ok, (fun h => by have h : (4 : Nat) = 1 := h; omega), fun _ => h.some_ (by omega)⟩
      · exact h
theorem gin_step {s : ByteArray} {st : Gst} {p : Pce} (h : GIn st) (h0 : (gstep s st p).1 = 0) : GIn (gstep s st p).2 := by
  cases hw : p.wd
  · rw [gstep_mark hw] at h0 ⊢; exact gin_mark h h0
  · rw [gstep_word hw] at h0 ⊢; exact gin_word h h0
/-- What a reading ends with. -/
theorem gfin_says {s : ByteArray} : ∀ (L : List Pce) (st : Gst), (∀ p ∈ L, PceOk s p) → GIn st →
    ((gfin s st L).code ≠ 0 ∧ (gfin s st L).ts = [] ∧ (gfin s st L).pos ≤ s.size) ∨ ((gfin s st L).code = 0 ∧ (gfin s st L).pos = 0 ∧ schErr (schOf (gfin s st L).ts) = 0)
  | [], st, _, h => by
    unfold gfin gend
    split
    · exact Or.inl ⟨(by show (21 : Int) ≠ 0; decide), rfl, Nat.le_refl _⟩
    split
    · exact Or.inl ⟨(by show (23 : Int) ≠ 0; decide), rfl, Nat.le_refl _⟩
    · rename_i h0
      exact Or.inr ⟨rfl, rfl, tsok_sch h.ok (fun e => h0 (by have e : st.ts = [] := e; rw [e]; rfl))⟩
  | p :: L, st, hL, h => by
    unfold gfin
    split
    · rename_i h1
      have hp := hL p (by simp)
      exact Or.inl ⟨h1, rfl, by have := hp.lt; have := hp.le; show p.a ≤ s.size; omega⟩
    · rename_i h1
      have h1' : (gstep s st p).1 = 0 := Classical.byContradiction h1
      exact gfin_says L _ (fun p hp => hL p (by simp [hp])) (gin_step h h1')
theorem parse_says (s : ByteArray) : ((parseRes s).code ≠ 0 ∧ (parseRes s).ts = [] ∧ (parseRes s).pos ≤ s.size) ∨ ((parseRes s).code = 0 ∧ (parseRes s).pos = 0 ∧ schErr (schOf (parseRes s).ts) = 0) := by
  by_cases h : 4096 < s.size
  · rw [parseRes_long h]
    exact Or.inl ⟨(by show (20 : Int) ≠ 0; decide), rfl, by show 4096 ≤ s.size; omega⟩
  · rw [parseRes_rest h]
    exact gfin_says _ _ (cut_ok s 0) ⟨⟨by simp, fun i hi => by simp at hi⟩, (fun h => by have h : (0 : Nat) = 1 := h; omega), fun h => by have h : 2 ≤ 0 := h; omega⟩
/-! ### Lines -/
theorem place_le (s : ByteArray) (i : Nat) : placeN s (wordsE s 0) i ≤ s.size := by
  by_cases h : i < (wordsE s 0).length
  · rw [place_in h]
    have := wok_words s i h
    omega
  · rw [place_out h]
    exact Nat.le_refl _
theorem head_range {S : Sch} {s : ByteArray} {L : List Pce} {ts : Int} {id ty : Nat} (h : headR S s L = ⟨0, 0, ts, id, ty⟩) : ¬ (ts < -1152921504606846976 ∨ 1152921504606846976 < ts) ∧ id ≤ 18446744073709551615 := by
  cases hn : numT (wtx s L 0) with
  | none => rw [headR_ts hn] at h; injection h with h; cases h
  | some t =>
    by_cases hr : t < -1152921504606846976 ∨ 1152921504606846976 < t
    · rw [headR_range hn hr] at h; injection h with h; cases h
    cases hi : idT (wtx s L 1) with
    | none => rw [headR_id hn hr hi] at h; injection h with h; cases h
    | some u =>
      by_cases h3 : L.length < 3
      · rw [headR_three hn hr hi h3] at h; injection h with h; cases h
      by_cases h4 : typeI S (wtx s L 2) < 0
      · rw [headR_type hn hr hi h3 h4] at h; injection h with h; cases h
      rw [headR_ok hn hr hi h3 h4] at h
      injection h with _ _ e1 e2 _
      subst e1 e2
      exact ⟨hr, idL_le hi⟩
theorem val_range (s : ByteArray) (L : List Pce) (n j : Nat) : -9223372036854775808 ≤ attrV s L n j ∧ attrV s L n j ≤ 9223372036854775807 := by
  unfold attrV
  split
  · cases h : numT (wtx s L (3 + j)) with
    | none => simp
    | some v => exact numL_range h
  · omega
/-- What a line's reading ends with. -/
theorem line_says (S : Sch) (s : ByteArray) : (∃ c p, evRes S s = evBad c p ∧ c ≠ 0 ∧ p ≤ s.size) ∨
    (∃ (ts : Int) (id ty : Nat) (a : Nat → Int), evRes S s = ⟨0, 0, ts, id, ty, a⟩ ∧ evErr S ts ty a = 0 ∧ (-9223372036854775808 ≤ ts ∧ ts ≤ 9223372036854775807) ∧ (0 ≤ (id : Int) ∧ (id : Int) ≤ 18446744073709551615) ∧ ∀ j, j < 8 → -9223372036854775808 ≤ a j ∧ a j ≤ 9223372036854775807) := by
  by_cases hS : schErr S = 0
  · by_cases hh : (headR S s (wordsE s 0)).code = 0
    · obtain ⟨ts, id, ty, hH, hty⟩ := head_parts hh
      obtain ⟨hr, hid⟩ := head_range hH
      by_cases ha : (attrsR s (wordsE s 0) (S.ln ty) 0).1 = 0
      · refine Or.inr ⟨ts, id, ty, attrV s (wordsE s 0) (S.ln ty), ?_, ?_, by omega, by omega, fun j _ => val_range _ _ _ _⟩
        · unfold evRes
          rw [if_neg (by rw [hS]; simp), hH, if_neg (by simp)]
          dsimp only
          rw [if_neg (by rw [ha]; simp)]
        · refine evErr_ok hS hty ?_ hr
          refine tailB_none fun j hj _ => ?_
          unfold attrV
          rw [if_neg (by omega)]
          rfl
      · exact Or.inl ⟨_, _, evRes_attrs rfl hS hH (c := (attrsR s (wordsE s 0) (S.ln ty) 0).1) (k := (attrsR s (wordsE s 0) (S.ln ty) 0).2) rfl ha, ha, place_le _ _⟩
    · exact Or.inl ⟨_, _, evRes_head rfl hS hh, hh, place_le _ _⟩
  · exact Or.inl ⟨_, _, evRes_sch hS, hS, Nat.zero_le _⟩
end Go.Proofs.YtppeonlpocdhkaaDoor

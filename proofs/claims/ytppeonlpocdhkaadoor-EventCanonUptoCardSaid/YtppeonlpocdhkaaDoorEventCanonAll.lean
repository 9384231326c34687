/-
  Several texts in one: CanonPlain, EventCanonWalk, TabCells.
-/
import Derived.Test.YtppeonlpocdhkaaDoorBacks
import Derived.Test.YtppeonlpocdhkaaDoorPrintSchema
import Derived.Test.YtppeonlpocdhkaaDoorPrintEvent
import Derived.Test.YtppeonlpocdhkaaDoorCheckEvent
import Derived.Test.YtppeonlpocdhkaaDoorSchemaSame
import Derived.Test.YtppeonlpocdhkaaDoorKwVar
import Derived.Test.YtppeonlpocdhkaaDoorPowVar
import Derived.Laws.StructEq
import Derived.Laws.Rows
import Derived.Deep.CutRange
import Derived.BigQuiet
import Derived.Deep.QuietTactic
import Derived.Test.YtppeonlpocdhkaaDoorKit
set_option linter.unusedVariables false
set_option linter.unusedSimpArgs false
/-! ### What is read from a text is sound, or is refused at a place in the text. -/
namespace Go.Proofs.YtppeonlpocdhkaaDoor
open Go.RowKit
/-- A type that may stand at place i of ts. -/
def TyOk (ts : TList) (i : Nat) : Prop := nameB (nmOf ts i) = true ∧ inB i (nmOf ts) (nmOf ts i) = false ∧ (atsOf ts i).length ≤ 8 ∧ ∀ j, j < (atsOf ts i).length → nameB ((atsOf ts i).getD j .empty) = true ∧ (((atsOf ts i).getD j .empty).toList == [116, 115]) = false ∧ inB j (fun j => (atsOf ts i).getD j .empty) ((atsOf ts i).getD j .empty) = false
def TsOk (ts : TList) : Prop := ts.length ≤ 16 ∧ ∀ i, i < ts.length → TyOk ts i
theorem nm_left {ts : TList} {x : ByteArray × List ByteArray} {i : Nat} (h : i < ts.length) : nmOf (ts ++ [x]) i = nmOf ts i ∧ atsOf (ts ++ [x]) i = atsOf ts i := by
  simp only [nmOf, atsOf, List.getD_eq_getElem?_getD, List.getElem?_append_left h]
  exact ⟨trivial, trivial⟩
theorem nm_last (ts : TList) (x : ByteArray × List ByteArray) : nmOf (ts ++ [x]) ts.length = x.1 ∧ atsOf (ts ++ [x]) ts.length = x.2 := by simp [nmOf, atsOf]
theorem tyok_left {ts : TList} {x : ByteArray × List ByteArray} {i : Nat} (h : i < ts.length) (ht : TyOk ts i) : TyOk (ts ++ [x]) i := by
  obtain ⟨a, b⟩ := nm_left (x := x) h
  unfold TyOk at *
  rw [a, b, inB_congr (f' := nmOf ts) (fun j hj => (nm_left (x := x) (show j < ts.length by omega)).1)]
  exact ht
theorem tyok_back {ts : TList} {x : ByteArray × List ByteArray} {i : Nat} (h : i < ts.length) (ht : TyOk (ts ++ [x]) i) : TyOk ts i := by
  obtain ⟨a, b⟩ := nm_left (x := x) h
  unfold TyOk at *
  rw [a, b, inB_congr (f' := nmOf ts) (fun j hj => (nm_left (x := x) (show j < ts.length by omega)).1)] at ht
  exact ht
theorem tsok_snoc {ts : TList} {nm : ByteArray} (h : TsOk ts) (hl : ts.length < 16) (h1 : nameB nm = true) (h2 : inB ts.length (nmOf ts) nm = false) : TsOk (ts ++ [(nm, [])]) := by
  refine ⟨by simp; omega, fun i hi => ?_⟩
  have hi' : i < ts.length + 1 := by simpa using hi
  by_cases e : i = ts.length
  · subst e
    obtain ⟨a, b⟩ := nm_last ts (nm, [])
    unfold TyOk
    rw [a, b, inB_congr (f' := nmOf ts) (fun j hj => (nm_left (x := (nm, [])) hj).1)]
    exact ⟨h1, h2, by simp, fun j hj => by simp at hj⟩
  · exact tyok_left (by omega) (h.2 i (by omega))
theorem tsok_push {ts : TList} {nm x : ByteArray} {l : List ByteArray} (h : TsOk (ts ++ [(nm, l)])) (h8 : l.length ≠ 8) (h1 : nameB x = true) (h2 : (x.toList == [116, 115]) = false) (h3 : inB l.length (fun j => l.getD j .empty) x = false) : TsOk (ts ++ [(nm, l ++ [x])]) := by
  obtain ⟨hn, hall⟩ := h
  refine ⟨by simpa using hn, fun i hi => ?_⟩
  have hi' : i < ts.length + 1 := by simpa using hi
  by_cases e : i = ts.length
  · subst e
    have ho := hall ts.length (by simp)
    obtain ⟨a, b⟩ := nm_last ts (nm, l)
    obtain ⟨a', b'⟩ := nm_last ts (nm, l ++ [x])
    unfold TyOk at ho ⊢
    rw [a, b, inB_congr (f' := nmOf ts) (fun j hj => (nm_left (x := (nm, l)) hj).1)] at ho
    dsimp only at ho
    rw [a', b', inB_congr (f' := nmOf ts) (fun j hj => (nm_left (x := (nm, l ++ [x])) hj).1)]
    dsimp only
    obtain ⟨o1, o2, o3, o4⟩ := ho
    have hg : ∀ j, j < l.length → (l ++ [x]).getD j .empty = l.getD j .empty := fun j hj => by simp only [List.getD_eq_getElem?_getD, List.getElem?_append_left hj]
    refine ⟨o1, o2, by simp only [List.length_append, List.length_singleton]; omega, fun j hj => ?_⟩
    have hj' : j < l.length + 1 := by simpa using hj
    have hi2 : inB j (fun k => (l ++ [x]).getD k .empty) ((l ++ [x]).getD j .empty) = inB j (fun k => l.getD k .empty) ((l ++ [x]).getD j .empty) := inB_congr fun k hk => hg k (by omega)
    show _ ∧ _ ∧ inB j (fun k => (l ++ [x]).getD k .empty) ((l ++ [x]).getD j .empty) = false
    rw [hi2]
    by_cases e2 : j = l.length
    · subst e2
      have : (l ++ [x]).getD l.length .empty = x := by simp
      rw [this]
      exact ⟨h1, h2, h3⟩
    · rw [hg j (by omega)]
      exact o4 j (by omega)
  · exact tyok_left (by omega) (tyok_back (by omega) (hall i (by simp; omega)))
theorem tsok_sch {ts : TList} (h : TsOk ts) (h0 : ts ≠ []) : schErr (schOf ts) = 0 := by
  have hl : 0 < ts.length := List.length_pos_iff.2 h0
  exact sch_ok hl h.1 fun i hi => h.2 i hi
/-- Where the reading stands soundly. -/
structure GIn (st : Gst) : Prop where
  ok : TsOk st.ts
  room : st.want = 1 → st.ts.length < 16
  some_ : 2 ≤ st.want → st.ts ≠ []
theorem last_of {ts : TList} (h : ts ≠ []) : ∃ ts' nm l, ts = ts' ++ [(nm, l)] := by
  refine ⟨ts.dropLast, (ts.getLast h).1, (ts.getLast h).2, ?_⟩
  exact (List.dropLast_concat_getLast h).symm
theorem gin_attr {st : Gst} {w : ByteArray} (h : GIn st) (hw : 2 ≤ st.want) (h0 : gattr (lastA st.ts) w = 0) : GIn ⟨5, pushA st.ts w⟩ := by
  obtain ⟨ts', nm, l, e⟩ := last_of (h.some_ hw)
  have hok := h.ok
  rw [e] at hok h0 ⊢
  rw [lastA_snoc] at h0
  rw [pushA_snoc]
  unfold gattr at h0
  split at h0
  · cases h0
  split at h0
  · cases h0
  rename_i h8
  split at h0
  · cases h0
  rename_i h1
  split at h0
  · cases h0
  rename_i h3
  refine ⟨tsok_push hok h8 ?_ ?_ (Bool.eq_false_iff.2 h3), (fun h => by have h : (5 : Nat) = 1 := h; omega), fun _ => by simp⟩
  · cases hn : nameB w
    · exact absurd (Or.inl hn) h1
    · rfl
  · cases hn : (w.toList == [116, 115])
    · rfl
    · exact absurd (Or.inr hn) h1
theorem gin_word {st : Gst} {w : ByteArray} (h : GIn st) (h0 : (gword st w).1 = 0) : GIn (gword st w).2 := by
  obtain ⟨wt, ts⟩ := st
  match wt, h, h0 with
  | 0, h, h0 =>
    have h0 : (if (w.toList == [116, 121, 112, 101]) = false then (21 : Int) else if ts.length = 16 then 23 else 0) = 0 := h0
    split at h0
    · cases h0
    split at h0
    · cases h0
    rename_i h16
    have := h.ok.1
    exact ⟨h.ok, (fun _ => by show ts.length < 16; have : ts.length ≤ 16 := this; omega), fun h => by have h : 2 ≤ 1 := h; omega⟩
  | 1, h, h0 =>
    have h0 : gname ts w = 0 := h0
    unfold gname at h0
    split at h0
    · cases h0
    split at h0
    · cases h0
    rename_i hn
    split at h0
    · cases h0
    rename_i hi
    exact ⟨tsok_snoc h.ok (h.room rfl) (by simpa using hn) (Bool.eq_false_iff.2 hi), (fun h => by have h : (2 : Nat) = 1 := h; omega), fun _ => by simp [gword]⟩
  | 2, h, h0 => exact absurd h0 (by show (21 : Int) ≠ 0; decide)
  | 3, h, h0 => exact gin_attr h (by show 2 ≤ 3; omega) h0
  | 4, h, h0 => exact gin_attr h (by show 2 ≤ 4; omega) h0
  | n + 5, h, h0 => exact absurd h0 (by show (21 : Int) ≠ 0; decide)
theorem gin_mark {st : Gst} {c : Nat} (h : GIn st) (h0 : (gmark st c).1 = 0) : GIn (gmark st c).2 := by
  unfold gmark at h0 ⊢
  split
  · rename_i e
    exact ⟨h.ok, (fun h => by have h : (3 : Nat) = 1 := h; omega), fun _ => h.some_ (by omega)⟩
  · split
    · exact ⟨h.ok, (fun h => by have h : (0 : Nat) = 1 := h; omega), fun h => by have h : 2 ≤ 0 := h; omega⟩
    · split
      · rename_i e
        exact ⟨h.ok, (fun h => by have h : (4 : Nat) = 1 := h; omega), fun _ => h.some_ (by omega)⟩
      · exact h
theorem gin_step {s : ByteArray} {st : Gst} {p : Pce} (h : GIn st) (h0 : (gstep s st p).1 = 0) : GIn (gstep s st p).2 := by
  cases hw : p.wd
  · rw [gstep_mark hw] at h0 ⊢; exact gin_mark h h0
  · rw [gstep_word hw] at h0 ⊢; exact gin_word h h0
/-- What a reading ends with. -/
theorem gfin_says {s : ByteArray} : ∀ (L : List Pce) (st : Gst), (∀ p ∈ L, PceOk s p) → GIn st →
    ((gfin s st L).code ≠ 0 ∧ (gfin s st L).ts = [] ∧ (gfin s st L).pos ≤ s.size) ∨ ((gfin s st L).code = 0 ∧ (gfin s st L).pos = 0 ∧ schErr (schOf (gfin s st L).ts) = 0)
  | [], st, _, h => by
    unfold gfin gend
    split
    · exact Or.inl ⟨(by show (21 : Int) ≠ 0; decide), rfl, Nat.le_refl _⟩
    split
    · exact Or.inl ⟨(by show (23 : Int) ≠ 0; decide), rfl, Nat.le_refl _⟩
    · rename_i h0
      exact Or.inr ⟨rfl, rfl, tsok_sch h.ok (fun e => h0 (by have e : st.ts = [] := e; rw [e]; rfl))⟩
  | p :: L, st, hL, h => by
    unfold gfin
    split
    · rename_i h1
      have hp := hL p (by simp)
      exact Or.inl ⟨h1, rfl, by have := hp.lt; have := hp.le; show p.a ≤ s.size; omega⟩
    · rename_i h1
      have h1' : (gstep s st p).1 = 0 := Classical.byContradiction h1
      exact gfin_says L _ (fun p hp => hL p (by simp [hp])) (gin_step h h1')
theorem parse_says (s : ByteArray) : ((parseRes s).code ≠ 0 ∧ (parseRes s).ts = [] ∧ (parseRes s).pos ≤ s.size) ∨ ((parseRes s).code = 0 ∧ (parseRes s).pos = 0 ∧ schErr (schOf (parseRes s).ts) = 0) := by
  by_cases h : 4096 < s.size
  · rw [parseRes_long h]
    exact Or.inl ⟨(by show (20 : Int) ≠ 0; decide), rfl, by show 4096 ≤ s.size; omega⟩
  · rw [parseRes_rest h]
    exact gfin_says _ _ (cut_ok s 0) ⟨⟨by simp, fun i hi => by simp at hi⟩, (fun h => by have h : (0 : Nat) = 1 := h; omega), fun h => by have h : 2 ≤ 0 := h; omega⟩
/-! ### Lines -/
theorem place_le (s : ByteArray) (i : Nat) : placeN s (wordsE s 0) i ≤ s.size := by
  by_cases h : i < (wordsE s 0).length
  · rw [place_in h]
    have := wok_words s i h
    omega
  · rw [place_out h]
    exact Nat.le_refl _
theorem head_range {S : Sch} {s : ByteArray} {L : List Pce} {ts : Int} {id ty : Nat} (h : headR S s L = ⟨0, 0, ts, id, ty⟩) : ¬ (ts < -1152921504606846976 ∨ 1152921504606846976 < ts) ∧ id ≤ 18446744073709551615 := by
  cases hn : numT (wtx s L 0) with
  | none => rw [headR_ts hn] at h; injection h with h; cases h
  | some t =>
    by_cases hr : t < -1152921504606846976 ∨ 1152921504606846976 < t
    · rw [headR_range hn hr] at h; injection h with h; cases h
    cases hi : idT (wtx s L 1) with
    | none => rw [headR_id hn hr hi] at h; injection h with h; cases h
    | some u =>
      by_cases h3 : L.length < 3
      · rw [headR_three hn hr hi h3] at h; injection h with h; cases h
      by_cases h4 : typeI S (wtx s L 2) < 0
      · rw [headR_type hn hr hi h3 h4] at h; injection h with h; cases h
      rw [headR_ok hn hr hi h3 h4] at h
      injection h with _ _ e1 e2 _
      subst e1 e2
      exact ⟨hr, idL_le hi⟩
theorem val_range (s : ByteArray) (L : List Pce) (n j : Nat) : -9223372036854775808 ≤ attrV s L n j ∧ attrV s L n j ≤ 9223372036854775807 := by
  unfold attrV
  split
  · cases h : numT (wtx s L (3 + j)) with
    | none => simp
    | some v => exact numL_range h
  · omega
/-- What a line's reading ends with. -/
theorem line_says (S : Sch) (s : ByteArray) : (∃ c p, evRes S s = evBad c p ∧ c ≠ 0 ∧ p ≤ s.size) ∨
    (∃ (ts : Int) (id ty : Nat) (a : Nat → Int), evRes S s = ⟨0, 0, ts, id, ty, a⟩ ∧ evErr S ts ty a = 0 ∧ (-9223372036854775808 ≤ ts ∧ ts ≤ 9223372036854775807) ∧ (0 ≤ (id : Int) ∧ (id : Int) ≤ 18446744073709551615) ∧ ∀ j, j < 8 → -9223372036854775808 ≤ a j ∧ a j ≤ 9223372036854775807) := by
  by_cases hS : schErr S = 0
  · by_cases hh : (headR S s (wordsE s 0)).code = 0
    · obtain ⟨ts, id, ty, hH, hty⟩ := head_parts hh
      obtain ⟨hr, hid⟩ := head_range hH
      by_cases ha : (attrsR s (wordsE s 0) (S.ln ty) 0).1 = 0
      · refine Or.inr ⟨ts, id, ty, attrV s (wordsE s 0) (S.ln ty), ?_, ?_, by omega, by omega, fun j _ => val_range _ _ _ _⟩
        · unfold evRes
          rw [if_neg (by rw [hS]; simp), hH, if_neg (by simp)]
          dsimp only
          rw [if_neg (by rw [ha]; simp)]
        · refine evErr_ok hS hty ?_ hr
          refine tailB_none fun j hj _ => ?_
          unfold attrV
          rw [if_neg (by omega)]
          rfl
      · exact Or.inl ⟨_, _, evRes_attrs rfl hS hH (c := (attrsR s (wordsE s 0) (S.ln ty) 0).1) (k := (attrsR s (wordsE s 0) (S.ln ty) 0).2) rfl ha, ha, place_le _ _⟩
    · exact Or.inl ⟨_, _, evRes_head rfl hS hh, hh, place_le _ _⟩
  · exact Or.inl ⟨_, _, evRes_sch hS, hS, Nat.zero_le _⟩
end Go.Proofs.YtppeonlpocdhkaaDoor

/-! ### The walk of the law EventCanon. -/
namespace Go.Proofs.YtppeonlpocdhkaaDoor
open Go.RowKit Go.ChangeShapes Go.WideShapes Go.ChangeAt Go.Deep
/-- What the bound gives of a string among what comes in. -/
theorem bulk_mem {H : Type} {d : DataW H} {l : List (DataW H)} (h : d ∈ l) : Rows.uptoBulk d ≤ Rows.uptoBulkAll l := by
  induction l with
  | nil => cases h
  | cons x r ih =>
    simp only [Rows.uptoBulkAll]
    rcases List.mem_cons.1 h with e | e
    · subst e; omega
    · have := ih e; omega
theorem bulk_string {H : Type} {s : ByteArray} {l : List (DataW H)} (hk : Rows.uptoSmall H l = true) (h : DataW.lit (.string s.data.toList) ∈ l) : s.size ≤ 1048576 := by
  have h1 : Rows.uptoBulkAll l ≤ 1048576 := of_decide_eq_true hk
  have h2 := bulk_mem h
  simp only [Rows.uptoBulk] at h2
  have e : s.data.toList.length = s.size := rfl
  omega
/-- What ParseSchema makes of a print. -/
theorem parsed_print {S : Sch} (hS : schErr S = 0) {w w' : World} {e : Ending} (h : PsEnd w w' (schOut S) e) : ∃ A c, e = .returned (.tuple #[.agg #[.slice A S.n c], .int .i64 0, .int .i64 0]) ∧ Below w.heap.size w w' ∧ TypOwn w' w.heap.size (.slice A S.n c) S := by
  obtain ⟨A, c, rfl, hb, ho⟩ := h
  rw [print_back hS] at ho ⊢
  have h1 := ho.congr (tsR_eq S)
  have h2 : (schOf (tsR S S.n)).n = S.n := by simp [schOf, tsR]
  rw [h2] at h1
  have h3 : (tsR S S.n).length = S.n := tsR_length S S.n
  dsimp only
  rw [h3]
  exact ⟨A, c, rfl, hb, h1⟩
/-- What ParseEvent makes of an event's line. -/
theorem parsed_event {S : Sch} {ts id : Int} {k : Nat} {a : Nat → Int} (hE : evErr S ts k a = 0) (w0 : -9223372036854775808 ≤ ts ∧ ts ≤ 9223372036854775807) (w1 : 0 ≤ id ∧ id ≤ 18446744073709551615) (wa : ∀ j, j < 8 → -9223372036854775808 ≤ a j ∧ a j ≤ 9223372036854775807)
    {e : Ending} (h : EvEnd S (evText S ts id k a (S.ln k)) e) : e = .returned (.tuple #[.agg (evCells ts id k a), .int .i64 0, .int .i64 0]) := by
  obtain ⟨f, h1, h2⟩ := event_back hE w0 w1 wa
  unfold EvEnd at h
  rw [h1] at h
  dsimp only at h
  rw [h, ev_ext h2, show ((id.toNat : Nat) : Int) = id by omega]
  rfl
theorem line_size {S : Sch} {ts id : Int} {k : Nat} {a : Nat → Int} (hE : evErr S ts k a = 0) (w0 : -9223372036854775808 ≤ ts ∧ ts ≤ 9223372036854775807) (w1 : 0 ≤ id ∧ id ≤ 18446744073709551615) (wa : ∀ j, j < 8 → -9223372036854775808 ≤ a j ∧ a j ≤ 9223372036854775807) : (evText S ts id k a (S.ln k)).size ≤ 1048576 := by
  obtain ⟨hS, k', hk', hk⟩ := evErr_zero hE
  obtain rfl : k' = k := by omega
  obtain ⟨hn, _, hl8, _⟩ := (sch_zero hS).2.2 k' hk
  have := evText_size (S := S) (ts := ts) (id := id) (k := k') (a := a) (dec_size w0.1 w0.2) (decU_size w1.1 w1.2) (nameB_size hn) (fun j hj => dec_size (wa j hj).1 (wa j hj).2) (S.ln k') hl8
  omega
theorem end_line {S : Sch} {s : ByteArray} {e : Ending} (h : EvEnd S s e) :
    (∃ (c : Int) (p : Nat), e = .returned (.tuple #[.agg #[.int .i64 0, .int .u64 0, .int .i64 0, .int .i64 0, .int .i64 0, .int .i64 0, .int .i64 0, .int .i64 0, .int .i64 0, .int .i64 0, .int .i64 0], .int .i64 c, .int .i64 p]) ∧ c ≠ 0 ∧ p ≤ s.size) ∨
    (∃ (ts : Int) (id ty : Nat) (a : Nat → Int), e = .returned (.tuple #[.agg #[.int .i64 ts, .int .u64 (id : Nat), .int .i64 (ty : Nat), .int .i64 (a 0), .int .i64 (a 1), .int .i64 (a 2), .int .i64 (a 3), .int .i64 (a 4), .int .i64 (a 5), .int .i64 (a 6), .int .i64 (a 7)], .int .i64 0, .int .i64 0]) ∧ evErr S ts ty a = 0 ∧ (-9223372036854775808 ≤ ts ∧ ts ≤ 9223372036854775807) ∧ (0 ≤ (id : Int) ∧ (id : Int) ≤ 18446744073709551615) ∧ ∀ j, j < 8 → -9223372036854775808 ≤ a j ∧ a j ≤ 9223372036854775807) := by
  unfold EvEnd at h
  rcases line_says S s with ⟨c, p, h1, h2, h3⟩ | ⟨ts, id, ty, a, h1, h2⟩
  · rw [h1] at h
    exact Or.inl ⟨c, p, h, h2, h3⟩
  · rw [h1] at h
    exact Or.inr ⟨ts, id, ty, a, h, h2⟩
set_option maxRecDepth 100000 in
set_option maxHeartbeats 4000000 in
theorem eventCanon_walk (s line : ByteArray) (hline : line.size ≤ 1048576) (w : World) (hv : ErrV w) (hp : Pow w) {tt : TypeId} {fr : Nat × Nat} (hkw : w.heap[0]? = some (.cells kwArr tt fr)) :
    Calls Tryd.prog 11 #[.string s, .string line] w fun e w' => e = .returned (.bool true) ∧ Below w.heap.size w w' := by
  have HK := Lib.hid hkw
  have HV := Lib.hid hv
  have HP := Lib.hid hp
  clear hkw hv hp
  go_enter Tryd.func11, Tryd.ntmps11
  go_wp2_with fail
  refine (started_any _ HV.out HK.out).mono ?_
  rintro e w2 ⟨rfl, hb2⟩
  go_wp2_with fail
  refine (parseSchema_any s _ (block_below HK.out hb2)).mono ?_
  rintro e w3 ⟨A, c, rfl, hb23, ho3⟩
  have hsay := parse_says s
  generalize parseRes s = R at *
  obtain ⟨rc, rp, ts0⟩ := R
  dsimp only at hsay ho3 ⊢
  have hb3 := bcall hb2 hb23
  rcases hsay with ⟨hc, rfl, hpos⟩ | ⟨rfl, rfl, hS⟩
  · have hcc : (rc != 0) = true := by rw [bne_iff_ne]; exact hc
    have x4 : (w3.alloc (.cells #[.slice A (List.length ([] : TList)) c] 25)).cell? ⟨w3.heap.size, 0, none⟩ = some (.slice A (List.length ([] : TList)) c) := by simp [go_sem]
    have hb4 := bnew hb3 (.cells #[.slice A (List.length ([] : TList)) c] 25)
    go_wp2_with fail
    go_ret
    exact ⟨ret_bool (by first | (simp; done) | (simp; omega)), hb4⟩
  · have hSn : (schOf ts0).n = ts0.length := rfl
    obtain ⟨S, hSe⟩ : ∃ S, schOf ts0 = S := ⟨_, rfl⟩
    rw [hSe] at ho3 hS hSn
    rw [← hSn]
    have hb4 := bnew hb3 (.cells #[.slice A S.n c] 25)
    have HO4 := Lib.hid (ho3.below (bnew (Below.refl _ _) (.cells #[.slice A S.n c] 25)))
    have x4 : (w3.alloc (.cells #[.slice A S.n c] 25)).cell? ⟨w3.heap.size, 0, none⟩ = some (.slice A S.n c) := by simp [go_sem]
    have hz4 : w3.heap.size < (w3.alloc (.cells #[.slice A S.n c] 25)).heap.size := by simp
    have HT4 := Lib.hid HO4.out.rd
    have HC4 := Lib.hid HO4.out.caps
    have hn4 := HT4.out.1
    clear ho3 hSe hSn HO4
    obtain ⟨sb, hsb⟩ : ∃ sb, w3.heap.size = sb := ⟨_, rfl⟩
    go_upto_region 4 with fail
    generalize w3.alloc _ = w4 at *
    rw [hsb] at x4 hz4
    go_wp2_with fail
    refine (printSchema_any A c S _ HT4.out HC4.out (block_below HK.out hb4)).mono ?_
    rw [hS]
    rintro e w5 ⟨rfl, hb45⟩
    have hb5 := bcall hb4 hb45
    have x5 := rd_later x4 hb45
    go_wp2_with fail
    refine (parseSchema_any (schOut S) _ (block_below HK.out hb5)).mono ?_
    intro e w6 hend
    obtain ⟨A6, c6, rfl, hb56, ho6⟩ := parsed_print hS hend
    clear hend
    have hb46 := bcall hb45 hb56
    have hb6 := bcall hb5 hb56
    have HO7 := Lib.hid (ho6.below (bnew (Below.refl _ _) (.cells #[.slice A6 S.n c6] 25)))
    have HT7 := Lib.hid HO7.out.rd
    have HC7 := Lib.hid HO7.out.caps
    have hb7 := bnew hb6 (.cells #[.slice A6 S.n c6] 25)
    have hb47 := bnew hb46 (.cells #[.slice A6 S.n c6] 25)
    have x7 := cell_alloc (rd_later x5 hb56) (.cells #[.slice A6 S.n c6] 25)
    have t7 : (w6.alloc (.cells #[.slice A6 S.n c6] 25)).cell? ⟨w6.heap.size, 0, none⟩ = some (.slice A6 S.n c6) := by simp [go_sem]
    clear ho6 x4 x5 HO7
    obtain ⟨text, htx⟩ : ∃ text, schOut S = text := ⟨_, rfl⟩
    have HTX := Lib.hid htx
    rw [htx]
    clear htx
    obtain ⟨tb, htb⟩ : ∃ tb, w6.heap.size = tb := ⟨_, rfl⟩
    go_upto_region 8 with fail
    generalize w6.alloc _ = w7 at *
    rw [htb] at t7
    go_wp2_with fail
    refine (printSchema_any A6 c6 S _ HT7.out HC7.out (block_below HK.out hb7)).mono ?_
    rw [HTX.out, hS]
    rintro e w8 ⟨rfl, hb78⟩
    have hb48 := bcall hb47 hb78
    have hb8 := bcall hb7 hb78
    have x8 := rd_later x7 hb78
    have t8 := rd_later t7 hb78
    have HT8 := Lib.hid (HT7.out.later hb78)
    clear x7 t7 HC7 HC4 HT7
    go_wp2_with fail
    refine (checkSchema_any A c S _ (HT4.out.later hb48) (block_below HK.out hb8)).mono ?_
    rw [hS]
    rintro e w9 ⟨rfl, hb89⟩
    have hb49 := bcall hb48 hb89
    have hb9 := bcall hb8 hb89
    have x9 := rd_later x8 hb89
    have t9 := rd_later t8 hb89
    clear x8 t8
    go_wp2_with fail
    refine (sameSchema_same A A6 c c6 S _ (HT4.out.later hb49) (HT8.out.later hb89)).mono ?_
    rintro e w10 ⟨rfl, hb910⟩
    have hb410 := bcall hb49 hb910
    have hb10 := bcall hb9 hb910
    have x10 := rd_later x9 hb910
    have HS := Lib.hid hS
    clear x9 t9 hS HT8
    go_wp2_with fail
    go_loopw [15] (fun i wr => ∃ k : Nat, k ≤ S.n ∧ i = .int .i64 k ∧ Below w10.heap.size w10 wr) (fun i _ => S.n - (intOf i).toNat)
    case atStart => exact ⟨0, Nat.zero_le _, rfl, Below.refl _ _⟩
    case round =>
      obtain ⟨k, hk, rfl, hbr⟩ := hrel
      obtain ⟨w11, e11⟩ : ∃ w11 : World, w11 = wr := ⟨_, rfl⟩
      subst e11
      have hb11 := bcall hb10 hbr
      have hb411 := bcall hb410 hbr
      have x11 := rd_later x10 hbr
      by_cases hlt : k < S.n
      · obtain ⟨b, off, rfl, hbl, hcs⟩ := HT4.out.2 (by omega)
        obtain ⟨c0, _⟩ := hcs k hlt
        have c11 := (hb411.cell (p := ⟨b, off + k * 2, none⟩) hbl).trans c0
        have hpl : typeI S (S.nm k) = k := place_once (f := S.nm) hlt ((sch_zero HS.out).2.2 k hlt).2.1
        have HPL := Lib.hid hpl
        have HD : Hid (TypRd w11.drew w11.drew.heap.size (some ⟨b, off, none⟩) S) := Lib.hid (HT4.out.later hb411.drew)
        clear hcs c0 hpl
        go_upto_region 14 with fail
        go_cut [106] from 90 to 106 (fun v wx => v = .bool false ∧ Below w11.heap.size w11 wx)
        case first =>
          go_region_with (go_at_call 31; refine (typeOf_any (some ⟨b, off, none⟩) c S (S.nm k) _ HD.out).mono ?_; rw [HPL.out]; rintro e wz ⟨rfl, hbz⟩)
          all_goals
            go_wp2_with fail
            go_meet
            exact ⟨by simp, bcall (Below.refl _ _).drew hbz⟩
        case rest =>
        obtain ⟨rfl, hb12⟩ := hcut
        go_wp2_with fail
        go_roundw
        case rel => exact ⟨k + 1, hlt, by go_num, bcall hbr hb12⟩
        case measure => simp [intOf]; omega
      · obtain rfl : k = S.n := by omega
        go_wp2_with fail
        refine (parseEvent_any line hline A c S _ (HT4.out.later hb411) (HV.out.later hb11) (block_below HK.out hb11)).mono ?_
        rintro e w12 ⟨hend, hb1112⟩
        have hb12 := bcall hb11 hb1112
        have hb412 := bcall hb411 hb1112
        have x12 := rd_later x11 hb1112
        rcases end_line hend with ⟨ec, ep, rfl, hec, hep⟩ | ⟨ts, id, ty, a, rfl, hE, w0, w1, wa⟩
        · have hcc : (ec != 0) = true := by rw [bne_iff_ne]; exact hec
          have hb13 := bnew hb12 (.cells #[.int .i64 0, .int .u64 0, .int .i64 0, .int .i64 0, .int .i64 0, .int .i64 0, .int .i64 0, .int .i64 0, .int .i64 0, .int .i64 0, .int .i64 0] 29)
          have E13 := blk_new w12 #[.int .i64 0, .int .u64 0, .int .i64 0, .int .i64 0, .int .i64 0, .int .i64 0, .int .i64 0, .int .i64 0, .int .i64 0, .int .i64 0, .int .i64 0] 29
          have y0 := blk_cell (j := 0) (v := .int .i64 0) E13 rfl
          have y1 := blk_cell (j := 1) (v := .int .u64 0) E13 rfl
          have y2 := blk_cell (j := 2) (v := .int .i64 0) E13 rfl
          have y3 := blk_cell (j := 3) (v := .int .i64 0) E13 rfl
          have y4 := blk_cell (j := 4) (v := .int .i64 0) E13 rfl
          have y5 := blk_cell (j := 5) (v := .int .i64 0) E13 rfl
          have y6 := blk_cell (j := 6) (v := .int .i64 0) E13 rfl
          have y7 := blk_cell (j := 7) (v := .int .i64 0) E13 rfl
          have y8 := blk_cell (j := 8) (v := .int .i64 0) E13 rfl
          have y9 := blk_cell (j := 9) (v := .int .i64 0) E13 rfl
          have y10 := blk_cell (j := 10) (v := .int .i64 0) E13 rfl
          have hq := fun w => arr8_same (fun _ => 0) w
          clear hend E13
          go_upto_region 17 with fail
          generalize w12.alloc _ = w13 at *
          go_wp2_with fail
          go_ret
          exact ⟨ret_bool (by first | (simp; done) | (simp; omega)), hb13⟩
        · have hb13 := bnew hb12 (.cells #[.int .i64 ts, .int .u64 (id : Nat), .int .i64 (ty : Nat), .int .i64 (a 0), .int .i64 (a 1), .int .i64 (a 2), .int .i64 (a 3), .int .i64 (a 4), .int .i64 (a 5), .int .i64 (a 6), .int .i64 (a 7)] 29)
          have hb413 := bnew hb412 (.cells #[.int .i64 ts, .int .u64 (id : Nat), .int .i64 (ty : Nat), .int .i64 (a 0), .int .i64 (a 1), .int .i64 (a 2), .int .i64 (a 3), .int .i64 (a 4), .int .i64 (a 5), .int .i64 (a 6), .int .i64 (a 7)] 29)
          have x13 := cell_alloc x12 (.cells #[.int .i64 ts, .int .u64 (id : Nat), .int .i64 (ty : Nat), .int .i64 (a 0), .int .i64 (a 1), .int .i64 (a 2), .int .i64 (a 3), .int .i64 (a 4), .int .i64 (a 5), .int .i64 (a 6), .int .i64 (a 7)] 29)
          have E13 : Hid ((w12.alloc (.cells #[.int .i64 ts, .int .u64 (id : Nat), .int .i64 (ty : Nat), .int .i64 (a 0), .int .i64 (a 1), .int .i64 (a 2), .int .i64 (a 3), .int .i64 (a 4), .int .i64 (a 5), .int .i64 (a 6), .int .i64 (a 7)] 29)).heap[w12.heap.size]? = some (.cells (evCells ts id ty a) 29 (0, 0))) := Lib.hid (blk_new w12 #[.int .i64 ts, .int .u64 (id : Nat), .int .i64 (ty : Nat), .int .i64 (a 0), .int .i64 (a 1), .int .i64 (a 2), .int .i64 (a 3), .int .i64 (a 4), .int .i64 (a 5), .int .i64 (a 6), .int .i64 (a 7)] 29)
          have hz13 : w12.heap.size < (w12.alloc (.cells #[.int .i64 ts, .int .u64 (id : Nat), .int .i64 (ty : Nat), .int .i64 (a 0), .int .i64 (a 1), .int .i64 (a 2), .int .i64 (a 3), .int .i64 (a 4), .int .i64 (a 5), .int .i64 (a 6), .int .i64 (a 7)] 29)).heap.size := by simp
          have HO := Lib.hid (evOut_ok (id := (id : Int)) hE)
          have HSZ := Lib.hid (line_size hE w0 w1 wa)
          have HE := Lib.hid hE
          have WF := Lib.hid (And.intro w0 (And.intro w1 wa))
          obtain ⟨eb, heb⟩ : ∃ eb, w12.heap.size = eb := ⟨_, rfl⟩
          clear hend x12 x11 x10 w0 w1 wa hE
          go_upto_region 19 with fail
          generalize w12.alloc _ = w13 at *
          rw [heb] at E13 hz13
          go_wp2_with (refine wpList_load_row rfl 29 _ rfl eb rfl 29 _ (0, 0) _ E13.out Tryd.underlying29 rfl (by kernel_rfl) ?_)
          refine (printEvent_any A c S ts id ty a _ (HT4.out.later hb413) (block_below HK.out hb13) (HP.out.later hb13) WF.out.1 WF.out.2.1 WF.out.2.2).mono ?_
          rw [HO.out, HE.out]
          rintro e w14 ⟨rfl, hb1314⟩
          have hb14 := bcall hb13 hb1314
          have hb414 := bcall hb413 hb1314
          have x14 := rd_later x13 hb1314
          have E14 := Lib.hid (blk_below E13.out hb1314)
          clear x13
          go_wp2_with fail
          refine (parseEvent_any (evText S ts id ty a (S.ln ty)) HSZ.out A c S _ (HT4.out.later hb414) (HV.out.later hb14) (block_below HK.out hb14)).mono ?_
          rintro e w15 ⟨hend, hb1415⟩
          have he := parsed_event HE.out WF.out.1 WF.out.2.1 WF.out.2.2 hend
          subst he
          clear hend HO HSZ
          generalize evText S ts id ty a (S.ln ty) = txt at *
          have hb15 := bcall hb14 hb1415
          have hb415 := bcall hb414 hb1415
          have hb16 := bnew hb15 (.cells (evCells ts id ty a) 29)
          have hb416 := bnew hb415 (.cells (evCells ts id ty a) 29)
          have x16 := cell_alloc (rd_later x14 hb1415) (.cells (evCells ts id ty a) 29)
          have E16 := Lib.hid (blk_alloc (blk_below E14.out hb1415) (.cells (evCells ts id ty a) 29))
          have F16 : Hid ((w15.alloc (.cells (evCells ts id ty a) 29)).heap[w15.heap.size]? = some (.cells (evCells ts id ty a) 29 (0, 0))) := Lib.hid (blk_new w15 _ _)
          obtain ⟨fb, hfb⟩ : ∃ fb, w15.heap.size = fb := ⟨_, rfl⟩
          clear x14
          have hev : evCells ts id ty a = #[.int .i64 ts, .int .u64 (id : Nat), .int .i64 (ty : Nat), .int .i64 (a 0), .int .i64 (a 1), .int .i64 (a 2), .int .i64 (a 3), .int .i64 (a 4), .int .i64 (a 5), .int .i64 (a 6), .int .i64 (a 7)] := rfl
          rw [hev] at hb16 hb416 x16 E16 F16 ⊢
          go_upto_region 21 with fail
          generalize w15.alloc _ = w16 at *
          rw [hfb] at F16
          go_wp2_with (refine wpList_load_row rfl 29 _ rfl eb rfl 29 _ (0, 0) _ E16.out Tryd.underlying29 rfl (by kernel_rfl) ?_)
          refine (checkEvent_any A c S ts id ty a _ (HT4.out.later hb416) (block_below HK.out hb16)).mono ?_
          rw [HE.out]
          rintro e w17 ⟨rfl, hb1617⟩
          have E17 := Lib.hid (blk_below E16.out hb1617)
          have F17 := Lib.hid (blk_below F16.out hb1617)
          have hq := fun w => arr8_same a w
          have y0 := blk_cell (j := 0) (v := .int .i64 ts) E17.out rfl
          have z0 := blk_cell (j := 0) (v := .int .i64 ts) F17.out rfl
          have y1 := blk_cell (j := 1) (v := .int .u64 (id : Nat)) E17.out rfl
          have z1 := blk_cell (j := 1) (v := .int .u64 (id : Nat)) F17.out rfl
          have y2 := blk_cell (j := 2) (v := .int .i64 (ty : Nat)) E17.out rfl
          have z2 := blk_cell (j := 2) (v := .int .i64 (ty : Nat)) F17.out rfl
          have y3 := blk_cell (j := 3) (v := .int .i64 (a 0)) E17.out rfl
          have z3 := blk_cell (j := 3) (v := .int .i64 (a 0)) F17.out rfl
          have y4 := blk_cell (j := 4) (v := .int .i64 (a 1)) E17.out rfl
          have z4 := blk_cell (j := 4) (v := .int .i64 (a 1)) F17.out rfl
          have y5 := blk_cell (j := 5) (v := .int .i64 (a 2)) E17.out rfl
          have z5 := blk_cell (j := 5) (v := .int .i64 (a 2)) F17.out rfl
          have y6 := blk_cell (j := 6) (v := .int .i64 (a 3)) E17.out rfl
          have z6 := blk_cell (j := 6) (v := .int .i64 (a 3)) F17.out rfl
          have y7 := blk_cell (j := 7) (v := .int .i64 (a 4)) E17.out rfl
          have z7 := blk_cell (j := 7) (v := .int .i64 (a 4)) F17.out rfl
          have y8 := blk_cell (j := 8) (v := .int .i64 (a 5)) E17.out rfl
          have z8 := blk_cell (j := 8) (v := .int .i64 (a 5)) F17.out rfl
          have y9 := blk_cell (j := 9) (v := .int .i64 (a 6)) E17.out rfl
          have z9 := blk_cell (j := 9) (v := .int .i64 (a 6)) F17.out rfl
          have y10 := blk_cell (j := 10) (v := .int .i64 (a 7)) E17.out rfl
          have z10 := blk_cell (j := 10) (v := .int .i64 (a 7)) F17.out rfl
          go_wp2_with fail
          go_ret
          exact ⟨rfl, bcall hb16 hb1617⟩
set_option maxRecDepth 8000 in
set_option maxHeartbeats 2000000 in
theorem eventCanon_main {H : Type} {enc : TypeId × Value → H} (W : World) (base : Nat) {v0 v1 : Value} {d0 d1 : DataW H} {p0 p1 : List MemPlace} {X Z S : Prop}
    (o0 : Value.okWide Tryd.prog W .any base 9 v0) (h0 : DataW.Trod enc Tryd.prog W 0 (fun _ => true) true 9 v0 d0 p0)
    (o1 : Value.okWide Tryd.prog W .any base 9 v1) (h1 : DataW.Trod enc Tryd.prog W 0 (fun _ => true) true 9 v1 d1 p1)
    (_ : X) (_ : Z) (hcond : ∀ k, (Rows.OpenSpec.upto Rows.eventCanonSpec).cond = some k → k H ([d0, d1] ++ []) = true)
    (h : laidMetH Tryd.prog Rows.eventCanonUptoRow.laid W) (_ : S) :
    Calls Tryd.prog 11 #[v0, v1] W fun e W' => e = .returned (.bool true) ∧ Below W.heap.size W W' := by
  have hv0 := kwVar (laid := Rows.eventCanonUptoRow.laid) h 5 rfl
  have hv1 := errVar (laid := Rows.eventCanonUptoRow.laid) h 3 rfl
  have hv2 := powVar (laid := Rows.eventCanonUptoRow.laid) h 2 rfl
  have hk := hcond _ rfl
  obtain ⟨t0, f0, g0⟩ := var_block gKeywords hv0
  obtain ⟨s, rfl, rfl, rfl, _⟩ := Go.ChangeMaps.open_string Tryd.underlying9 o0 h0
  obtain ⟨l, rfl, rfl, rfl, _⟩ := Go.ChangeMaps.open_string Tryd.underlying9 o1 h1
  exact eventCanon_walk s l (bulk_string hk (by simp)) W hv1 hv2 g0
end Go.Proofs.YtppeonlpocdhkaaDoor

/-! ### What a listed table's cells are: for the witness' world. -/
namespace Go.Proofs.YtppeonlpocdhkaaDoor
def tabCells (d : DataW Unit) : Array Value :=
  match d with
  | .agg l => (l.map fun x => match x with | .lit (.int k z) => Value.int k z | .lit (.string s) => Value.string ⟨s.toArray⟩ | _ => undef).toArray
  | _ => #[]
end Go.Proofs.YtppeonlpocdhkaaDoor

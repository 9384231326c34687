/-
  Several texts in one: CutList, SchemaBack, LineList, Lits, Started, SchemaQuiet, EventBack, Events, ErrVar, Arr8.
-/
import Derived.Test.YtppeonlpocdhkaaDoorSchemaText
import Derived.Test.YtppeonlpocdhkaaDoorSchemaPush
import Derived.Test.YtppeonlpocdhkaaDoorEventText
import Derived.Test.YtppeonlpocdhkaaDoorEventRes
import Derived.Test.YtppeonlpocdhkaaDoorParseEvent
import Derived.Deep.CutRange
import Derived.Test.YtppeonlpocdhkaaDoorPrintSchemaRef
import Derived.Test.YtppeonlpocdhkaaDoorPrintEvent
import Derived.Test.YtppeonlpocdhkaaDoorRowOwn
import Derived.Test.YtppeonlpocdhkaaDoorEventOpen
import Derived.Test.YtppeonlpocdhkaaDoorKit
import Derived.Test.YtppeonlpocdhkaaDoorNumWalk
import Derived.Test.YtppeonlpocdhkaaDoorRd
import Derived.Laws.StructEq
import Derived.ChangeKeysEq
set_option linter.unusedSimpArgs false
set_option linter.unusedVariables false
/-! ### A schema's text as a list of its words and marks, wherever they stand; what may stand between them. -/
namespace Go.Proofs.YtppeonlpocdhkaaDoor
open Go.RowKit
def wordU (c : UInt8) : Bool := wordI c.toNat
def blankU (c : UInt8) : Bool := blankI c.toNat
/-- A word or a mark. -/
abbrev Tok2 := Bool × List UInt8
theorem dw_len (p : UInt8 → Bool) (l : List UInt8) : (l.dropWhile p).length ≤ l.length := by
  induction l with
  | nil => simp
  | cons c r ih =>
    rw [List.dropWhile_cons]
    split
    · simp only [List.length_cons]; omega
    · exact Nat.le_refl _
def cutL (l : List UInt8) : List Tok2 :=
  match l with
  | [] => []
  | c :: r => if blankU c = true then cutL r else if c.toNat = 35 then cutL (r.dropWhile fun c => c.toNat != 10) else if wordU c = true then (true, c :: r.takeWhile wordU) :: cutL (r.dropWhile wordU) else (false, [c]) :: cutL r
termination_by l.length
decreasing_by
  all_goals
    have h1 := dw_len (fun c => c.toNat != 10) r
    have h2 := dw_len wordU r
    simp only [List.length_cons]
    omega
theorem cutL_nil : cutL [] = [] := by rw [cutL]
theorem cutL_blank {c : UInt8} {r : List UInt8} (h : blankU c = true) : cutL (c :: r) = cutL r := by rw [cutL, if_pos h]
theorem blank_35 {c : UInt8} (h : c.toNat = 35) : blankU c = false := by unfold blankU; rw [h]; decide
theorem word_not {c : UInt8} (h : wordU c = true) : blankU c = false ∧ ¬ c.toNat = 35 := by
  constructor
  · cases hb : blankU c
    · rfl
    · exfalso
      unfold blankU blankI at hb
      simp only [Bool.or_eq_true, beq_iff_eq] at hb
      unfold wordU at h
      rcases hb with ((hb | hb) | hb) | hb <;> (rw [hb] at h; revert h; decide)
  · intro e
    unfold wordU at h
    rw [e] at h
    revert h
    decide
theorem cutL_note {c : UInt8} {r : List UInt8} (h : c.toNat = 35) : cutL (c :: r) = cutL (r.dropWhile fun c => c.toNat != 10) := by
  rw [cutL, if_neg (by rw [blank_35 h]; simp), if_pos h]
theorem cutL_wd {c : UInt8} {r : List UInt8} (h : wordU c = true) : cutL (c :: r) = (true, c :: r.takeWhile wordU) :: cutL (r.dropWhile wordU) := by
  obtain ⟨h1, h2⟩ := word_not h
  rw [cutL, if_neg (by rw [h1]; simp), if_neg h2, if_pos h]
theorem cutL_mk {c : UInt8} {r : List UInt8} (h1 : blankU c = false) (h2 : ¬ c.toNat = 35) (h3 : wordU c = false) : cutL (c :: r) = (false, [c]) :: cutL r := by
  rw [cutL, if_neg (by rw [h1]; simp), if_neg h2, if_neg (by rw [h3]; simp)]
/-- A list that no word goes on into. -/
def NoWord (l : List UInt8) : Prop := ∀ c r, l = c :: r → wordU c = false
theorem noword_nil : NoWord [] := fun c r h => by cases h
theorem noword_cons {c : UInt8} {r : List UInt8} (h : wordU c = false) : NoWord (c :: r) := fun c' r' e => by injection e with e _; subst e; exact h
theorem takeWhile_word {w r : List UInt8} (hw : ∀ c ∈ w, wordU c = true) (hr : NoWord r) : (w ++ r).takeWhile wordU = w ∧ (w ++ r).dropWhile wordU = r := by
  induction w with
  | nil =>
    cases r with
    | nil => exact ⟨rfl, rfl⟩
    | cons c r =>
      have := hr c r rfl
      exact ⟨by simp [this], by simp [this]⟩
  | cons c w ih =>
    have hc := hw c (by simp)
    obtain ⟨h1, h2⟩ := ih fun c h => hw c (by simp [h])
    exact ⟨by simp [hc, h1], by simp [hc, h2]⟩
/-- A word, then what it does not go on into. -/
theorem cutL_word {w r : List UInt8} (h0 : w ≠ []) (hw : ∀ c ∈ w, wordU c = true) (hr : NoWord r) : cutL (w ++ r) = (true, w) :: cutL r := by
  cases w with
  | nil => exact absurd rfl h0
  | cons c w =>
    obtain ⟨h1, h2⟩ := takeWhile_word (w := w) (fun c h => hw c (by simp [h])) hr
    rw [List.cons_append, cutL_wd (hw c (by simp)), h1, h2]
/-- What may stand between words and marks. -/
structure Quiet (q : List UInt8) : Prop where
  cut : ∀ r, cutL (q ++ r) = cutL r
  no : ∀ r, NoWord r → NoWord (q ++ r)
theorem quiet_nil : Quiet [] := ⟨fun _ => rfl, fun _ h => h⟩
theorem quiet_blank {c : UInt8} {q : List UInt8} (hc : blankU c = true) (h : Quiet q) : Quiet (c :: q) := by
  refine ⟨fun r => by rw [List.cons_append, cutL_blank hc, h.cut], fun r _ => ?_⟩
  rw [List.cons_append]
  refine noword_cons ?_
  cases hw : wordU c
  · rfl
  · rw [(word_not hw).1] at hc; cases hc
theorem quiet_note {note q : List UInt8} (hn : ∀ c ∈ note, c.toNat ≠ 10) (h : Quiet q) : Quiet (35 :: (note ++ 10 :: q)) := by
  have hd : ∀ r, (note ++ 10 :: r).dropWhile (fun c : UInt8 => c.toNat != 10) = 10 :: r := by
    intro r
    induction note with
    | nil => rfl
    | cons c note ih =>
      have hc : (c.toNat != 10) = true := by rw [bne_iff_ne]; exact hn c (by simp)
      rw [List.cons_append, List.dropWhile_cons, if_pos hc]
      exact ih fun c h => hn c (by simp [h])
  refine ⟨fun r => ?_, fun r _ => noword_cons (by decide)⟩
  rw [List.cons_append, List.append_assoc, List.cons_append, cutL_note (by rfl), hd, cutL_blank (by decide), h.cut]
theorem quiet_append {q q' : List UInt8} (h : Quiet q) (h' : Quiet q') : Quiet (q ++ q') :=
  ⟨fun r => by rw [List.append_assoc, h.cut, h'.cut], fun r hr => by rw [List.append_assoc]; exact h.no _ (h'.no _ hr)⟩
/-! ### The pieces of a text are its list's -/
section
variable {s : ByteArray} {k : Nat}
theorem bytes_drop (h : k < s.size) : s.data.toList.drop k = s[k] :: s.data.toList.drop (k + 1) := by
  have : s.data.toList.length = s.size := rfl
  rw [List.drop_eq_getElem_cons (by omega)]
  rfl
theorem bytes_out (h : ¬ k < s.size) : s.data.toList.drop k = [] := List.drop_of_length_le (by have : s.data.toList.length = s.size := rfl; omega)
theorem bytes_extract (s : ByteArray) (a z : Nat) : (s.extract a z).data.toList = (s.data.toList.drop a).take (z - a) := by
  rw [ByteArray.data_extract, Array.toList_extract, List.extract_eq_take_drop]
end
theorem skipW_list (s : ByteArray) (k : Nat) : s.data.toList.drop (skipW s k) = (s.data.toList.drop k).dropWhile wordU ∧ (s.data.toList.drop k).take (skipW s k - k) = (s.data.toList.drop k).takeWhile wordU := by
  fun_induction skipW s k with
  | case1 k h hw ih =>
    have hw' : wordU s[k] = true := hw
    have hge := skipW_ge s (k + 1)
    obtain ⟨h1, h2⟩ := ih
    rw [h1, bytes_drop h, List.dropWhile_cons, if_pos hw', List.takeWhile_cons, if_pos hw', show skipW s (k + 1) - k = (skipW s (k + 1) - (k + 1)) + 1 by omega, List.take_succ_cons, h2]
    exact ⟨rfl, rfl⟩
  | case2 k h hw =>
    have hw' : ¬ wordU s[k] = true := hw
    rw [bytes_drop h, List.dropWhile_cons, if_neg hw', List.takeWhile_cons, if_neg hw', Nat.sub_self]
    exact ⟨rfl, rfl⟩
  | case3 k h =>
    rw [bytes_out h, Nat.sub_self]
    exact ⟨rfl, rfl⟩
theorem skipC_list (s : ByteArray) (k : Nat) : s.data.toList.drop (skipC s k) = (s.data.toList.drop k).dropWhile fun c => c.toNat != 10 := by
  fun_induction skipC s k with
  | case1 k h hw => rw [bytes_drop h, List.dropWhile_cons, if_neg (by rw [hw]; decide)]
  | case2 k h hw ih =>
    rw [ih, bytes_drop h, List.dropWhile_cons, if_pos (by rw [bne_iff_ne]; exact hw)]
  | case3 k h => rw [bytes_out h]; rfl
/-- The word or mark that a piece is. -/
def ptok (s : ByteArray) (p : Pce) : Tok2 := (p.wd, (s.extract p.a p.z).data.toList)
theorem cut_list (s : ByteArray) (i : Nat) : (cutFrom s i).map (ptok s) = cutL (s.data.toList.drop i) := by
  fun_induction cutFrom s i with
  | case1 i h hb ih => rw [bytes_drop h, cutL_blank hb, ih]
  | case2 i h hb hc ih => rw [bytes_drop h, cutL_note hc, ih, skipC_list]
  | case3 i h hb hc hw ih =>
    obtain ⟨h1, h2⟩ := skipW_list s (i + 1)
    have hge := skipW_ge s (i + 1)
    rw [bytes_drop h, cutL_wd hw, List.map_cons, ih, h1]
    congr 1
    unfold ptok
    rw [bytes_extract, bytes_drop h, show skipW s (i + 1) - i = (skipW s (i + 1) - (i + 1)) + 1 by omega, List.take_succ_cons, h2]
  | case4 i h hb hc hw ih =>
    have hb' : blankU s[i] = false := Bool.eq_false_iff.2 hb
    have hw' : wordU s[i] = false := Bool.eq_false_iff.2 hw
    rw [bytes_drop h, cutL_mk hb' hc hw', List.map_cons, ih]
    congr 1
    unfold ptok
    rw [bytes_extract, bytes_drop h, show i + 1 - i = 1 by omega]
    rfl
  | case5 i h => rw [bytes_out h, cutL_nil]; rfl
/-! ### Reading the list -/
/-- One step of the reading, at a word or mark. -/
def tstep (st : Gst) (t : Tok2) : Int × Gst := if t.1 = true then gword st ⟨t.2.toArray⟩ else gmark st (t.2.headD 0).toNat
/-- The reading of a list of words and marks, while nothing is wrong. -/
def tfin : Gst → List Tok2 → Option Gst
  | st, [] => some st
  | st, t :: r => if (tstep st t).1 ≠ 0 then none else tfin (tstep st t).2 r
theorem tfin_append (st : Gst) (l r : List Tok2) : tfin st (l ++ r) = (tfin st l).bind fun st => tfin st r := by
  induction l generalizing st with
  | nil => rfl
  | cons t l ih =>
    rw [List.cons_append, tfin, tfin]
    split
    · rfl
    · exact ih _
theorem step_tok {s : ByteArray} {st : Gst} {p : Pce} (h : PceOk s p) : gstep s st p = tstep st (ptok s p) := by
  unfold gstep tstep ptok
  dsimp only
  cases hw : p.wd
  · rw [if_neg (by simp), if_neg (by simp)]
    have h1 := (h.mark hw).1
    have h2 := h.le
    have h3 : p.a < s.size := by omega
    rw [bytes_extract, bytes_drop h3, h1, show p.a + 1 - p.a = 1 by omega, byteAt_eq h3]
    rfl
  · rfl
theorem gfin_tok {s : ByteArray} {L : List Pce} (hL : ∀ p ∈ L, PceOk s p) {st st' : Gst} (h : tfin st (L.map (ptok s)) = some st') : gfin s st L = gend s st' := by
  induction L generalizing st with
  | nil => injection h with h; subst h; rfl
  | cons p L ih =>
    rw [List.map_cons, tfin, ← step_tok (hL p (by simp))] at h
    split at h
    · cases h
    · rename_i h0
      have h0' : (gstep s st p).1 = 0 := Classical.byContradiction h0
      rw [gfin, if_neg h0]
      exact ih (fun p h => hL p (by simp [h])) h
/-- A text whose words and marks are read to the end. -/
theorem parse_tok {s : ByteArray} {ts : TList} (hs : s.size ≤ 4096) (h : tfin ⟨0, []⟩ (cutL s.data.toList) = some ⟨0, ts⟩) (h0 : ts ≠ []) : parseRes s = ⟨0, 0, ts⟩ := by
  rw [parseRes_rest (by omega), gfin_tok (st' := ⟨0, ts⟩) (cut_ok s 0) (by rw [cut_list]; exact h)]
  unfold gend
  rw [if_neg (by simp), if_neg]
  intro e
  exact h0 (List.length_eq_zero_iff.1 e)
end Go.Proofs.YtppeonlpocdhkaaDoor

/-! ### The words and marks of a sound schema's text are read as the schema. -/
namespace Go.Proofs.YtppeonlpocdhkaaDoor
open Go.RowKit
def tyT : Tok2 := (true, [116, 121, 112, 101])
def nmT (x : ByteArray) : Tok2 := (true, x.data.toList)
def atToks (S : Sch) (i : Nat) : Nat → List Tok2
  | 0 => []
  | k + 1 => atToks S i k ++ ((if k = 0 then [] else [(false, [44])]) ++ [nmT (S.atr i k)])
def typToks (S : Sch) (i : Nat) : List Tok2 := tyT :: nmT (S.nm i) :: (false, [40]) :: (atToks S i (S.ln i) ++ [(false, [41])])
def allToks (S : Sch) : Nat → List Tok2
  | 0 => []
  | n + 1 => allToks S n ++ typToks S n
/-- The types of a schema, as a reading has them. -/
def atsR (S : Sch) (i k : Nat) : List ByteArray := (List.range k).map (S.atr i)
def tsR (S : Sch) (n : Nat) : TList := (List.range n).map fun i => (S.nm i, atsR S i (S.ln i))
theorem atsR_succ (S : Sch) (i k : Nat) : atsR S i (k + 1) = atsR S i k ++ [S.atr i k] := by simp [atsR, List.range_succ]
theorem tsR_succ (S : Sch) (n : Nat) : tsR S (n + 1) = tsR S n ++ [(S.nm n, atsR S n (S.ln n))] := by simp [tsR, List.range_succ]
theorem tsR_length (S : Sch) (n : Nat) : (tsR S n).length = n := by simp [tsR]
theorem atsR_length (S : Sch) (i k : Nat) : (atsR S i k).length = k := by simp [atsR]
theorem arr_back (x : ByteArray) : (⟨x.data.toList.toArray⟩ : ByteArray) = x := by cases x; rfl
section
variable {S : Sch}
theorem name_dig {x : ByteArray} (h : nameB x = true) : digI (first0 x).toNat = false := by
  simp only [nameB, Bool.and_eq_true, Bool.not_eq_true'] at h
  exact h.1.2
theorem inB_congr {n : Nat} {f f' : Nat → ByteArray} {x : ByteArray} (h : ∀ j, j < n → f j = f' j) : inB n f x = inB n f' x := by
  unfold inB
  rw [Bool.eq_iff_iff, List.any_eq_true, List.any_eq_true]
  constructor
  · rintro ⟨k, hk, h1⟩
    exact ⟨k, hk, by rw [← h k (by simpa using hk)]; exact h1⟩
  · rintro ⟨k, hk, h1⟩
    exact ⟨k, hk, by rw [h k (by simpa using hk)]; exact h1⟩
theorem tfin_one {st st' : Gst} {t : Tok2} (h : tstep st t = (0, st')) : tfin st [t] = some st' := by
  rw [tfin, if_neg (by rw [h]; simp), h]
  rfl
theorem tfin_cons {st st' : Gst} {t : Tok2} {l : List Tok2} (h : tstep st t = (0, st')) : tfin st (t :: l) = tfin st' l := by
  rw [tfin, if_neg (by rw [h]; simp), h]
theorem step_attr {ts : TList} {nm x : ByteArray} {l : List ByteArray} {wt : Nat} (hw : wt = 3 ∨ wt = 4) (h : gattr l x = 0) : tstep ⟨wt, ts ++ [(nm, l)]⟩ (nmT x) = (0, ⟨5, ts ++ [(nm, l ++ [x])]⟩) := by
  unfold tstep nmT
  rw [if_pos rfl, arr_back]
  rcases hw with rfl | rfl
  all_goals
    show (gattr (lastA (ts ++ [(nm, l)])) x, (⟨5, pushA (ts ++ [(nm, l)]) x⟩ : Gst)) = _
    rw [lastA_snoc, pushA_snoc, h]
theorem attrs_back (hS : schErr S = 0) {i : Nat} (hi : i < S.n) (ts : TList) : ∀ k, k ≤ S.ln i → tfin ⟨3, ts ++ [(S.nm i, [])]⟩ (atToks S i k) = some ⟨if k = 0 then 3 else 5, ts ++ [(S.nm i, atsR S i k)]⟩
  | 0, _ => rfl
  | k + 1, hk => by
    obtain ⟨_, _, hl8, hat⟩ := (sch_zero hS).2.2 i hi
    obtain ⟨h1, h2, h3⟩ := hat k (by omega)
    have hg : gattr (atsR S i k) (S.atr i k) = 0 := by
      unfold gattr
      rw [if_neg (by rw [name_dig h1]; simp), if_neg (by rw [atsR_length]; omega), if_neg (by rw [h1, h2]; simp), if_neg]
      rw [atsR_length, inB_congr (f' := S.atr i) (fun j hj => by simp [atsR, hj])]
      rw [show inB k (S.atr i) (S.atr i k) = false from h3]
      simp
    rw [atToks, tfin_append, attrs_back hS hi ts k (by omega), Option.bind_some]
    by_cases h0 : k = 0
    · subst h0
      rw [if_pos rfl, if_pos rfl, List.nil_append, if_neg (by omega), tfin_one (step_attr (Or.inl rfl) hg), atsR_succ]
    · have hm : tstep ⟨5, ts ++ [(S.nm i, atsR S i k)]⟩ (false, [44]) = (0, ⟨4, ts ++ [(S.nm i, atsR S i k)]⟩) := rfl
      rw [if_neg h0, if_neg h0, if_neg (by omega), List.cons_append, List.nil_append, tfin_cons hm, tfin_one (step_attr (Or.inr rfl) hg), atsR_succ]
theorem type_back (hS : schErr S = 0) {i : Nat} (hi : i < S.n) : tfin ⟨0, tsR S i⟩ (typToks S i) = some ⟨0, tsR S (i + 1)⟩ := by
  obtain ⟨hn1, hn2, hl8, hat⟩ := (sch_zero hS).2.2 i hi
  have h16 := (sch_zero hS).2.1
  have s1 : tstep ⟨0, tsR S i⟩ tyT = (0, ⟨1, tsR S i⟩) := by
    unfold tstep tyT
    rw [if_pos rfl]
    show ((if ((⟨[116, 121, 112, 101].toArray⟩ : ByteArray).toList == [116, 121, 112, 101]) = false then (21 : Int) else if (tsR S i).length = 16 then 23 else 0), (⟨1, tsR S i⟩ : Gst)) = _
    rw [if_neg, if_neg]
    · rw [tsR_length]; omega
    · rw [ByteArray.toList_eq]; decide
  have s2 : tstep ⟨1, tsR S i⟩ (nmT (S.nm i)) = (0, ⟨2, tsR S i ++ [(S.nm i, [])]⟩) := by
    unfold tstep nmT
    rw [if_pos rfl, arr_back]
    show (gname (tsR S i) (S.nm i), (⟨2, tsR S i ++ [(S.nm i, [])]⟩ : Gst)) = _
    have hg : gname (tsR S i) (S.nm i) = 0 := by
      unfold gname
      rw [if_neg (by rw [name_dig hn1]; simp), if_neg (by rw [hn1]; simp), if_neg]
      rw [tsR_length, inB_congr (f' := S.nm) (fun j hj => by simp [tsR, nmOf, hj]), show inB i S.nm (S.nm i) = false from hn2]
      simp
    rw [hg]
  have s3 : tstep ⟨2, tsR S i ++ [(S.nm i, [])]⟩ (false, [40]) = (0, ⟨3, tsR S i ++ [(S.nm i, [])]⟩) := rfl
  rw [typToks, tfin_cons s1, tfin_cons s2, tfin_cons s3, tfin_append, attrs_back hS hi _ _ (Nat.le_refl _), Option.bind_some, tsR_succ]
  refine tfin_one ?_
  by_cases h0 : S.ln i = 0
  · rw [if_pos h0]; rfl
  · rw [if_neg h0]; rfl
theorem all_back (hS : schErr S = 0) : ∀ n, n ≤ S.n → tfin ⟨0, []⟩ (allToks S n) = some ⟨0, tsR S n⟩
  | 0, _ => rfl
  | n + 1, h => by rw [allToks, tfin_append, all_back hS n (by omega), Option.bind_some, type_back hS (by omega)]
theorem tsR_eq (S : Sch) : SchEq (schOf (tsR S S.n)) S := by
  refine ⟨by simp [schOf, tsR], fun i hi => ?_⟩
  have hi' : i < S.n := by simpa [schOf, tsR] using hi
  simp only [schOf, nmOf, atsOf, tsR, List.getD_eq_getElem?_getD, List.getElem?_map, List.getElem?_range hi', Option.map_some, Option.getD_some, atsR_length]
  refine ⟨trivial, trivial, fun j hj => ?_⟩
  simp only [atsR, List.getElem?_map, List.getElem?_range hj, Option.map_some, Option.getD_some]
/-- A text whose words and marks are a sound schema's. -/
theorem parse_back {s : ByteArray} (hS : schErr S = 0) (hs : s.size ≤ 4096) (h : cutL s.data.toList = allToks S S.n) : parseRes s = ⟨0, 0, tsR S S.n⟩ := by
  refine parse_tok hs (by rw [h]; exact all_back hS S.n (Nat.le_refl _)) ?_
  intro e
  have := tsR_length S S.n
  rw [e] at this
  have h0 := (sch_zero hS).1
  simp at this
  omega
end
end Go.Proofs.YtppeonlpocdhkaaDoor

/-! ### A line as a list of its words, wherever they stand; texts that are written out, cut by a count. -/
namespace Go.Proofs.YtppeonlpocdhkaaDoor
open Go.RowKit
def nogapU (c : UInt8) : Bool := !gapI c.toNat
def wordsL (l : List UInt8) : List (List UInt8) :=
  match l with
  | [] => []
  | c :: r => if nogapU c = true then (c :: r.takeWhile nogapU) :: wordsL (r.dropWhile nogapU) else wordsL r
termination_by l.length
decreasing_by
  all_goals
    have h2 := dw_len nogapU r
    simp only [List.length_cons]
    omega
theorem wordsL_nil : wordsL [] = [] := by rw [wordsL]
theorem wordsL_gap {c : UInt8} {r : List UInt8} (h : nogapU c = false) : wordsL (c :: r) = wordsL r := by rw [wordsL, if_neg (by rw [h]; simp)]
theorem wordsL_wd {c : UInt8} {r : List UInt8} (h : nogapU c = true) : wordsL (c :: r) = (c :: r.takeWhile nogapU) :: wordsL (r.dropWhile nogapU) := by rw [wordsL, if_pos h]
theorem takeWhile_gap {w r : List UInt8} (hw : ∀ c ∈ w, nogapU c = true) (hr : ∀ c r', r = c :: r' → nogapU c = false) : (w ++ r).takeWhile nogapU = w ∧ (w ++ r).dropWhile nogapU = r := by
  induction w with
  | nil =>
    cases r with
    | nil => exact ⟨rfl, rfl⟩
    | cons c r =>
      have := hr c r rfl
      exact ⟨by simp [this], by simp [this]⟩
  | cons c w ih =>
    have hc := hw c (by simp)
    obtain ⟨h1, h2⟩ := ih fun c h => hw c (by simp [h])
    exact ⟨by simp [hc, h1], by simp [hc, h2]⟩
theorem wordsL_word {w r : List UInt8} (h0 : w ≠ []) (hw : ∀ c ∈ w, nogapU c = true) (hr : ∀ c r', r = c :: r' → nogapU c = false) : wordsL (w ++ r) = w :: wordsL r := by
  cases w with
  | nil => exact absurd rfl h0
  | cons c w =>
    obtain ⟨h1, h2⟩ := takeWhile_gap (w := w) (fun c h => hw c (by simp [h])) hr
    rw [List.cons_append, wordsL_wd (hw c (by simp)), h1, h2]
theorem skipE_list (s : ByteArray) (k : Nat) : s.data.toList.drop (skipE s k) = (s.data.toList.drop k).dropWhile nogapU ∧ (s.data.toList.drop k).take (skipE s k - k) = (s.data.toList.drop k).takeWhile nogapU := by
  fun_induction skipE s k with
  | case1 k h hw =>
    have hw' : ¬ nogapU s[k] = true := by unfold nogapU; rw [hw]; simp
    rw [bytes_drop h, List.dropWhile_cons, if_neg hw', List.takeWhile_cons, if_neg hw', Nat.sub_self]
    exact ⟨rfl, rfl⟩
  | case2 k h hw ih =>
    have hw' : nogapU s[k] = true := by unfold nogapU; rw [Bool.eq_false_iff.2 hw]; rfl
    have hge := skipE_ge s (k + 1)
    obtain ⟨h1, h2⟩ := ih
    rw [h1, bytes_drop h, List.dropWhile_cons, if_pos hw', List.takeWhile_cons, if_pos hw', show skipE s (k + 1) - k = (skipE s (k + 1) - (k + 1)) + 1 by omega, List.take_succ_cons, h2]
    exact ⟨rfl, rfl⟩
  | case3 k h =>
    rw [bytes_out h, Nat.sub_self]
    exact ⟨rfl, rfl⟩
theorem words_list (s : ByteArray) (i : Nat) : (wordsE s i).map (fun p => (s.extract p.a p.z).data.toList) = wordsL (s.data.toList.drop i) := by
  fun_induction wordsE s i with
  | case1 i h hb ih =>
    have hb' : nogapU s[i] = false := by unfold nogapU; rw [hb]; rfl
    rw [bytes_drop h, wordsL_gap hb', ih]
  | case2 i h hb ih =>
    have hb' : nogapU s[i] = true := by unfold nogapU; rw [Bool.eq_false_iff.2 hb]; rfl
    obtain ⟨h1, h2⟩ := skipE_list s (i + 1)
    have hge := skipE_ge s (i + 1)
    rw [bytes_drop h, wordsL_wd hb', List.map_cons, ih, h1]
    congr 1
    rw [bytes_extract, bytes_drop h, show skipE s (i + 1) - i = (skipE s (i + 1) - (i + 1)) + 1 by omega, List.take_succ_cons, h2]
  | case3 i h => rw [bytes_out h, wordsL_nil]; rfl
/-- The text of word i, out of the list. -/
theorem wtx_list (s : ByteArray) (i : Nat) : (wtx s (wordsE s 0) i).data.toList = (wordsL s.data.toList).getD i [] := by
  have h := words_list s 0
  rw [List.drop_zero] at h
  rw [← h]
  by_cases hi : i < (wordsE s 0).length
  · rw [wtx_in hi]
    simp [wdAt, gp, hi]
  · rw [wtx_out hi]
    simp [hi]
theorem words_count (s : ByteArray) : (wordsE s 0).length = (wordsL s.data.toList).length := by
  have h := words_list s 0
  rw [List.drop_zero] at h
  rw [← h, List.length_map]
/-! ### Cutting by a count, for texts that are written out -/
def skipWF (s : ByteArray) : Nat → Nat → Nat
  | 0, k => k
  | n + 1, k => if h : k < s.size then if wordI (s[k].toNat) = true then skipWF s n (k + 1) else k else k
def skipCF (s : ByteArray) : Nat → Nat → Nat
  | 0, k => k
  | n + 1, k => if h : k < s.size then if s[k].toNat = 10 then k else skipCF s n (k + 1) else k
def skipEF (s : ByteArray) : Nat → Nat → Nat
  | 0, k => k
  | n + 1, k => if h : k < s.size then if gapI (s[k].toNat) = true then k else skipEF s n (k + 1) else k
theorem skipWF_eq (s : ByteArray) : ∀ n k, s.size ≤ k + n → skipWF s n k = skipW s k
  | 0, k, h => by rw [skipW_out (by omega)]; rfl
  | n + 1, k, h => by
    unfold skipWF
    by_cases h1 : k < s.size
    · rw [dif_pos h1]
      cases h2 : wordI (s[k].toNat)
      · rw [if_neg (by simp), skipW_off h1 h2]
      · rw [if_pos rfl, skipW_on h1 h2, skipWF_eq s n (k + 1) (by omega)]
    · rw [dif_neg h1, skipW_out h1]
theorem skipCF_eq (s : ByteArray) : ∀ n k, s.size ≤ k + n → skipCF s n k = skipC s k
  | 0, k, h => by rw [skipC_out (by omega)]; rfl
  | n + 1, k, h => by
    unfold skipCF
    by_cases h1 : k < s.size
    · rw [dif_pos h1]
      by_cases h2 : s[k].toNat = 10
      · rw [if_pos h2, skipC_off h1 h2]
      · rw [if_neg h2, skipC_on h1 h2, skipCF_eq s n (k + 1) (by omega)]
    · rw [dif_neg h1, skipC_out h1]
theorem skipEF_eq (s : ByteArray) : ∀ n k, s.size ≤ k + n → skipEF s n k = skipE s k
  | 0, k, h => by rw [skipE_out (by omega)]; rfl
  | n + 1, k, h => by
    unfold skipEF
    by_cases h1 : k < s.size
    · rw [dif_pos h1]
      cases h2 : gapI (s[k].toNat)
      · rw [if_neg (by simp), skipE_on h1 h2, skipEF_eq s n (k + 1) (by omega)]
      · rw [if_pos rfl, skipE_off h1 h2]
    · rw [dif_neg h1, skipE_out h1]
def cutF (s : ByteArray) : Nat → Nat → List Pce
  | 0, _ => []
  | n + 1, i => if h : i < s.size then
      if blankI (s[i].toNat) = true then cutF s n (i + 1)
      else if s[i].toNat = 35 then cutF s n (skipCF s n (i + 1))
      else if wordI (s[i].toNat) = true then ⟨i, skipWF s n (i + 1), true⟩ :: cutF s n (skipWF s n (i + 1))
      else ⟨i, i + 1, false⟩ :: cutF s n (i + 1)
    else []
theorem cutF_eq (s : ByteArray) : ∀ n i, s.size ≤ i + n → cutF s n i = cutFrom s i
  | 0, i, h => (cut_end (by omega)).symm
  | n + 1, i, h => by
    unfold cutF
    by_cases h1 : i < s.size
    · rw [dif_pos h1]
      cases h2 : blankI (s[i].toNat)
      · rw [if_neg (by simp)]
        by_cases h3 : s[i].toNat = 35
        · rw [if_pos h3, cut_note h1 h3, skipCF_eq s n _ (by omega), cutF_eq s n _ (by have := skipC_ge s (i + 1); omega)]
        · rw [if_neg h3]
          cases h4 : wordI (s[i].toNat)
          · rw [if_neg (by simp), cut_mark h1 h2 h3 h4, cutF_eq s n _ (by omega)]
          · rw [if_pos rfl, cut_word h1 h4, skipWF_eq s n _ (by omega), cutF_eq s n _ (by have := skipW_ge s (i + 1); omega)]
      · rw [if_pos rfl, cut_blank h1 h2, cutF_eq s n _ (by omega)]
    · rw [dif_neg h1, cut_end h1]
def wordsF (s : ByteArray) : Nat → Nat → List Pce
  | 0, _ => []
  | n + 1, i => if h : i < s.size then
      if gapI (s[i].toNat) = true then wordsF s n (i + 1) else ⟨i, skipEF s n (i + 1), true⟩ :: wordsF s n (skipEF s n (i + 1))
    else []
theorem wordsF_eq (s : ByteArray) : ∀ n i, s.size ≤ i + n → wordsF s n i = wordsE s i
  | 0, i, h => (words_end (by omega)).symm
  | n + 1, i, h => by
    unfold wordsF
    by_cases h1 : i < s.size
    · rw [dif_pos h1]
      cases h2 : gapI (s[i].toNat)
      · rw [if_neg (by simp), words_word h1 h2, skipEF_eq s n _ (by omega), wordsF_eq s n _ (by have := skipE_ge s (i + 1); omega)]
      · rw [if_pos rfl, words_gap h1 h2, wordsF_eq s n _ (by omega)]
    · rw [dif_neg h1, words_end h1]
end Go.Proofs.YtppeonlpocdhkaaDoor

/-! ### The texts that the laws themselves write out: what they say. -/
namespace Go.Proofs.YtppeonlpocdhkaaDoor
open Go.RowKit
theorem nz_zero {e : Nat → Int} {n : Nat} (h : ∀ k, k < n → e k = 0) : firstNZ e n = 0 := by
  unfold firstNZ
  have : (List.range n).find? (fun k => e k != 0) = none := by
    rw [List.find?_eq_none]
    intro k hk
    simp [h k (by simpa using hk)]
  rw [this]
theorem sch_ok {S : Sch} (h0 : 0 < S.n) (h1 : S.n ≤ 16) (h : ∀ i, i < S.n → nameB (S.nm i) = true ∧ twiceB S.nm i = false ∧ S.ln i ≤ 8 ∧ ∀ j, j < S.ln i → nameB (S.atr i j) = true ∧ ((S.atr i j).toList == [116, 115]) = false ∧ twiceB (S.atr i) j = false) : schErr S = 0 := by
  rw [schErr_rest h0 h1]
  refine nz_zero fun i hi => ?_
  obtain ⟨a, b, c, d⟩ := h i hi
  rw [typeErr_rest a b (by omega)]
  refine nz_zero fun j hj => ?_
  obtain ⟨d1, d2, d3⟩ := d j hj
  exact attrErr_ok d1 d2 d3
def nA : ByteArray := ⟨#[65]⟩
def nX : ByteArray := ⟨#[120]⟩
def tsA : TList := [(nA, [nX])]
def tA : ByteArray := ⟨#[116, 121, 112, 101, 32, 65, 40, 120, 41]⟩
def tB : ByteArray := ⟨#[116, 121, 112, 101, 32, 65, 40, 120, 41, 32, 59]⟩
def lA : ByteArray := ⟨#[53, 32, 54, 32, 65, 32, 55]⟩
def lB : ByteArray := ⟨#[53, 32, 54, 32, 65, 32, 120]⟩
theorem sch_A : schErr (schOf tsA) = 0 := by
  refine sch_ok (by decide) (by decide) fun i hi => ?_
  have : i = 0 := by have h : i < 1 := hi; omega
  subst this
  refine ⟨by decide, by decide, by decide, fun j hj => ?_⟩
  have : j = 0 := by have h : j < 1 := hj; omega
  subst this
  refine ⟨by decide, ?_, by decide⟩
  rw [ByteArray.toList_eq]
  decide
theorem cut_A : cutFrom tA 0 = [⟨0, 4, true⟩, ⟨5, 6, true⟩, ⟨6, 7, false⟩, ⟨7, 8, true⟩, ⟨8, 9, false⟩] := by rw [← cutF_eq tA 9 0 (by decide)]; rfl
theorem cut_B : cutFrom tB 0 = [⟨0, 4, true⟩, ⟨5, 6, true⟩, ⟨6, 7, false⟩, ⟨7, 8, true⟩, ⟨8, 9, false⟩, ⟨10, 11, false⟩] := by rw [← cutF_eq tB 11 0 (by decide)]; rfl
theorem words_A : wordsE lA 0 = [⟨0, 1, true⟩, ⟨2, 3, true⟩, ⟨4, 5, true⟩, ⟨6, 7, true⟩] := by rw [← wordsF_eq lA 7 0 (by decide)]; rfl
theorem words_B : wordsE lB 0 = [⟨0, 1, true⟩, ⟨2, 3, true⟩, ⟨4, 5, true⟩, ⟨6, 7, true⟩] := by rw [← wordsF_eq lB 7 0 (by decide)]; rfl
theorem parse_A : parseRes tA = ⟨0, 0, tsA⟩ := by
  have h := cut_list tA 0
  rw [List.drop_zero, cut_A] at h
  refine parse_tok (by decide) ?_ (by decide)
  rw [← h]
  exact all_back sch_A 1 (by decide)
theorem gfin_then {s : ByteArray} {L R : List Pce} {p : Pce} {c : Int} (hL : ∀ q ∈ L, PceOk s q) (hp : PceOk s p) {st st' : Gst} (h : tfin st (L.map (ptok s)) = some st') (hc : (tstep st' (ptok s p)).1 = c) (h0 : c ≠ 0) : gfin s st (L ++ p :: R) = ⟨c, p.a, []⟩ := by
  induction L generalizing st with
  | nil =>
    injection h with h
    subst h
    rw [List.nil_append, gfin, if_pos (by rw [step_tok hp, hc]; exact h0), step_tok hp, hc]
  | cons q L ih =>
    rw [List.map_cons, tfin, ← step_tok (hL q (by simp))] at h
    split at h
    · cases h
    · rename_i h1
      rw [List.cons_append, gfin, if_neg h1]
      exact ih (fun p h => hL p (by simp [h])) h
theorem parse_B : parseRes tB = ⟨21, 10, []⟩ := by
  have hok := cut_ok tB 0
  rw [cut_B] at hok
  rw [parseRes_rest (by decide), cut_B]
  refine gfin_then (L := [⟨0, 4, true⟩, ⟨5, 6, true⟩, ⟨6, 7, false⟩, ⟨7, 8, true⟩, ⟨8, 9, false⟩]) (R := []) (p := ⟨10, 11, false⟩) (fun q hq => hok q ?_) (hok _ (by simp)) (st' := ⟨0, tsA⟩) (all_back sch_A 1 (by decide)) rfl (by decide)
  simp only [List.mem_cons, List.not_mem_nil, or_false] at hq ⊢
  rcases hq with h | h | h | h | h <;> simp [h]
theorem head_A (l : ByteArray) (h0 : numT (wtx l (wordsE l 0) 0) = some 5) (h1 : idT (wtx l (wordsE l 0) 1) = some 6) (h2 : (wtx l (wordsE l 0) 2).data.toList = [65]) (h3 : ¬ (wordsE l 0).length < 3) : headR (schOf tsA) l (wordsE l 0) = ⟨0, 0, 5, 6, 0⟩ := by
  have ht : typeI (schOf tsA) (wtx l (wordsE l 0) 2) = (0 : Nat) := firstI_hit (j := 0) (by decide) (by rw [ByteArray.toList_eq, ByteArray.toList_eq, h2]; decide) (fun k hk => absurd hk (Nat.not_lt_zero k))
  rw [headR_ok h0 (by omega) h1 h3 (by rw [ht]; omega), ht]
  rfl
theorem ev_A : evRes (schOf tsA) lA = ⟨0, 0, 5, 6, 0, attrV lA (wordsE lA 0) 1⟩ := by
  refine evRes_ok rfl sch_A (head_A lA ?_ ?_ ?_ ?_) ?_
  all_goals rw [words_A]
  · rfl
  · rfl
  · rfl
  · decide
  · show attrsR lA _ 1 0 = (0, 0)
    rw [attrs_next (v := 7) (by omega) (by decide) rfl, attrs_done (by omega) (by decide)]
theorem val_A : attrV lA (wordsE lA 0) 1 0 = 7 := by rw [words_A]; rfl
theorem ev_B : evRes (schOf tsA) lB = evBad 26 6 := by
  have h : attrsR lB (wordsE lB 0) 1 0 = (26, 3) := by
    rw [words_B]
    exact attrs_bad (by omega) (by decide) rfl
  have h2 : headR (schOf tsA) lB (wordsE lB 0) = ⟨0, 0, 5, 6, 0⟩ := by
    refine head_A lB ?_ ?_ ?_ ?_
    all_goals rw [words_B]
    · rfl
    · rfl
    · rfl
    · decide
  rw [evRes_attrs rfl sch_A h2 h (by decide), words_B]
  rfl
end Go.Proofs.YtppeonlpocdhkaaDoor

/-! ### The walk of started: the calls at the head of each outright law. -/
namespace Go.Proofs.YtppeonlpocdhkaaDoor
open Go.RowKit Go.ChangeShapes Go.WideShapes Go.ChangeAt Go.Deep
theorem parsed_A {w w' : World} {e : Ending} (h : PsEnd w w' tA e) : ∃ b off c, e = .returned (.tuple #[.agg #[.slice (some ⟨b, off, none⟩) 1 c], .int .i64 0, .int .i64 0]) ∧ Below w.heap.size w w' ∧ TypRd w' w'.heap.size (some ⟨b, off, none⟩) (schOf tsA) ∧
    w'.cell? ⟨b, off, none⟩ = some (.string ⟨#[65]⟩) ∧ ∃ b2 off2 c2, w'.cell? ⟨b, off + 1, none⟩ = some (.slice (some ⟨b2, off2, none⟩) 1 c2) ∧ w'.cell? ⟨b2, off2, none⟩ = some (.string ⟨#[120]⟩) := by
  obtain ⟨A, c, rfl, hb, ho⟩ := h
  rw [parse_A] at ho ⊢
  have hr := ho.rd
  obtain ⟨b, off, rfl, _, hcs⟩ := hr.2 (by decide)
  obtain ⟨c0, aa, ac, c1, hst⟩ := hcs 0 (by decide)
  obtain ⟨b2, off2, rfl, _, hc2⟩ := hst.2 (by decide)
  have c2 := hc2 0 (by decide)
  rw [Nat.zero_mul, Nat.add_zero] at c0 c1
  rw [Nat.add_zero] at c2
  exact ⟨b, off, c, rfl, hb, hr, c0, b2, off2, ac, c1, c2⟩
theorem parsed_B {w w' : World} {e : Ending} (h : PsEnd w w' tB e) : ∃ A n c, e = .returned (.tuple #[.agg #[.slice A n c], .int .i64 21, .int .i64 10]) ∧ Below w.heap.size w w' := by
  obtain ⟨A, c, rfl, hb, ho⟩ := h
  rw [parse_B]
  exact ⟨A, _, c, rfl, hb⟩
theorem read_A {e : Ending} (h : EvEnd (schOf tsA) lA e) : ∃ a : Nat → Int, e = .returned (.tuple #[.agg #[.int .i64 5, .int .u64 6, .int .i64 0, .int .i64 7, .int .i64 (a 1), .int .i64 (a 2), .int .i64 (a 3), .int .i64 (a 4), .int .i64 (a 5), .int .i64 (a 6), .int .i64 (a 7)], .int .i64 0, .int .i64 0]) := by
  unfold EvEnd at h
  rw [ev_A] at h
  unfold evCells at h
  dsimp only at h
  rw [val_A] at h
  exact ⟨_, h⟩
theorem read_B {e : Ending} (h : EvEnd (schOf tsA) lB e) : ∃ cs, e = .returned (.tuple #[.agg cs, .int .i64 26, .int .i64 6]) := by
  unfold EvEnd at h
  rw [ev_B] at h
  exact ⟨_, h⟩
set_option maxRecDepth 100000 in
set_option maxHeartbeats 2000000 in
theorem started_any (w : World) (hv : ErrV w) {tt : TypeId} {fr : Nat × Nat} (hkw : w.heap[0]? = some (.cells kwArr tt fr)) :
    Calls Tryd.prog 27 #[] w fun e w' => e = .returned (.bool true) ∧ Below w.heap.size w w' := by
  have HV := Lib.hid hv
  have HK := Lib.hid hkw
  clear hv hkw
  go_enter Tryd.func27, Tryd.ntmps27
  go_wp2_with fail
  refine (parseSchema_any tA _ HK.out).mono ?_
  intro e w1 hend
  obtain ⟨b, off, c, rfl, hb1, HT1, c0, b2, off2, c2, c1, d0⟩ := parsed_A hend
  clear hend
  have hb2 := bnew hb1 (.cells #[.slice (some ⟨b, off, none⟩) 1 c] 25)
  have HT2 := Lib.hid (HT1.later (bnew (Below.refl _ _) (.cells #[.slice (some ⟨b, off, none⟩) 1 c] 25)))
  have c0 := cell_alloc c0 (.cells #[.slice (some ⟨b, off, none⟩) 1 c] 25)
  have c1 := cell_alloc c1 (.cells #[.slice (some ⟨b, off, none⟩) 1 c] 25)
  have d0 := cell_alloc d0 (.cells #[.slice (some ⟨b, off, none⟩) 1 c] 25)
  have s2 : (w1.alloc (.cells #[.slice (some ⟨b, off, none⟩) 1 c] 25)).cell? ⟨w1.heap.size, 0, none⟩ = some (.slice (some ⟨b, off, none⟩) 1 c) := by simp [go_sem]
  have hz2 : (w1.alloc (.cells #[.slice (some ⟨b, off, none⟩) 1 c] 25)).heap.size = w1.heap.size + 1 := by simp
  clear HT1
  go_upto_region 2 with fail
  generalize w1.alloc _ = w2 at *
  go_wp2_with fail
  refine (parseEvent_any lA (by decide) (some ⟨b, off, none⟩) c (schOf tsA) _ HT2.out (HV.out.later hb2) (block_below HK.out hb2)).mono ?_
  rintro e w3 ⟨hend, hb23⟩
  obtain ⟨a, rfl⟩ := read_A hend
  clear hend c0 c1 d0
  have hb3 := bcall hb2 hb23
  have hb4 := bnew hb3 (.cells #[.int .i64 5, .int .u64 6, .int .i64 0, .int .i64 7, .int .i64 (a 1), .int .i64 (a 2), .int .i64 (a 3), .int .i64 (a 4), .int .i64 (a 5), .int .i64 (a 6), .int .i64 (a 7)] 29)
  have hb24 := bnew hb23 (.cells #[.int .i64 5, .int .u64 6, .int .i64 0, .int .i64 7, .int .i64 (a 1), .int .i64 (a 2), .int .i64 (a 3), .int .i64 (a 4), .int .i64 (a 5), .int .i64 (a 6), .int .i64 (a 7)] 29)
  have s4 := cell_alloc ((hb23.cell (p := ⟨w1.heap.size, 0, none⟩) (show w1.heap.size < w2.heap.size by omega)).trans s2) (.cells #[.int .i64 5, .int .u64 6, .int .i64 0, .int .i64 7, .int .i64 (a 1), .int .i64 (a 2), .int .i64 (a 3), .int .i64 (a 4), .int .i64 (a 5), .int .i64 (a 6), .int .i64 (a 7)] 29)
  have hz4 : (w3.alloc (.cells #[.int .i64 5, .int .u64 6, .int .i64 0, .int .i64 7, .int .i64 (a 1), .int .i64 (a 2), .int .i64 (a 3), .int .i64 (a 4), .int .i64 (a 5), .int .i64 (a 6), .int .i64 (a 7)] 29)).heap.size = w3.heap.size + 1 := by simp
  have E4 := blk_new w3 #[.int .i64 5, .int .u64 6, .int .i64 0, .int .i64 7, .int .i64 (a 1), .int .i64 (a 2), .int .i64 (a 3), .int .i64 (a 4), .int .i64 (a 5), .int .i64 (a 6), .int .i64 (a 7)] 29
  have e0 := blk_cell (j := 0) (v := .int .i64 5) E4 rfl
  have e1 := blk_cell (j := 1) (v := .int .u64 6) E4 rfl
  have e2 := blk_cell (j := 2) (v := .int .i64 0) E4 rfl
  have e3 := blk_cell (j := 3) (v := .int .i64 7) E4 rfl
  clear E4 s2
  go_upto_region 5 with fail
  generalize w3.alloc _ = w4 at *
  go_wp2_with fail
  refine (parseSchema_any tB _ (block_below HK.out hb4)).mono ?_
  intro e w5 hend
  obtain ⟨A5, n5, c5, rfl, hb45⟩ := parsed_B hend
  clear hend e0 e1 e2 e3
  have hb5 := bcall hb4 hb45
  have s5 := rd_later s4 hb45
  go_wp2_with fail
  refine (parseEvent_any lB (by decide) (some ⟨b, off, none⟩) c (schOf tsA) _ (HT2.out.later (bcall hb24 hb45)) (HV.out.later hb5) (block_below HK.out hb5)).mono ?_
  rintro e w6 ⟨hend, hb56⟩
  obtain ⟨cs, rfl⟩ := read_B hend
  clear hend
  go_wp2_with fail
  go_ret
  exact ⟨rfl, bcall hb5 hb56⟩
end Go.Proofs.YtppeonlpocdhkaaDoor

/-! ### A schema's text, whatever stands quietly between its words and marks, is read back; so is its print. -/
namespace Go.Proofs.YtppeonlpocdhkaaDoor
open Go.RowKit
theorem bytes_append (a b : ByteArray) : (a ++ b).data.toList = a.data.toList ++ b.data.toList := by
  rw [ByteArray.data_append, Array.toList_append]
section
variable {S : Sch} {i : Nat}
theorem nm_word {x : ByteArray} (h : nameB x = true) : x.data.toList ≠ [] ∧ ∀ c ∈ x.data.toList, wordU c = true := by
  simp only [nameB, Bool.and_eq_true, Bool.not_eq_true', decide_eq_true_eq] at h
  refine ⟨fun e => ?_, fun c hc => List.all_eq_true.1 h.1.1.2 c hc⟩
  have hl : x.data.toList.length = x.size := rfl
  rw [e] at hl
  have := h.1.1.1.1
  simp at hl
  omega
def agText (qc qa : Nat → List UInt8) (S : Sch) (i : Nat) : Nat → List UInt8
  | 0 => []
  | k + 1 => agText qc qa S i k ++ ((if k = 0 then [] else 44 :: qc k) ++ ((S.atr i k).data.toList ++ qa k))
theorem noword_44 (l : List UInt8) : NoWord (44 :: l) := noword_cons (by decide)
theorem cut_name {x : ByteArray} {q r : List UInt8} (h : nameB x = true) (hq : Quiet q) (hr : NoWord r) : cutL (x.data.toList ++ (q ++ r)) = nmT x :: cutL r := by
  obtain ⟨h0, hw⟩ := nm_word h
  rw [cutL_word h0 hw (hq.no r hr), hq.cut]
  rfl
theorem cut_attrs {qc qa : Nat → List UInt8} (hS : schErr S = 0) (hi : i < S.n) (hc : ∀ k, k < S.ln i → Quiet (qc k)) (ha : ∀ k, k < S.ln i → Quiet (qa k)) : ∀ (k : Nat) (r : List UInt8), k ≤ S.ln i → (k = 0 ∨ NoWord r) → cutL (agText qc qa S i k ++ r) = atToks S i k ++ cutL r
  | 0, r, _, _ => rfl
  | k + 1, r, hk, hr => by
    obtain ⟨_, _, hl8, hat⟩ := (sch_zero hS).2.2 i hi
    have hn := (hat k (by omega)).1
    have hr' : NoWord r := by
      rcases hr with h | h
      · omega
      · exact h
    have hw := cut_name hn (ha k (by omega)) hr'
    rw [agText, List.append_assoc, List.append_assoc, List.append_assoc]
    by_cases h0 : k = 0
    · subst h0
      rw [cut_attrs hS hi hc ha 0 _ (by omega) (Or.inl rfl), if_pos rfl, List.nil_append, hw]
      simp [atToks]
    · have hm : cutL (44 :: (qc k ++ ((S.atr i k).data.toList ++ (qa k ++ r)))) = (false, [44]) :: nmT (S.atr i k) :: cutL r := by
        rw [cutL_mk (by decide) (by decide) (by decide), (hc k (by omega)).cut, hw]
      rw [if_neg h0, List.cons_append, cut_attrs hS hi hc ha k _ (by omega) (Or.inr (noword_44 _)), hm, atToks, if_neg h0]
      simp
/-- A definition's text. -/
def tgText (q0 q1 q2 q3 : List UInt8) (qc qa : Nat → List UInt8) (S : Sch) (i : Nat) : List UInt8 :=
  116 :: 121 :: 112 :: 101 :: 32 :: (q0 ++ ((S.nm i).data.toList ++ (q1 ++ (40 :: (q2 ++ (agText qc qa S i (S.ln i) ++ (41 :: q3)))))))
theorem cut_type {q0 q1 q2 q3 : List UInt8} {qc qa : Nat → List UInt8} (hS : schErr S = 0) (hi : i < S.n) (h0 : Quiet q0) (h1 : Quiet q1) (h2 : Quiet q2) (h3 : Quiet q3) (hc : ∀ k, k < S.ln i → Quiet (qc k)) (ha : ∀ k, k < S.ln i → Quiet (qa k)) (r : List UInt8) :
    cutL (tgText q0 q1 q2 q3 qc qa S i ++ r) = typToks S i ++ cutL r := by
  have hn := ((sch_zero hS).2.2 i hi).1
  have e : tgText q0 q1 q2 q3 qc qa S i ++ r = [116, 121, 112, 101] ++ (32 :: (q0 ++ ((S.nm i).data.toList ++ (q1 ++ (40 :: (q2 ++ (agText qc qa S i (S.ln i) ++ (41 :: (q3 ++ r))))))))) := by
    simp [tgText]
  rw [e, cutL_word (by simp) (by decide) (noword_cons (by decide)), cutL_blank (by decide), h0.cut, cut_name hn h1 (noword_cons (by decide)), cutL_mk (by decide) (by decide) (by decide), h2.cut, cut_attrs hS hi hc ha _ _ (Nat.le_refl _) (Or.inr (noword_cons (by decide))), cutL_mk (by decide) (by decide) (by decide), h3.cut]
  simp [typToks, tyT]
/-! ### The print -/
theorem attrAcc_list (S : Sch) (i : Nat) (out : ByteArray) : ∀ k, (attrAcc S i out k).data.toList = out.data.toList ++ ([116, 121, 112, 101, 32] ++ ((S.nm i).data.toList ++ (40 :: agText (fun _ => [32]) (fun _ => []) S i k)))
  | 0 => by simp [attrAcc, agText]
  | 1 => by simp [attrAcc, agText]
  | k + 2 => by
    rw [attrAcc, bytes_append, bytes_append, attrAcc_list S i out (k + 1)]
    conv => rhs; rw [agText]
    simp
theorem schAcc_list (S : Sch) (n : Nat) : (schAcc S (n + 1)).data.toList = (schAcc S n).data.toList ++ tgText [] [] [] [10] (fun _ => [32]) (fun _ => []) S n := by
  rw [schAcc, bytes_append, attrAcc_list]
  simp [tgText]
theorem quiet_sp : Quiet [32] := quiet_blank (by decide) quiet_nil
theorem quiet_nl : Quiet [10] := quiet_blank (by decide) quiet_nil
theorem cut_print (hS : schErr S = 0) : ∀ n (r : List UInt8), n ≤ S.n → cutL ((schAcc S n).data.toList ++ r) = allToks S n ++ cutL r
  | 0, r, _ => rfl
  | n + 1, r, h => by
    rw [schAcc_list, List.append_assoc, cut_print hS n _ (by omega), cut_type hS (by omega) quiet_nil quiet_nil quiet_nil quiet_nl (fun _ _ => quiet_sp) (fun _ _ => quiet_nil), allToks, List.append_assoc]
/-- A schema's print is read as the schema. -/
theorem print_back (hS : schErr S = 0) : parseRes (schOut S) = ⟨0, 0, tsR S S.n⟩ := by
  rw [schOut_ok hS]
  refine parse_back hS ?_ ?_
  · have h1 := schAcc_size (small_of hS) S.n (Nat.le_refl _)
    have h2 := (sch_zero hS).2.1
    omega
  · have := cut_print hS S.n [] (Nat.le_refl _)
    rw [List.append_nil, cutL_nil, List.append_nil] at this
    exact this
end
end Go.Proofs.YtppeonlpocdhkaaDoor

/-! ### An event's line is read back as the event. -/
namespace Go.Proofs.YtppeonlpocdhkaaDoor
open Go.RowKit
theorem idGo_append (acc : Nat) (l r : List UInt8) : idGo acc (l ++ r) = (idGo acc l).bind fun a => idGo a r := by
  induction l generalizing acc with
  | nil => rfl
  | cons c l ih =>
    rw [List.cons_append, idGo, idGo]
    split
    · split
      · rfl
      · exact ih _
    · rfl
theorem digit_of {d : Nat} (h : d < 10) : (UInt8.ofNat (48 + d)).toNat = 48 + d := UInt8.toNat_ofNat_of_lt' (by simp [UInt8.size]; omega)
theorem idGo_digit {a d : Nat} (h : d < 10) (hle : a * 10 + d ≤ 18446744073709551615) : idGo a [UInt8.ofNat (48 + d)] = some (a * 10 + d) := by
  have h1 := digit_of h
  rw [idGo, if_pos (digU_iff.2 (by omega)), h1, if_neg (by omega)]
  show some (a * 10 + (48 + d - 48)) = _
  rw [Nat.add_sub_cancel_left]
theorem idGo_dec (u : Nat) : u ≤ 18446744073709551615 → idGo 0 (Lib.decDigits u) = some u := by
  induction u using Nat.strongRecOn with
  | _ u ih =>
    intro hu
    rw [Lib.decDigits]
    by_cases h : u < 10
    · rw [dif_pos h, idGo_digit h (by omega)]
      simp
    · rw [dif_neg h, idGo_append, ih (u / 10) (by omega) (by omega), Option.bind_some, idGo_digit (by omega) (by omega)]
      congr 1
      omega
theorem dec_ne (u : Nat) : Lib.decDigits u ≠ [] := by
  rw [Lib.decDigits]
  split <;> simp
theorem dec_dig (u : Nat) : ∀ c ∈ Lib.decDigits u, digU c = true := by
  induction u using Nat.strongRecOn with
  | _ u ih =>
    intro c hc
    rw [Lib.decDigits] at hc
    by_cases h : u < 10
    · rw [dif_pos h] at hc
      simp only [List.mem_singleton] at hc
      subst hc
      exact digU_iff.2 (by rw [digit_of h]; omega)
    · rw [dif_neg h] at hc
      rcases List.mem_append.1 hc with hc | hc
      · exact ih (u / 10) (by omega) c hc
      · simp only [List.mem_singleton] at hc
        subst hc
        exact digU_iff.2 (by rw [digit_of (by omega)]; omega)
theorem idL_dec {u : Nat} (hu : u ≤ 18446744073709551615) : idL (Lib.decDigits u) = some u := by
  unfold idL
  rw [if_neg (dec_ne u), idGo_dec u hu]
theorem numL_itoa {n : Int} (h0 : -9223372036854775808 ≤ n) (h1 : n ≤ 9223372036854775807) : numL (Lib.itoa n) = some n := by
  unfold Lib.itoa
  by_cases hn : n < 0
  · rw [if_pos hn]
    unfold numL
    dsimp only
    rw [if_pos (by decide), idL_dec (by omega)]
    dsimp only
    rw [if_neg (by omega)]
    congr 1
    omega
  · rw [if_neg hn]
    have hd := dec_dig n.toNat
    have hi := idL_dec (u := n.toNat) (by omega)
    have hne := dec_ne n.toNat
    generalize Lib.decDigits n.toNat = l at *
    cases l with
    | nil => exact absurd rfl hne
    | cons c r =>
      have := digU_iff.1 (hd c (by simp))
      unfold numL
      dsimp only
      rw [if_neg (by omega), hi]
      dsimp only
      rw [if_neg (by omega)]
      congr 1
      omega
theorem dig_gap {c : UInt8} (h : digU c = true) : nogapU c = true := by
  have := digU_iff.1 h
  unfold nogapU gapI
  have h1 : (c.toNat == 32) = false := by rw [beq_eq_false_iff_ne]; omega
  have h2 : (c.toNat == 9) = false := by rw [beq_eq_false_iff_ne]; omega
  rw [h1, h2]
  rfl
theorem word_gap {c : UInt8} (h : wordU c = true) : nogapU c = true := by
  have h1 := (word_not h).1
  unfold nogapU gapI
  unfold blankU blankI at h1
  simp only [Bool.or_eq_false_iff] at h1
  rw [h1.1.1.1, h1.1.1.2]
  rfl
/-- A word of a line: not empty, and without gaps. -/
def Wd (l : List UInt8) : Prop := l ≠ [] ∧ ∀ c ∈ l, nogapU c = true
theorem wd_itoa (n : Int) : Wd (Lib.itoa n) := by
  unfold Lib.itoa
  split
  · refine ⟨by simp, fun c hc => ?_⟩
    rcases List.mem_cons.1 hc with rfl | hc
    · decide
    · exact dig_gap (dec_dig _ c hc)
  · exact ⟨dec_ne _, fun c hc => dig_gap (dec_dig _ c hc)⟩
theorem wd_dec (u : Nat) : Wd (Lib.decDigits u) := ⟨dec_ne u, fun c hc => dig_gap (dec_dig _ c hc)⟩
theorem wd_name {x : ByteArray} (h : nameB x = true) : Wd x.data.toList := ⟨(nm_word h).1, fun c hc => word_gap ((nm_word h).2 c hc)⟩
/-- Words with one gap between them. -/
def joinW : List (List UInt8) → List UInt8
  | [] => []
  | [w] => w
  | w :: v :: r => w ++ (32 :: joinW (v :: r))
theorem words_join : ∀ l : List (List UInt8), (∀ w ∈ l, Wd w) → wordsL (joinW l) = l
  | [], _ => wordsL_nil
  | [w], h => by
    have hw := h w (by simp)
    have := wordsL_word (r := []) hw.1 hw.2 (fun c r e => by cases e)
    rw [List.append_nil, wordsL_nil] at this
    exact this
  | w :: v :: r, h => by
    have hw := h w (by simp)
    rw [joinW, wordsL_word hw.1 hw.2 (fun c r e => by injection e with e _; subst e; decide), wordsL_gap (by decide), words_join (v :: r) (fun w hw => h w (by simp [hw]))]
theorem joinW_snoc : ∀ (l : List (List UInt8)) (w : List UInt8), l ≠ [] → joinW (l ++ [w]) = joinW l ++ (32 :: w)
  | [], _, h => absurd rfl h
  | [v], w, _ => rfl
  | v :: u :: r, w, _ => by
    have := joinW_snoc (u :: r) w (by simp)
    rw [List.cons_append, List.cons_append, joinW, ← List.cons_append, this, joinW]
    simp
/-- The words of an event's line. -/
def evWords (S : Sch) (ts id : Int) (k : Nat) (a : Nat → Int) (n : Nat) : List (List UInt8) := [Lib.itoa ts, Lib.decDigits id.toNat, (S.nm k).data.toList] ++ (List.range n).map fun j => Lib.itoa (a j)
theorem evWords_succ (S : Sch) (ts id : Int) (k : Nat) (a : Nat → Int) (n : Nat) : evWords S ts id k a (n + 1) = evWords S ts id k a n ++ [Lib.itoa (a n)] := by simp [evWords, List.range_succ]
theorem evText_list (S : Sch) (ts id : Int) (k : Nat) (a : Nat → Int) : ∀ n, (evText S ts id k a n).data.toList = joinW (evWords S ts id k a n)
  | 0 => by simp [evText, dec, decU, sp, evWords, joinW]
  | n + 1 => by
    rw [evText, bytes_append, bytes_append, evText_list S ts id k a n, evWords_succ, joinW_snoc _ _ (by simp [evWords])]
    simp [sp, dec]
section
variable {S : Sch} {ts id : Int} {k : Nat} {a : Nat → Int}
theorem evText_words (hS : schErr S = 0) (hk : k < S.n) : wordsL (evText S ts id k a (S.ln k)).data.toList = evWords S ts id k a (S.ln k) := by
  rw [evText_list]
  refine words_join _ fun w hw => ?_
  unfold evWords at hw
  rcases List.mem_append.1 hw with h | h
  · simp only [List.mem_cons, List.not_mem_nil, or_false] at h
    rcases h with rfl | rfl | rfl
    · exact wd_itoa _
    · exact wd_dec _
    · exact wd_name ((sch_zero hS).2.2 k hk).1
  · obtain ⟨j, _, rfl⟩ := List.mem_map.1 h
    exact wd_itoa _
/-- What an event's line says. -/
theorem event_back (hE : evErr S ts k a = 0) (w0 : -9223372036854775808 ≤ ts ∧ ts ≤ 9223372036854775807) (w1 : 0 ≤ id ∧ id ≤ 18446744073709551615) (wa : ∀ j, j < 8 → -9223372036854775808 ≤ a j ∧ a j ≤ 9223372036854775807) :
    ∃ f, evRes S (evText S ts id k a (S.ln k)) = ⟨0, 0, ts, id.toNat, k, f⟩ ∧ ∀ j, j < 8 → f j = a j := by
  obtain ⟨hS, k', hk', hk⟩ := evErr_zero hE
  obtain rfl : k' = k := by omega
  have hl8 := ((sch_zero hS).2.2 k' hk).2.2.1
  have htail : tailB a (S.ln k') = false := by
    cases ht : tailB a (S.ln k')
    · rfl
    · rw [evErr_attrs hS hk ht] at hE; cases hE
  have hrg : ¬ (ts < -1152921504606846976 ∨ 1152921504606846976 < ts) := by
    intro h
    rw [evErr_range hS hk htail h] at hE
    cases hE
  have hW := evText_words (ts := ts) (id := id) (a := a) hS hk
  generalize evText S ts id k' a (S.ln k') = s at *
  have hx : ∀ i, (wtx s (wordsE s 0) i).data.toList = (evWords S ts id k' a (S.ln k')).getD i [] := fun i => by rw [wtx_list, hW]
  have hlen : (wordsE s 0).length = 3 + S.ln k' := by rw [words_count, hW]; simp [evWords]; omega
  have h0 : numT (wtx s (wordsE s 0) 0) = some ts := by
    unfold numT
    rw [hx 0]
    exact numL_itoa w0.1 w0.2
  have h1 : idT (wtx s (wordsE s 0) 1) = some id.toNat := by
    unfold idT
    rw [hx 1]
    exact idL_dec (by omega)
  have h2 : typeI S (wtx s (wordsE s 0) 2) = (k' : Nat) := by
    have e : (wtx s (wordsE s 0) 2).toList = (S.nm k').toList := by
      rw [ByteArray.toList_eq, ByteArray.toList_eq, hx 2]
      rfl
    have := place_once (f := S.nm) hk ((sch_zero hS).2.2 k' hk).2.1
    unfold typeI placeI
    rw [e]
    exact this
  have hv : ∀ j, j < S.ln k' → numT (wtx s (wordsE s 0) (3 + j)) = some (a j) := by
    intro j hj
    obtain ⟨b0, b1⟩ := wa j (by omega)
    unfold numT
    rw [hx (3 + j)]
    have : (evWords S ts id k' a (S.ln k')).getD (3 + j) [] = Lib.itoa (a j) := by
      unfold evWords
      rw [List.getD_eq_getElem?_getD, List.getElem?_append_right (by simp)]
      simp [hj]
    rw [this]
    exact numL_itoa b0 b1
  have hH : headR S s (wordsE s 0) = ⟨0, 0, ts, id.toNat, k'⟩ := by
    rw [headR_ok h0 hrg h1 (by omega) (by rw [h2]; omega), h2]
    rfl
  have hA : ∀ m i, i + m = S.ln k' → attrsR s (wordsE s 0) (S.ln k') i = (0, 0) := by
    intro m
    induction m with
    | zero => intro i hi; exact attrs_done (by omega) (by omega)
    | succ m ih =>
      intro i hi
      rw [attrs_next (by omega) (by omega) (hv i (by omega))]
      exact ih (i + 1) (by omega)
  refine ⟨_, evRes_ok rfl hS hH (hA _ 0 (Nat.zero_add _)), fun j hj => ?_⟩
  unfold attrV
  by_cases hj2 : j < S.ln k'
  · rw [if_pos hj2, hv j hj2]
    rfl
  · rw [if_neg hj2]
    cases hz : (a j != 0)
    · have : a j = 0 := by simpa using hz
      exact this.symm
    · rw [tailB_hit (by omega) hj hz] at htail
      cases htail
end
end Go.Proofs.YtppeonlpocdhkaaDoor

/-! ### A list of events that is handed in. -/
namespace Go.Proofs.YtppeonlpocdhkaaDoor
open Go.RowKit Go.ChangeShapes Go.WideShapes Go.Deep
structure Evt where
  ts : Int
  id : Int
  ty : Int
  a : Nat → Int
structure EvtWf (x : Evt) : Prop where
  ts : -9223372036854775808 ≤ x.ts ∧ x.ts ≤ 9223372036854775807
  id : 0 ≤ x.id ∧ x.id ≤ 18446744073709551615
  ty : -9223372036854775808 ≤ x.ty ∧ x.ty ≤ 9223372036854775807
  a : ∀ j, j < 8 → -9223372036854775808 ≤ x.a j ∧ x.a j ≤ 9223372036854775807
def evtCells (x : Evt) : Array Value := evCells x.ts x.id x.ty x.a
def evtC (x : Evt) (i : Nat) : Value := (evtCells x)[i]?.getD (.bool false)
def EvtRd (w : World) (B : Nat) (A : Option Addr) (n : Nat) (f : Nat → Evt) : Prop := RowRd w B A n 11 88 (fun j => evtC (f j))
section
variable {w w' : World} {B n : Nat} {A : Option Addr} {f : Nat → Evt}
theorem EvtRd.later (h : EvtRd w w.heap.size A n f) (hb : Below w.heap.size w w') : EvtRd w' w'.heap.size A n f := RowRd.later h hb
theorem EvtRd.small (h : EvtRd w B A n f) : n ≤ 1599289640401 := by have := h.1; omega
theorem EvtRd.spot (h : EvtRd w B A n f) (hn : 0 < n) : ∃ b off, A = some ⟨b, off, none⟩ ∧ b < B ∧ ∀ j, j < n →
    w.cell? ⟨b, off + j * 11, none⟩ = some (.int .i64 (f j).ts) ∧ w.cell? ⟨b, off + j * 11 + 1, none⟩ = some (.int .u64 (f j).id) ∧ w.cell? ⟨b, off + j * 11 + 2, none⟩ = some (.int .i64 (f j).ty) ∧
    w.cell? ⟨b, off + j * 11 + 3, none⟩ = some (.int .i64 ((f j).a 0)) ∧ w.cell? ⟨b, off + j * 11 + 4, none⟩ = some (.int .i64 ((f j).a 1)) ∧ w.cell? ⟨b, off + j * 11 + 5, none⟩ = some (.int .i64 ((f j).a 2)) ∧ w.cell? ⟨b, off + j * 11 + 6, none⟩ = some (.int .i64 ((f j).a 3)) ∧
    w.cell? ⟨b, off + j * 11 + 7, none⟩ = some (.int .i64 ((f j).a 4)) ∧ w.cell? ⟨b, off + j * 11 + 8, none⟩ = some (.int .i64 ((f j).a 5)) ∧ w.cell? ⟨b, off + j * 11 + 9, none⟩ = some (.int .i64 ((f j).a 6)) ∧ w.cell? ⟨b, off + j * 11 + 10, none⟩ = some (.int .i64 ((f j).a 7)) := by
  obtain ⟨b, off, e, hb, h1, h2⟩ := RowRd.spot h hn
  exact ⟨b, off, e, hb, fun j hj => ⟨h2 j hj (by omega), h1 j hj 1 (by omega), h1 j hj 2 (by omega), h1 j hj 3 (by omega), h1 j hj 4 (by omega), h1 j hj 5 (by omega), h1 j hj 6 (by omega), h1 j hj 7 (by omega), h1 j hj 8 (by omega), h1 j hj 9 (by omega), h1 j hj 10 (by omega)⟩⟩
end
section
variable {H : Type} {enc : TypeId × Value → H} {w : World} {base : Nat} {sp : Nat → Bool} {held : Bool}
set_option maxRecDepth 8000 in
theorem rd_events {fuel : Nat} {v : Value} {y : DataW H × List MemPlace} (h : DataW.trod enc Tryd.prog w base sp held fuel 56 [v] = some y) (hr : Reached Tryd.prog 56 y.1) :
    ∃ (A : Option Addr) (n cap : Nat) (f : Nat → Evt), v = .slice A n cap ∧ n ≤ cap ∧ (A = none → cap = 0) ∧ EvtRd w w.heap.size A n f ∧ ∀ j, j < n → EvtWf (f j) := by
  have hc11 : Tryd.prog.cellsOf 29 = 11 := by kernel_rfl
  have hb88 : Tryd.prog.bytesOf 29 = 88 := by kernel_rfl
  obtain ⟨A, n, cap, E, rfl, hl, h0, hE, hR⟩ := rd_slice Tryd.underlying56 hc11 (by omega) hb88 h hr
  have k1 : Tryd.prog.cellsOf 2 = 1 := by kernel_rfl
  have k2 : Tryd.prog.cellsOf 26 = 1 := by kernel_rfl
  have k3 : Tryd.prog.cellsOf 3 = 1 := by kernel_rfl
  have k4 : Tryd.prog.cellsOf 27 = 8 := by kernel_rfl
  have key : ∀ j, ∃ x : Evt, j < n → E j = (evtCells x).toList ∧ EvtWf x := by
    intro j
    by_cases hj : j < n
    · obtain ⟨hlen, f, y', ht', _⟩ := hE j hj
      match hE' : E j, hlen with
      | [c0, c1, c2, c3, c4, c5, c6, c7, c8, c9, c10], _ =>
        rw [hE'] at ht'
        obtain ⟨xs, m, _, hx, _, hl2, hg⟩ := DataW.trod_struct Tryd.underlying29 ht'
        match xs, hl2 with
        | [y0, y1, y2, y3], _ =>
          have g0 := hg 0 _ rfl
          have g1 := hg 1 _ rfl
          have g2 := hg 2 _ rfl
          have g3 := hg 3 _ rfl
          simp [k1, k2, k3, k4] at g0 g1 g2 g3
          obtain ⟨ts, e0, _, w0⟩ := DataW.trod_int Tryd.underlying2 g0
          obtain ⟨id, e1, _, w1⟩ := DataW.trod_int Tryd.underlying26 g1
          obtain ⟨ty, e2, _, w2⟩ := DataW.trod_int Tryd.underlying3 g2
          obtain ⟨a, ha⟩ := arr_ints Tryd.underlying27 Tryd.underlying2 k1 k4 g3
          injection e0 with e0
          injection e1 with e1
          injection e2 with e2
          have q0 := (ha 0 (by omega)).1
          have q1 := (ha 1 (by omega)).1
          have q2 := (ha 2 (by omega)).1
          have q3 := (ha 3 (by omega)).1
          have q4 := (ha 4 (by omega)).1
          have q5 := (ha 5 (by omega)).1
          have q6 := (ha 6 (by omega)).1
          have q7 := (ha 7 (by omega)).1
          simp at q0 q1 q2 q3 q4 q5 q6 q7
          refine ⟨⟨ts, id, ty, a⟩, fun _ => ⟨?_, bounds_i64 w0, bounds_u64 w1, bounds_i64 w2, fun j hj => bounds_i64 (ha j hj).2⟩⟩
          rw [e0, e1, e2, q0, q1, q2, q3, q4, q5, q6, q7]
          rfl
    · exact ⟨⟨0, 0, 0, fun _ => 0⟩, fun h => absurd h hj⟩
  obtain ⟨f, hf⟩ := Classical.axiomOfChoice key
  refine ⟨A, n, cap, f, rfl, hl, h0, hR.congr fun j hj i hi => ?_, fun j hj => (hf j hj).2⟩
  rw [(hf j hj).1]
  unfold evtC
  rw [Array.getElem?_toList]
end
end Go.Proofs.YtppeonlpocdhkaaDoor

/-! ### The variable ErrRange: what the rows list of it. -/
namespace Go.Proofs.YtppeonlpocdhkaaDoor
open Go.RowKit
theorem gErr : Tryd.prog.globalNamed "strconv.ErrRange" = some 4 := by kernel_rfl
theorem tErr : (Tryd.prog.globals[4]?).map (·.type) = some 67 := by kernel_rfl
theorem iface_cell {P : Program} {w : World} {base fuel : Nat} {sp : Nat → Bool} {t : TypeId} {ms : Array (String × TypeId)} {l : List Value} {nm : String} {d : DataW Unit} {p : List MemPlace} (ht : P.underlying t = some (.interface ms))
    (h : DataW.trod (fun _ => ()) P w base sp false fuel t l = some (.iface nm d, p)) : ∃ u v, l = [.iface u v] := by
  cases fuel with
  | zero => simp [DataW.trod] at h
  | succ fuel =>
    simp only [DataW.trod, ht] at h
    split at h <;> first | exact ⟨_, _, rfl⟩ | (rename_i heq; injection heq with heq; cases heq; done) | (simp at h; done) | simp_all
theorem errVar {W : World} {laid : List (String × DataW Unit)} (h : laidMet Tryd.prog laid W) (i : Nat) (hi : laid[i]? = some ("strconv.ErrRange", Rows.laid_strconv_ErrRange)) : ErrV W := by
  obtain ⟨cs, fuel, p, hv, hd⟩ := laid_at h i hi gErr tErr
  obtain ⟨t, fr, hb⟩ := var_block gErr hv
  obtain ⟨u, v, e⟩ := iface_cell Tryd.underlying67 hd
  refine ⟨u, v, (Lib.cell_of_heap hb 0).trans ?_⟩
  obtain ⟨l⟩ := cs
  have e' : l = [.iface u v] := e
  subst e'
  rfl
end Go.Proofs.YtppeonlpocdhkaaDoor

/-! ### The values of an event are the same as themselves. -/
namespace Go.Proofs.YtppeonlpocdhkaaDoor
open Go.RowKit Go.ChangeShapes Go.WideShapes Go.ChangeAt Go.Deep
theorem info64 : (Tryd.prog.info? 2).map (fun i => (i.zero, i.size, i.bytes)) = some (some (.int .i64 0), 1, 8) := by kernel_rfl
theorem cells64 : Tryd.prog.cellsOf 2 = 1 := by kernel_rfl
/-- The values of an event are the same as themselves. -/
theorem arr8_same (a : Nat → Int) (w : World) : (Op.equalIn 9999 27 (.agg #[.int .i64 (a 0), .int .i64 (a 1), .int .i64 (a 2), .int .i64 (a 3), .int .i64 (a 4), .int .i64 (a 5), .int .i64 (a 6), .int .i64 (a 7)]) (.agg #[.int .i64 (a 0), .int .i64 (a 1), .int .i64 (a 2), .int .i64 (a 3), .int .i64 (a 4), .int .i64 (a 5), .int .i64 (a 6), .int .i64 (a 7)])).run Tryd.prog w = .ok true w := by
  obtain ⟨i0, hi0, _⟩ := info_parts info64
  refine (run_equalIn_array w 9998 _ _ Tryd.underlying27 hi0).trans ?_
  rw [cells64]
  simp [Op.eqItems, List.range_succ, go_sem]
end Go.Proofs.YtppeonlpocdhkaaDoor

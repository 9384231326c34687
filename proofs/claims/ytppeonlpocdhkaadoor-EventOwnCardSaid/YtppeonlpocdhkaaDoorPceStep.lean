/-
  What the reference asks of a piece, and what the reading does at it.
-/
import Derived.Test.YtppeonlpocdhkaaDoorCutRef
set_option linter.unusedVariables false
namespace Go.Proofs.YtppeonlpocdhkaaDoor
open Go.RowKit
def isB (s : ByteArray) (L : List Pce) (i : Nat) (want : ByteArray) : Bool := decide (i < L.length) && ((s.extract (gp L i).a (gp L i).z).toList == want.toList)
def wordB (s : ByteArray) (L : List Pce) (i : Nat) : Bool := decide (i < L.length) && ((gp L i).wd && !digI (byteAt s (gp L i).a))
def placeN (s : ByteArray) (L : List Pce) (i : Nat) : Nat := if i < L.length then (gp L i).a else s.size
def wdAt (s : ByteArray) (L : List Pce) (i : Nat) : ByteArray := s.extract (gp L i).a (gp L i).z
def AllOk (s : ByteArray) (L : List Pce) : Prop := ∀ i, i < L.length → PceOk s (gp L i)
theorem allok_cut (s : ByteArray) : AllOk s (cutFrom s 0) := by
  intro i hi
  have : gp (cutFrom s 0) i = (cutFrom s 0)[i] := by simp [gp, hi]
  rw [this]
  exact cut_ok s 0 _ (List.getElem_mem hi)
theorem gp_drops {L : List Pce} {i : Nat} (h : i < L.length) : L.drop i = gp L i :: L.drop (i + 1) := by
  rw [List.drop_eq_getElem_cons h]
  simp [gp, h]
section
variable {s : ByteArray} {p : Pce}
theorem ok_lt (h : PceOk s p) : p.a < s.size := Nat.lt_of_lt_of_le h.lt h.le
theorem ext_zero {a z : Nat} (h : a < z) (hz : z ≤ s.size) : ∃ l, (s.extract a z).data.toList = s[a]'(by omega) :: l := by
  have hs : 0 < (s.extract a z).size := by rw [ByteArray.size_extract]; omega
  have h1 : (s.extract a z).data.toList ≠ [] := by
    intro e
    have : (s.extract a z).data.toList.length = (s.extract a z).size := rfl
    rw [e] at this
    simp at this
    omega
  obtain ⟨x, l, e⟩ := List.exists_cons_of_ne_nil h1
  refine ⟨l, ?_⟩
  have h2 : (s.extract a z)[0] = s[a]'(by omega) := by simp [ByteArray.getElem_extract]
  have h3 : (s.extract a z).data.toList[0]'(by rw [e]; simp) = (s.extract a z)[0] := rfl
  have h4 : (s.extract a z).data.toList[0]? = some x := by rw [e]; rfl
  rw [List.getElem?_eq_getElem (by rw [e]; simp)] at h4
  injection h4 with h4
  rw [e, ← h2, ← h3, h4]
theorem ext_first (h : PceOk s p) : first0 (s.extract p.a p.z) = s[p.a]'(ok_lt h) := by
  obtain ⟨l, e⟩ := ext_zero h.lt h.le
  rw [first0, e]
  rfl
theorem ok_mark (h : PceOk s p) (hw : p.wd = false) : (s.extract p.a p.z).toList = [s[p.a]'(ok_lt h)] := by
  obtain ⟨l, e⟩ := ext_zero h.lt h.le
  have h1 : (s.extract p.a p.z).data.toList.length = (s.extract p.a p.z).size := rfl
  have h3 := (h.mark hw).1
  rw [e, ByteArray.size_extract] at h1
  have h2 := ok_lt h
  simp only [List.length_cons] at h1
  have hl : l.length = 0 := by omega
  rw [ByteArray.toList_eq, e, List.length_eq_zero_iff.1 hl]
theorem piece_char (h : PceOk s p) {c : UInt8} (hc : wordI c.toNat = false) : ((s.extract p.a p.z).toList == [c]) = true ↔ p.wd = false ∧ byteAt s p.a = c.toNat := by
  constructor
  · intro e
    have e := eq_of_beq e
    cases hw : p.wd
    · rw [ok_mark h hw] at e
      injection e with e
      exact ⟨rfl, by rw [byteAt_eq (ok_lt h), e]⟩
    · exfalso
      obtain ⟨l, e2⟩ := ext_zero h.lt h.le
      rw [ByteArray.toList_eq, e2] at e
      injection e with e _
      have := h.words hw p.a (Nat.le_refl _) h.lt (ok_lt h)
      rw [e, hc] at this
      cases this
  · rintro ⟨hw, hb⟩
    rw [ok_mark h hw, beq_iff_eq]
    rw [byteAt_eq (ok_lt h)] at hb
    rw [UInt8.toNat_inj.1 hb]
theorem piece_long (h : PceOk s p) {a b : UInt8} {l : List UInt8} (e : ((s.extract p.a p.z).toList == a :: b :: l) = true) : p.wd = true := by
  cases hw : p.wd
  · have e := eq_of_beq e
    rw [ok_mark h hw] at e
    injection e with _ e
    cases e
  · rfl
end
section
variable {s : ByteArray} {L : List Pce} {i c : Nat} {ts : TList} {nm : ByteArray} {al : List ByteArray} {w : ByteArray} {st : Gst}
theorem isB_lt (h : isB s L i w = true) : i < L.length := by
  simp only [isB, Bool.and_eq_true, decide_eq_true_eq] at h
  exact h.1
theorem isB_eq (h : i < L.length) : isB s L i w = ((s.extract (gp L i).a (gp L i).z).toList == w.toList) := by simp [isB, h]
theorem wordB_lt (h : wordB s L i = true) : i < L.length := by
  simp only [wordB, Bool.and_eq_true, decide_eq_true_eq] at h
  exact h.1
theorem place_in (h : i < L.length) : placeN s L i = (gp L i).a := if_pos h
theorem place_out (h : ¬ i < L.length) : placeN s L i = s.size := if_neg h
/-- The pieces are at their end, and something is wanted. -/
theorem gfin_out (h : ¬ i < L.length) (hw : st.want ≠ 0) : gfin s st (L.drop i) = ⟨21, placeN s L i, []⟩ := by
  rw [place_out h, List.drop_of_length_le (by omega), gfin, gend, if_pos hw]
theorem gfin_err {e : Int} (h : i < L.length) (hb : (gstep s st (gp L i)).1 = e) (he : e ≠ 0) : gfin s st (L.drop i) = ⟨e, placeN s L i, []⟩ := by
  rw [place_in h, gp_drops h]
  exact gfin_bad (st' := (gstep s st (gp L i)).2) (by rw [← hb]) he
theorem gfin_go {st' : Gst} (h : i < L.length) (hb : gstep s st (gp L i) = (0, st')) : gfin s st (L.drop i) = gfin s st' (L.drop (i + 1)) := by
  rw [gp_drops h]
  exact gfin_ok hb
def tyB : ByteArray := ⟨#[116, 121, 112, 101]⟩
theorem tyB_list : tyB.toList = [116, 121, 112, 101] := by rw [ByteArray.toList_eq]; rfl
theorem st0_no (hi : i < L.length) (h : isB s L i tyB = false) : gfin s ⟨0, ts⟩ (L.drop i) = ⟨21, placeN s L i, []⟩ := by
  rw [isB_eq hi, tyB_list] at h
  refine gfin_err hi ?_ (by decide)
  cases hw : (gp L i).wd
  · rw [gstep_mark hw, gmark_bad (by omega) (by omega) (by omega)]
  · rw [gstep_word hw, gword0_word h]
theorem st0_many (ha : AllOk s L) (h : isB s L i tyB = true) (hl : ts.length = 16) : gfin s ⟨0, ts⟩ (L.drop i) = ⟨23, placeN s L i, []⟩ := by
  have hi := isB_lt h
  rw [isB_eq hi, tyB_list] at h
  refine gfin_err hi ?_ (by decide)
  rw [gstep_word (piece_long (ha i hi) h), gword0_many h hl]
theorem st0_ok (ha : AllOk s L) (h : isB s L i tyB = true) (hl : ts.length ≠ 16) : gfin s ⟨0, ts⟩ (L.drop i) = gfin s ⟨1, ts⟩ (L.drop (i + 1)) := by
  have hi := isB_lt h
  rw [isB_eq hi, tyB_list] at h
  refine gfin_go hi ?_
  rw [gstep_word (piece_long (ha i hi) h), gword0_ok h hl]
/-- No word where one is wanted. -/
theorem not_word (ha : AllOk s L) (hi : i < L.length) (h : wordB s L i = false) : (gp L i).wd = false ∨ (gp L i).wd = true ∧ digI (first0 (wdAt s L i)).toNat = true := by
  cases hw : (gp L i).wd
  · exact Or.inl rfl
  · refine Or.inr ⟨rfl, ?_⟩
    have h1 : digI (byteAt s (gp L i).a) = true := by simpa [wordB, hi, hw] using h
    rw [byteAt_eq (ok_lt (ha i hi))] at h1
    rw [wdAt, ext_first (ha i hi)]
    exact h1
theorem is_word (ha : AllOk s L) (h : wordB s L i = true) : (gp L i).wd = true ∧ digI (first0 (wdAt s L i)).toNat = false := by
  have hi := wordB_lt h
  simp only [wordB, Bool.and_eq_true, decide_eq_true_eq, Bool.not_eq_true'] at h
  refine ⟨h.2.1, ?_⟩
  have h1 := h.2.2
  rw [byteAt_eq (ok_lt (ha i hi))] at h1
  rw [wdAt, ext_first (ha i hi)]
  exact h1
theorem st1_no (ha : AllOk s L) (h : wordB s L i = false) : gfin s ⟨1, ts⟩ (L.drop i) = ⟨21, placeN s L i, []⟩ := by
  by_cases hi : i < L.length
  · refine gfin_err hi ?_ (by decide)
    rcases not_word ha hi h with hw | ⟨hw, hd⟩
    · rw [gstep_mark hw, gmark_bad (by omega) (by omega) (by omega)]
    · rw [gstep_word hw]
      show gname ts (wdAt s L i) = 21
      rw [gname, if_pos hd]
  · exact gfin_out hi (by show 1 ≠ 0; decide)
theorem st1_bad {e : Int} (ha : AllOk s L) (h : wordB s L i = true) (hg : gname ts (wdAt s L i) = e) (he : e ≠ 0) : gfin s ⟨1, ts⟩ (L.drop i) = ⟨e, placeN s L i, []⟩ := by
  refine gfin_err (wordB_lt h) ?_ he
  rw [gstep_word (is_word ha h).1]
  exact hg
theorem st1_ok (ha : AllOk s L) (h : wordB s L i = true) (hg : gname ts (wdAt s L i) = 0) : gfin s ⟨1, ts⟩ (L.drop i) = gfin s ⟨2, ts ++ [(wdAt s L i, [])]⟩ (L.drop (i + 1)) := by
  refine gfin_go (wordB_lt h) ?_
  rw [gstep_word (is_word ha h).1]
  show (gname ts (wdAt s L i), _) = _
  rw [hg]
  rfl
theorem isB_char (ha : AllOk s L) (hi : i < L.length) {x : UInt8} (hx : wordI x.toNat = false) : isB s L i ⟨#[x]⟩ = true ↔ (gp L i).wd = false ∧ byteAt s (gp L i).a = x.toNat := by
  rw [isB_eq hi]
  have e : (⟨#[x]⟩ : ByteArray).toList = [x] := by rw [ByteArray.toList_eq]
  rw [e]
  exact piece_char (ha i hi) hx
theorem st_mark {x : UInt8} {wt wt' : Nat} (ha : AllOk s L) (h : isB s L i ⟨#[x]⟩ = true) (hx : wordI x.toNat = false) (hm : gmark ⟨wt, ts⟩ x.toNat = (0, ⟨wt', ts⟩)) : gfin s ⟨wt, ts⟩ (L.drop i) = gfin s ⟨wt', ts⟩ (L.drop (i + 1)) := by
  have hi := isB_lt h
  obtain ⟨h1, h2⟩ := (isB_char ha hi hx).1 h
  refine gfin_go hi ?_
  rw [gstep_mark h1, h2, hm]
/-- A word or another mark where a mark is wanted. -/
theorem st2_no (ha : AllOk s L) (h : isB s L i ⟨#[40]⟩ = false) : gfin s ⟨2, ts⟩ (L.drop i) = ⟨21, placeN s L i, []⟩ := by
  by_cases hi : i < L.length
  · refine gfin_err hi ?_ (by decide)
    cases hw : (gp L i).wd
    · have h1 : ¬ byteAt s (gp L i).a = 40 := fun e => by
        rw [(isB_char ha hi (x := 40) (by decide)).2 ⟨hw, e⟩] at h
        cases h
      rw [gstep_mark hw, gmark_bad (by omega) (by omega) (by omega)]
    · rw [gstep_word hw]
      rfl
  · exact gfin_out hi (by show 2 ≠ 0; decide)
theorem st5_no (ha : AllOk s L) (h : isB s L i ⟨#[41]⟩ = false) (h2 : isB s L i ⟨#[44]⟩ = false) : gfin s ⟨5, ts⟩ (L.drop i) = ⟨21, placeN s L i, []⟩ := by
  by_cases hi : i < L.length
  · refine gfin_err hi ?_ (by decide)
    cases hw : (gp L i).wd
    · have h1 : ¬ byteAt s (gp L i).a = 41 := fun e => by
        rw [(isB_char ha hi (x := 41) (by decide)).2 ⟨hw, e⟩] at h
        cases h
      have h3 : ¬ byteAt s (gp L i).a = 44 := fun e => by
        rw [(isB_char ha hi (x := 44) (by decide)).2 ⟨hw, e⟩] at h2
        cases h2
      rw [gstep_mark hw, gmark_bad (by omega) (by omega) (by omega)]
    · rw [gstep_word hw]
      rfl
  · exact gfin_out hi (by show 5 ≠ 0; decide)
theorem stA_no {wt : Nat} (hwt : wt = 3 ∨ wt = 4) (ha : AllOk s L) (hc : wt = 3 → isB s L i ⟨#[41]⟩ = false) (h : wordB s L i = false) : gfin s ⟨wt, ts ++ [(nm, al)]⟩ (L.drop i) = ⟨21, placeN s L i, []⟩ := by
  by_cases hi : i < L.length
  · refine gfin_err hi ?_ (by decide)
    rcases not_word ha hi h with hw | ⟨hw, hd⟩
    · have h1 : ¬ (byteAt s (gp L i).a = 41 ∧ wt = 3) := fun e => by
        have := hc e.2
        rw [(isB_char ha hi (x := 41) (by decide)).2 ⟨hw, e.1⟩] at this
        cases this
      rw [gstep_mark hw, gmark_bad (by omega) (by omega) (by omega)]
    · rw [gstep_word hw, gword_attr hwt]
      show gattr al (wdAt s L i) = 21
      rw [gattr, if_pos hd]
  · exact gfin_out hi (by show wt ≠ 0; omega)
theorem stA_bad {wt : Nat} {e : Int} (hwt : wt = 3 ∨ wt = 4) (ha : AllOk s L) (h : wordB s L i = true) (hg : gattr al (wdAt s L i) = e) (he : e ≠ 0) : gfin s ⟨wt, ts ++ [(nm, al)]⟩ (L.drop i) = ⟨e, placeN s L i, []⟩ := by
  refine gfin_err (wordB_lt h) ?_ he
  rw [gstep_word (is_word ha h).1, gword_attr hwt]
  exact hg
theorem stA_ok {wt : Nat} (hwt : wt = 3 ∨ wt = 4) (ha : AllOk s L) (h : wordB s L i = true) (hg : gattr al (wdAt s L i) = 0) : gfin s ⟨wt, ts ++ [(nm, al)]⟩ (L.drop i) = gfin s ⟨5, ts ++ [(nm, al ++ [wdAt s L i])]⟩ (L.drop (i + 1)) := by
  refine gfin_go (wordB_lt h) ?_
  rw [gstep_word (is_word ha h).1, gword_attr hwt]
  show (gattr al (wdAt s L i), _) = _
  rw [hg]
  rfl
end
end Go.Proofs.YtppeonlpocdhkaaDoor

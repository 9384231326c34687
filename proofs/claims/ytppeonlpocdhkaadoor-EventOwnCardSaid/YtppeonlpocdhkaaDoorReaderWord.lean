/-
  The walk of the reader's word.
-/
import Derived.Test.YtppeonlpocdhkaaDoorReaderAttr
set_option linter.unusedSimpArgs false
set_option linter.unusedVariables false
namespace Go.Proofs.YtppeonlpocdhkaaDoor
open Go.RowKit Go.ChangeShapes Go.WideShapes Go.ChangeAt Go.Deep Go.Joins
/-- What holds of where a reading stands. -/
structure GOk (st : Gst) : Prop where
  want : st.want ≤ 5
  len : st.ts.length ≤ 16
  one : st.want = 1 → st.ts.length ≤ 15
  some_ : 2 ≤ st.want → st.ts ≠ []
  last : (lastA st.ts).length ≤ 8
theorem gok_zero : GOk ⟨0, []⟩ := ⟨by decide, by decide, by decide, by decide, by decide⟩
theorem last_form {ts : TList} (h : ts ≠ []) : ∃ t nm l, ts = t ++ [(nm, l)] := by
  refine ⟨ts.dropLast, (ts.getLast h).1, (ts.getLast h).2, ?_⟩
  exact (List.dropLast_concat_getLast h).symm
theorem gword_gok {st : Gst} {wd : ByteArray} (h : GOk st) (h0 : (gword st wd).1 = 0) : GOk (gword st wd).2 := by
  obtain ⟨wt, ts⟩ := st
  obtain ⟨a1, a2, a3, a4, a5⟩ := h
  have hw : wt = 0 ∨ wt = 1 ∨ wt = 2 ∨ wt = 3 ∨ wt = 4 ∨ wt = 5 := by
    have : wt ≤ 5 := a1
    omega
  rcases hw with rfl | rfl | rfl | rfl | rfl | rfl
  · have hl : ts.length ≠ 16 := by
      intro e
      have h1 : (if (wd.toList == [116, 121, 112, 101]) = false then (21 : Int) else if ts.length = 16 then 23 else 0) = 0 := h0
      rw [if_pos e] at h1
      split at h1 <;> cases h1
    have : ts.length ≤ 16 := a2
    exact ⟨by show 1 ≤ 5; decide, a2, fun _ => by show ts.length ≤ 15; omega, fun h => absurd (show 2 ≤ 1 from h) (by decide), a5⟩
  · have h15 : ts.length ≤ 15 := a3 rfl
    refine ⟨by show 2 ≤ 5; decide, by show (ts ++ [(wd, [])]).length ≤ 16; simp; omega, fun h => absurd (show 2 = 1 from h) (by decide), fun _ => by show ts ++ [(wd, [])] ≠ []; simp, ?_⟩
    show (lastA (ts ++ [(wd, [])])).length ≤ 8
    rw [lastA_snoc]
    simp
  · have h1 : (21 : Int) = 0 := h0
    cases h1
  all_goals first
    | (have h1 : (21 : Int) = 0 := h0
       cases h1)
    | (obtain ⟨t, nm, l, e⟩ := last_form (a4 (by dsimp only; omega))
       have e : ts = t ++ [(nm, l)] := e
       subst e
       rw [gword_attr (by decide)] at h0 ⊢
       have h8 : l.length ≤ 8 := by
         have h := a5
         have h : (lastA (t ++ [(nm, l)])).length ≤ 8 := h
         rwa [lastA_snoc] at h
       have h88 : l.length ≠ 8 := by
         intro e
         have h1 : gattr l wd = 0 := h0
         unfold gattr at h1
         rw [if_pos e] at h1
         split at h1 <;> cases h1
       have hl : (t ++ [(nm, l)]).length ≤ 16 := a2
       refine ⟨by show 5 ≤ 5; decide, by show (t ++ [(nm, l ++ [wd])]).length ≤ 16; simpa using hl, fun h => absurd (show 5 = 1 from h) (by decide), fun _ => by show t ++ [(nm, l ++ [wd])] ≠ []; simp, ?_⟩
       show (lastA (t ++ [(nm, l ++ [wd])])).length ≤ 8
       rw [lastA_snoc]
       simp
       omega)
theorem gmark_gok {st : Gst} {c : Nat} (h : GOk st) (h0 : (gmark st c).1 = 0) : GOk (gmark st c).2 := by
  obtain ⟨wt, ts⟩ := st
  obtain ⟨a1, a2, a3, a4, a5⟩ := h
  by_cases h1 : c = 40 ∧ wt = 2
  · rw [gmark_open h1.1 h1.2]
    exact ⟨by show 3 ≤ 5; decide, a2, fun h => absurd (show 3 = 1 from h) (by decide), fun _ => a4 (by show 2 ≤ wt; omega), a5⟩
  by_cases h2 : c = 41 ∧ (wt = 3 ∨ wt = 5)
  · rw [gmark_close h2.1 h2.2]
    exact ⟨by show 0 ≤ 5; decide, a2, fun h => absurd (show 0 = 1 from h) (by decide), fun h => absurd (show 2 ≤ 0 from h) (by decide), a5⟩
  by_cases h3 : c = 44 ∧ wt = 5
  · rw [gmark_comma h3.1 h3.2]
    exact ⟨by show 4 ≤ 5; decide, a2, fun h => absurd (show 4 = 1 from h) (by decide), fun _ => a4 (by show 2 ≤ wt; omega), a5⟩
  rw [gmark_bad h1 h2 h3] at h0
  cases h0
section
variable {ts : TList} {wd : ByteArray}
theorem gword0_word (h : (wd.toList == [116, 121, 112, 101]) = false) : gword ⟨0, ts⟩ wd = (21, ⟨1, ts⟩) := by
  show (if (wd.toList == [116, 121, 112, 101]) = false then (21 : Int) else if ts.length = 16 then 23 else 0, (⟨1, ts⟩ : Gst)) = _
  rw [if_pos h]
theorem gword0_many (h : (wd.toList == [116, 121, 112, 101]) = true) (h2 : ts.length = 16) : gword ⟨0, ts⟩ wd = (23, ⟨1, ts⟩) := by
  show (if (wd.toList == [116, 121, 112, 101]) = false then (21 : Int) else if ts.length = 16 then 23 else 0, (⟨1, ts⟩ : Gst)) = _
  rw [if_neg (by rw [h]; simp), if_pos h2]
theorem gword0_ok (h : (wd.toList == [116, 121, 112, 101]) = true) (h2 : ts.length ≠ 16) : gword ⟨0, ts⟩ wd = (0, ⟨1, ts⟩) := by
  show (if (wd.toList == [116, 121, 112, 101]) = false then (21 : Int) else if ts.length = 16 then 23 else 0, (⟨1, ts⟩ : Gst)) = _
  rw [if_neg (by rw [h]; simp), if_neg h2]
end
set_option maxRecDepth 100000 in
set_option maxHeartbeats 4000000 in
theorem word_any (B R : Nat) (st : Gst) (hst : GOk st) (pos p : Int) (v : Value) (wd : ByteArray) (w : World) (h : RdrAt w B R st.want v st.ts 0 pos) (h0 : 0 < wd.size) (hB : B ≤ w.heap.size) {tt : TypeId} {fr : Nat × Nat} (hkw : w.heap[0]? = some (.cells kwArr tt fr)) :
    Calls Tryd.prog 41 #[.pointer (some ⟨R, 0, none⟩), .string wd, .int .i64 p] w fun e w' => e = .returned (.tuple #[]) ∧ Stp B w w' ∧ Outc w' B R (gword st wd) pos p := by
  obtain ⟨wt, ts⟩ := st
  have h : RdrAt w B R wt v ts 0 pos := h
  have hl : ts.length ≤ 16 := hst.len
  have hw : wt = 0 ∨ wt = 1 ∨ wt = 2 ∨ wt = 3 ∨ wt = 4 ∨ wt = 5 := by
    have : wt ≤ 5 := hst.want
    omega
  obtain ⟨A, c, rfl⟩ := h.own.shape
  have h : RdrAt w B R wt (.slice A ts.length c) ts 0 pos := h
  have HR := Lib.hid h
  have HK := Lib.hid hkw
  have HS := Lib.hid hst
  obtain ⟨x0, x1, x2, x3⟩ := h.cells
  have f0 := blk_free h.heap 0
  clear h hkw hst
  rcases hw with rfl | rfl | rfl | rfl | rfl | rfl
  · cases ht : (wd.toList == [116, 121, 112, 101])
    · have HG := Lib.hid (gword0_word (ts := ts) ht)
      go_enter Tryd.func41, Tryd.ntmps41
      go_wp2_with fail
      refine (refuse_any B R 0 0 pos 21 p _ _ _ HR.out).mono ?_
      rintro e w3 ⟨rfl, hs3, h3⟩
      have z0 := h3.cells.1
      have g0 := blk_free h3.heap 0
      have H4 := Lib.hid (h3.setWant 1)
      have S4 := Lib.hid (hs3.trans (Stp.set h3.heap h3.hB 0 (.int .i64 1)))
      go_wp2_with fail
      go_end0
      exact ⟨rfl, S4.out, outc_bad (by rw [HG.out]) (by decide) H4.out⟩
    · by_cases h16 : ts.length = 16
      · have HG := Lib.hid (gword0_many ht h16)
        rw [h16] at x1
        go_enter Tryd.func41, Tryd.ntmps41
        go_wp2_with fail
        refine (refuse_any B R 0 0 pos 23 p _ _ _ HR.out).mono ?_
        rintro e w3 ⟨rfl, hs3, h3⟩
        have z0 := h3.cells.1
        have g0 := blk_free h3.heap 0
        have H4 := Lib.hid (h3.setWant 1)
        have S4 := Lib.hid (hs3.trans (Stp.set h3.heap h3.hB 0 (.int .i64 1)))
        go_wp2_with fail
        go_end0
        exact ⟨rfl, S4.out, outc_bad (by rw [HG.out]) (by decide) H4.out⟩
      · have HG := Lib.hid (gword0_ok ht h16)
        have h16' : ((ts.length : Int) == 16) = false := by rw [beq_eq_false_iff_ne]; omega
        have H4 := Lib.hid (HR.out.setWant 1)
        have S4 := Lib.hid (Stp.set HR.out.heap HR.out.hB 0 (.int .i64 1))
        clear h16
        go_enter Tryd.func41, Tryd.ntmps41
        go_wp2_with fail
        go_end0
        exact ⟨rfl, S4.out, outc_ok HG.out H4.out⟩
  · go_enter Tryd.func41, Tryd.ntmps41
    go_wp2_with fail
    refine (name_any B R pos p _ ts wd _ HR.out h0 hl hB HK.out).mono ?_
    rintro e w3 ⟨rfl, hs3, h3⟩
    have H3 := Lib.hid h3
    clear h3
    go_wp2_with fail
    go_end0
    exact ⟨rfl, hs3, H3.out⟩
  · go_enter Tryd.func41, Tryd.ntmps41
    go_wp2_with fail
    refine (refuse_any B R 2 0 pos 21 p _ _ _ HR.out).mono ?_
    rintro e w3 ⟨rfl, hs3, h3⟩
    go_wp2_with fail
    go_end0
    exact ⟨rfl, hs3, outc_bad (show (21 : Int) = 21 from rfl) (by decide) h3⟩
  · obtain ⟨t, nm, l, e⟩ := last_form (HS.out.some_ (by show 2 ≤ 3; decide))
    have e : ts = t ++ [(nm, l)] := e
    subst e
    have h8 : l.length ≤ 8 := by
      have h : (lastA (t ++ [(nm, l)])).length ≤ 8 := HS.out.last
      rwa [lastA_snoc] at h
    have htl : t.length ≤ 16 := by simp at hl; omega
    go_enter Tryd.func41, Tryd.ntmps41
    go_wp2_with fail
    refine (attr_any B R 3 (Or.inl rfl) pos p _ t nm l wd _ HR.out h0 htl h8 hB HK.out).mono ?_
    rintro e w3 ⟨rfl, hs3, h3⟩
    have H3 := Lib.hid h3
    clear h3
    go_wp2_with fail
    go_end0
    exact ⟨rfl, hs3, H3.out⟩
  · obtain ⟨t, nm, l, e⟩ := last_form (HS.out.some_ (by show 2 ≤ 4; decide))
    have e : ts = t ++ [(nm, l)] := e
    subst e
    have h8 : l.length ≤ 8 := by
      have h : (lastA (t ++ [(nm, l)])).length ≤ 8 := HS.out.last
      rwa [lastA_snoc] at h
    have htl : t.length ≤ 16 := by simp at hl; omega
    go_enter Tryd.func41, Tryd.ntmps41
    go_wp2_with fail
    refine (attr_any B R 4 (Or.inr rfl) pos p _ t nm l wd _ HR.out h0 htl h8 hB HK.out).mono ?_
    rintro e w3 ⟨rfl, hs3, h3⟩
    have H3 := Lib.hid h3
    clear h3
    go_wp2_with fail
    go_end0
    exact ⟨rfl, hs3, H3.out⟩
  · go_enter Tryd.func41, Tryd.ntmps41
    go_wp2_with fail
    refine (refuse_any B R 5 0 pos 21 p _ _ _ HR.out).mono ?_
    rintro e w3 ⟨rfl, hs3, h3⟩
    go_wp2_with fail
    go_end0
    exact ⟨rfl, hs3, outc_bad (show (21 : Int) = 21 from rfl) (by decide) h3⟩
end Go.Proofs.YtppeonlpocdhkaaDoor

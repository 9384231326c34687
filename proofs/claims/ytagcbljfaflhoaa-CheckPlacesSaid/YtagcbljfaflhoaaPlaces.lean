/-
  The walks of Place, the program's and the reference's.
-/
import Derived.Test.YtagcbljfaflhoaaSpotsSame
set_option linter.unusedSimpArgs false
namespace Go.Proofs.Ytagcbljfaflhoaa
open Go.RowKit Go.ChangeShapes Go.WideShapes Go.ChangeAt Go.Deep Go.Joins
/-- Entry i of a list, 0 where there is none. -/
def entryI (n : Nat) (f : Nat → Int) (i : Int) : Int := if i < 0 ∨ (n : Int) ≤ i then 0 else f i.toNat
theorem entry_out {n : Nat} {f : Nat → Int} {i : Int} (h : i < 0 ∨ (n : Int) ≤ i) : entryI n f i = 0 := if_pos h
theorem entry_in {n k : Nat} {f : Nat → Int} (h : k < n) : entryI n f k = f k := by
  have : ¬ ((k : Int) < 0 ∨ (n : Int) ≤ k) := by omega
  rw [entryI, if_neg this]
  rfl
/-- Where a flaw stands. -/
def spotI (S : Spt) (part idx sub : Int) : Int :=
  if part = 1 then entryI S.n0 S.f0 idx else if part = 2 then S.within else if part = 3 then S.by_ else if part = 4 then entryI S.n1 S.f1 idx
  else if part = 5 then (if idx < 0 ∨ (S.m : Int) ≤ idx then 0 else entryI (S.ln idx.toNat) (S.g idx.toNat) sub) else 0
set_option maxRecDepth 100000 in
theorem entry_any (A : Option Addr) (n c : Nat) (f : Nat → Int) (i : Int) (w : World) (h : IntRd w w.heap.size A n f) : Calls Try.prog 22 #[.slice A n c, .int .i64 i] w fun e w' => e = .returned (.int .i64 (entryI n f i)) ∧ ∃ q, w' = w.drewN q := by
  have hn := h.1
  by_cases hc : i < 0 ∨ (n : Int) ≤ i
  · have HE := Lib.hid (entry_out (f := f) hc)
    rcases hc with hc | hc
    · go_enter Try.func22, Try.ntmps22
      go_wp2_with fail
      go_ret
      exact ⟨by rw [HE.out]; rfl, 0, rfl⟩
    · by_cases h0 : i < 0
      all_goals
        go_enter Try.func22, Try.ntmps22
        go_wp2_with fail
        go_ret
        exact ⟨by rw [HE.out]; rfl, 0, rfl⟩
  · obtain ⟨k, rfl⟩ : ∃ k : Nat, i = k := ⟨i.toNat, by omega⟩
    have hk : k < n := by omega
    have HE := Lib.hid (entry_in (f := f) hk)
    obtain ⟨b, off, rfl, hb, hcs⟩ := h.spot (by omega)
    have c1 := hcs k hk
    clear hcs h
    go_enter Try.func22, Try.ntmps22
    go_wp2_with fail
    go_ret
    exact ⟨by rw [HE.out]; rfl, 0, rfl⟩
set_option maxRecDepth 100000 in
theorem at_any (A : Option Addr) (n c : Nat) (f : Nat → Int) (i : Int) (w : World) (h : IntRd w w.heap.size A n f) : Calls Try.prog 20 #[.slice A n c, .int .i64 i] w fun e w' => e = .returned (.int .i64 (entryI n f i)) ∧ ∃ q, w' = w.drewN q := by
  have hn := h.1
  by_cases hc : i < 0 ∨ (n : Int) ≤ i
  · have HE := Lib.hid (entry_out (f := f) hc)
    rcases hc with hc | hc
    · go_enter Try.func20, Try.ntmps20
      go_wp2_with fail
      go_ret
      exact ⟨by rw [HE.out]; rfl, 0, rfl⟩
    · by_cases h0 : i < 0
      all_goals
        go_enter Try.func20, Try.ntmps20
        go_wp2_with fail
        go_ret
        exact ⟨by rw [HE.out]; rfl, 0, rfl⟩
  · obtain ⟨k, rfl⟩ : ∃ k : Nat, i = k := ⟨i.toNat, by omega⟩
    have hk : k < n := by omega
    have HE := Lib.hid (entry_in (f := f) hk)
    obtain ⟨b, off, rfl, hb, hcs⟩ := h.spot (by omega)
    have c1 := hcs k hk
    clear hcs h
    go_enter Try.func20, Try.ntmps20
    go_wp2_with fail
    go_ret
    exact ⟨by rw [HE.out]; rfl, 0, rfl⟩
set_option maxRecDepth 100000 in
set_option maxHeartbeats 2000000 in
theorem place_any (V : SptV) (S : Spt) (code part idx sub : Int) (w : World) (h : SptRd w w.heap.size V S) :
    Calls Try.prog 7 #[.agg (sptArr V S), .agg #[.int .i64 code, .int .i64 part, .int .i64 idx, .int .i64 sub]] w fun e w' => e = .returned (.int .i64 (spotI S part idx sub)) ∧ Below w.heap.size w w' := by
  obtain ⟨a0, q0, a1, q1, a4, q4⟩ := V
  show Calls _ _ #[.agg #[.slice a0 S.n0 q0, .slice a1 S.n1 q1, .int .i64 S.within, .int .i64 S.by_, .slice a4 S.m q4], _] w _
  have HB := bnew (bnew (Below.refl w.heap.size w) (.cells #[.slice a0 S.n0 q0, .slice a1 S.n1 q1, .int .i64 S.within, .int .i64 S.by_, .slice a4 S.m q4] 26)) (.cells #[.int .i64 code, .int .i64 part, .int .i64 idx, .int .i64 sub] 30)
  have hm := h.r4.1
  have HT := Lib.hid (h.later HB)
  clear h
  by_cases p1 : part = 1
  · subst p1
    have HE := Lib.hid (show spotI S 1 idx sub = entryI S.n0 S.f0 idx from rfl)
    go_enter Try.func7, Try.ntmps7
    go_wp2_with fail
    refine (at_any a0 S.n0 q0 S.f0 idx _ HT.out.r0).mono ?_
    rintro e w3 ⟨rfl, q, rfl⟩
    go_wp2_with fail
    go_ret
    exact ⟨by rw [HE.out]; rfl, bdrewN HB q⟩
  by_cases p2 : part = 2
  · subst p2
    clear p1
    have HE := Lib.hid (show spotI S 2 idx sub = S.within from rfl)
    go_enter Try.func7, Try.ntmps7
    go_wp2_with fail
    go_ret
    exact ⟨by rw [HE.out]; rfl, HB⟩
  by_cases p3 : part = 3
  · subst p3
    clear p1
    clear p2
    have HE := Lib.hid (show spotI S 3 idx sub = S.by_ from rfl)
    go_enter Try.func7, Try.ntmps7
    go_wp2_with fail
    go_ret
    exact ⟨by rw [HE.out]; rfl, HB⟩
  by_cases p4 : part = 4
  · subst p4
    clear p1
    clear p2
    clear p3
    have HE := Lib.hid (show spotI S 4 idx sub = entryI S.n1 S.f1 idx from rfl)
    go_enter Try.func7, Try.ntmps7
    go_wp2_with fail
    refine (at_any a1 S.n1 q1 S.f1 idx _ HT.out.r1).mono ?_
    rintro e w3 ⟨rfl, q, rfl⟩
    go_wp2_with fail
    go_ret
    exact ⟨by rw [HE.out]; rfl, bdrewN HB q⟩
  by_cases p5 : part = 5
  · subst p5
    clear p1
    clear p2
    clear p3
    clear p4
    by_cases hc : idx < 0 ∨ (S.m : Int) ≤ idx
    · have HE := Lib.hid (show spotI S 5 idx sub = 0 by show (if idx < 0 ∨ (S.m : Int) ≤ idx then (0 : Int) else _) = 0; rw [if_pos hc])
      by_cases h0 : idx < 0
      · clear hc
        go_enter Try.func7, Try.ntmps7
        go_wp2_with fail
        go_ret
        exact ⟨by rw [HE.out]; rfl, HB⟩
      · have h1 : (S.m : Int) ≤ idx := by omega
        have h0' : 0 ≤ idx := by omega
        clear hc
        go_enter Try.func7, Try.ntmps7
        go_wp2_with fail
        go_ret
        exact ⟨by rw [HE.out]; rfl, HB⟩
    · obtain ⟨k, rfl⟩ : ∃ k : Nat, idx = k := ⟨idx.toNat, by omega⟩
      have hk : k < S.m := by omega
      have hk1 : (k : Int) < (S.m : Int) := by omega
      have hk0 : (0 : Int) ≤ (k : Int) := by omega
      have HE := Lib.hid (show spotI S 5 k sub = entryI (S.ln k) (S.g k) sub by show (if (k : Int) < 0 ∨ (S.m : Int) ≤ (k : Int) then (0 : Int) else _) = _; rw [if_neg hc]; rfl)
      clear hc
      obtain ⟨b, off, eA, hbl, hcs⟩ := HT.out.r4.2 (by omega)
      have eA : a4 = _ := eA
      subst eA
      obtain ⟨aa, ac, d1, _, _, hrow⟩ := hcs k hk
      have HR := Lib.hid hrow
      clear hcs hrow
      go_enter Try.func7, Try.ntmps7
      go_wp2_with fail
      go_quiet (first | (go_at_call 20; exact Calls.quiet_of (at_any aa (S.ln k) ac (S.g k) sub _ HR.out)))
      go_wp2_with fail
      go_ret
      exact ⟨by rw [HE.out]; rfl, bdrewN HB _⟩
  have HE := Lib.hid (show spotI S part idx sub = 0 by simp only [spotI, if_neg p1, if_neg p2, if_neg p3, if_neg p4, if_neg p5])
  have p1 : (part == 1) = false := by rw [beq_eq_false_iff_ne]; exact p1
  have p2 : (part == 2) = false := by rw [beq_eq_false_iff_ne]; exact p2
  have p3 : (part == 3) = false := by rw [beq_eq_false_iff_ne]; exact p3
  have p4 : (part == 4) = false := by rw [beq_eq_false_iff_ne]; exact p4
  have p5 : (part == 5) = false := by rw [beq_eq_false_iff_ne]; exact p5
  go_enter Try.func7, Try.ntmps7
  go_wp2_with fail
  go_ret
  exact ⟨by rw [HE.out]; rfl, HB⟩
set_option maxRecDepth 100000 in
set_option maxHeartbeats 2000000 in
theorem refPlace_any (V : SptV) (S : Spt) (code part idx sub : Int) (w : World) (h : SptRd w w.heap.size V S) :
    Calls Try.prog 9 #[.agg (sptArr V S), .agg #[.int .i64 code, .int .i64 part, .int .i64 idx, .int .i64 sub]] w fun e w' => e = .returned (.int .i64 (spotI S part idx sub)) ∧ Below w.heap.size w w' := by
  obtain ⟨a0, q0, a1, q1, a4, q4⟩ := V
  show Calls _ _ #[.agg #[.slice a0 S.n0 q0, .slice a1 S.n1 q1, .int .i64 S.within, .int .i64 S.by_, .slice a4 S.m q4], _] w _
  have HB := bnew (bnew (Below.refl w.heap.size w) (.cells #[.slice a0 S.n0 q0, .slice a1 S.n1 q1, .int .i64 S.within, .int .i64 S.by_, .slice a4 S.m q4] 26)) (.cells #[.int .i64 code, .int .i64 part, .int .i64 idx, .int .i64 sub] 30)
  have hm := h.r4.1
  have HT := Lib.hid (h.later HB)
  clear h
  by_cases p1 : part = 1
  · subst p1
    have HE := Lib.hid (show spotI S 1 idx sub = entryI S.n0 S.f0 idx from rfl)
    go_enter Try.func9, Try.ntmps9
    go_wp2_with fail
    refine (entry_any a0 S.n0 q0 S.f0 idx _ HT.out.r0).mono ?_
    rintro e w3 ⟨rfl, q, rfl⟩
    go_wp2_with fail
    go_ret
    exact ⟨by rw [HE.out]; rfl, bdrewN HB q⟩
  by_cases p2 : part = 2
  · subst p2
    clear p1
    have HE := Lib.hid (show spotI S 2 idx sub = S.within from rfl)
    go_enter Try.func9, Try.ntmps9
    go_wp2_with fail
    go_ret
    exact ⟨by rw [HE.out]; rfl, HB⟩
  by_cases p3 : part = 3
  · subst p3
    clear p1
    clear p2
    have HE := Lib.hid (show spotI S 3 idx sub = S.by_ from rfl)
    go_enter Try.func9, Try.ntmps9
    go_wp2_with fail
    go_ret
    exact ⟨by rw [HE.out]; rfl, HB⟩
  by_cases p4 : part = 4
  · subst p4
    clear p1
    clear p2
    clear p3
    have HE := Lib.hid (show spotI S 4 idx sub = entryI S.n1 S.f1 idx from rfl)
    go_enter Try.func9, Try.ntmps9
    go_wp2_with fail
    refine (entry_any a1 S.n1 q1 S.f1 idx _ HT.out.r1).mono ?_
    rintro e w3 ⟨rfl, q, rfl⟩
    go_wp2_with fail
    go_ret
    exact ⟨by rw [HE.out]; rfl, bdrewN HB q⟩
  by_cases p5 : part = 5
  · subst p5
    clear p1
    clear p2
    clear p3
    clear p4
    by_cases hc : idx < 0 ∨ (S.m : Int) ≤ idx
    · have HE := Lib.hid (show spotI S 5 idx sub = 0 by show (if idx < 0 ∨ (S.m : Int) ≤ idx then (0 : Int) else _) = 0; rw [if_pos hc])
      by_cases h0 : idx < 0
      · clear hc
        go_enter Try.func9, Try.ntmps9
        go_wp2_with fail
        go_ret
        exact ⟨by rw [HE.out]; rfl, HB⟩
      · have h1 : (S.m : Int) ≤ idx := by omega
        have h0' : 0 ≤ idx := by omega
        clear hc
        go_enter Try.func9, Try.ntmps9
        go_wp2_with fail
        go_ret
        exact ⟨by rw [HE.out]; rfl, HB⟩
    · obtain ⟨k, rfl⟩ : ∃ k : Nat, idx = k := ⟨idx.toNat, by omega⟩
      have hk : k < S.m := by omega
      have hk1 : (k : Int) < (S.m : Int) := by omega
      have hk0 : (0 : Int) ≤ (k : Int) := by omega
      have HE := Lib.hid (show spotI S 5 k sub = entryI (S.ln k) (S.g k) sub by show (if (k : Int) < 0 ∨ (S.m : Int) ≤ (k : Int) then (0 : Int) else _) = _; rw [if_neg hc]; rfl)
      clear hc
      obtain ⟨b, off, eA, hbl, hcs⟩ := HT.out.r4.2 (by omega)
      have eA : a4 = _ := eA
      subst eA
      obtain ⟨aa, ac, d1, _, _, hrow⟩ := hcs k hk
      have HR := Lib.hid hrow
      clear hcs hrow
      go_enter Try.func9, Try.ntmps9
      go_wp2_with fail
      go_quiet (first | (go_at_call 22; exact Calls.quiet_of (entry_any aa (S.ln k) ac (S.g k) sub _ HR.out)))
      go_wp2_with fail
      go_ret
      exact ⟨by rw [HE.out]; rfl, bdrewN HB _⟩
  have HE := Lib.hid (show spotI S part idx sub = 0 by simp only [spotI, if_neg p1, if_neg p2, if_neg p3, if_neg p4, if_neg p5])
  have p1 : (part == 1) = false := by rw [beq_eq_false_iff_ne]; exact p1
  have p2 : (part == 2) = false := by rw [beq_eq_false_iff_ne]; exact p2
  have p3 : (part == 3) = false := by rw [beq_eq_false_iff_ne]; exact p3
  have p4 : (part == 4) = false := by rw [beq_eq_false_iff_ne]; exact p4
  have p5 : (part == 5) = false := by rw [beq_eq_false_iff_ne]; exact p5
  go_enter Try.func9, Try.ntmps9
  go_wp2_with fail
  go_ret
  exact ⟨by rw [HE.out]; rfl, HB⟩
end Go.Proofs.Ytagcbljfaflhoaa

/-
  The walks of the reference's is, wordAt, placeAt.
-/
import Derived.Test.YtppeonlpocdhkaaDoorPceStep
set_option linter.unusedSimpArgs false
set_option linter.unusedVariables false
namespace Go.Proofs.YtppeonlpocdhkaaDoor
open Go.RowKit Go.ChangeShapes Go.WideShapes Go.ChangeAt Go.Deep Go.Joins
abbrev PRd (w : World) (A : Option Addr) (L : List Pce) : Prop := RowRd w w.heap.size A L.length 3 24 (pC L)
section
variable {w : World} {A : Option Addr} {L : List Pce}
theorem PRd.at_ (h : PRd w A L) {i : Nat} (hi : i < L.length) : ∃ b off, A = some ⟨b, off, none⟩ ∧ b < w.heap.size ∧ w.cell? ⟨b, off + i * 3, none⟩ = some (.int .i64 (gp L i).a) ∧ w.cell? ⟨b, off + i * 3 + 1, none⟩ = some (.int .i64 (gp L i).z) ∧ w.cell? ⟨b, off + i * 3 + 2, none⟩ = some (.bool (gp L i).wd) := by
  obtain ⟨b, off, e, hb, hc, h0⟩ := RowRd.spot h (by omega)
  exact ⟨b, off, e, hb, h0 i hi (by omega), hc i hi 1 (by omega), hc i hi 2 (by omega)⟩
end
set_option maxRecDepth 100000 in
set_option maxHeartbeats 4000000 in
theorem is_any (s : ByteArray) (hs : s.size ≤ 4096) (A : Option Addr) (cap : Nat) (L : List Pce) (i : Nat) (want : ByteArray) (w : World) (h : PRd w A L) (ha : AllOk s L) (hl : L.length ≤ 4096) :
    Calls Tryd.prog 65 #[.string s, .slice A L.length cap, .int .i64 i, .string want] w fun e w' => e = .returned (.bool (isB s L i want)) ∧ Below w.heap.size w w' := by
  by_cases hi : i < L.length
  · obtain ⟨b, off, rfl, hb, c0, c1, c2⟩ := PRd.at_ h hi
    have hok := ha i hi
    have e1 := hok.lt
    have e2 := hok.le
    have HB := Lib.hid (isB_eq (s := s) (w := want) hi)
    clear h ha
    generalize gp L i = p at *
    go_enter Tryd.func65, Tryd.ntmps65
    have hi2 : (i : Int) < (L.length : Int) := by omega
    go_wp2_with fail
    go_quiet (fail)
    go_wp2_with fail
    go_ret
    exact ⟨ret_bool HB.out.symm, bdrewN (Below.refl _ _) _⟩
  · have HB : Hid (isB s L i want = false) := Lib.hid (by simp [isB, hi])
    clear h ha
    go_enter Tryd.func65, Tryd.ntmps65
    have hi2 : decide ((i : Int) < (L.length : Int)) = false := by rw [decide_eq_false_iff_not]; omega
    go_wp2_with fail
    go_quiet (fail)
    go_wp2_with fail
    go_ret
    exact ⟨ret_bool HB.out.symm, bdrewN (Below.refl _ _) _⟩
set_option maxRecDepth 100000 in
set_option maxHeartbeats 4000000 in
theorem wordAt_any (s : ByteArray) (hs : s.size ≤ 4096) (A : Option Addr) (cap : Nat) (L : List Pce) (i : Nat) (w : World) (h : PRd w A L) (ha : AllOk s L) (hl : L.length ≤ 4096) :
    Calls Tryd.prog 80 #[.string s, .slice A L.length cap, .int .i64 i] w fun e w' => e = .returned (.bool (wordB s L i)) ∧ Below w.heap.size w w' := by
  by_cases hi : i < L.length
  · obtain ⟨b, off, rfl, hb, c0, c1, c2⟩ := PRd.at_ h hi
    have hok := ha i hi
    have e1 := hok.lt
    have e2 := hok.le
    have HB : Hid (wordB s L i = ((gp L i).wd && !digI (byteAt s (gp L i).a))) := Lib.hid (by simp [wordB, hi])
    have hby := byteAt_eq (ok_lt hok)
    clear h ha
    generalize gp L i = p at *
    go_enter Tryd.func80, Tryd.ntmps80
    cases hw : p.wd
    · go_wp2_with fail
      go_ret
      exact ⟨ret_bool (by rw [HB.out, hw]; rfl), Below.refl _ _⟩
    · go_wp2_with fail
      refine (refDigit_any _ _).mono ?_
      rintro e w3 ⟨rfl, rfl⟩
      go_wp2_with fail
      go_ret
      exact ⟨ret_bool (by rw [HB.out, hw, hby]; rfl), Below.refl _ _⟩
  · have HB : Hid (wordB s L i = false) := Lib.hid (by simp [wordB, hi])
    clear h ha
    go_enter Tryd.func80, Tryd.ntmps80
    go_wp2_with fail
    go_ret
    exact ⟨ret_bool HB.out.symm, Below.refl _ _⟩
set_option maxRecDepth 100000 in
theorem placeAt_any (s : ByteArray) (hs : s.size ≤ 4096) (A : Option Addr) (cap : Nat) (L : List Pce) (i : Nat) (w : World) (h : PRd w A L) (hl : L.length ≤ 4096) :
    Calls Tryd.prog 46 #[.string s, .slice A L.length cap, .int .i64 i] w fun e w' => e = .returned (.int .i64 (placeN s L i)) ∧ Below w.heap.size w w' := by
  by_cases hi : i < L.length
  · obtain ⟨b, off, rfl, hb, c0, c1, c2⟩ := PRd.at_ h hi
    have HB := Lib.hid (place_in (s := s) hi)
    clear h
    generalize gp L i = p at *
    go_enter Tryd.func46, Tryd.ntmps46
    go_wp2_with fail
    go_ret
    exact ⟨by rw [HB.out]; rfl, Below.refl _ _⟩
  · have HB := Lib.hid (place_out (s := s) hi)
    clear h
    go_enter Tryd.func46, Tryd.ntmps46
    go_wp2_with fail
    go_ret
    exact ⟨by rw [HB.out]; rfl, Below.refl _ _⟩
end Go.Proofs.YtppeonlpocdhkaaDoor

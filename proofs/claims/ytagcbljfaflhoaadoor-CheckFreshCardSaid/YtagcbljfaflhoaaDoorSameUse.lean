/-
  Two answers of Uses are the same.
-/
import Derived.Test.YtagcbljfaflhoaaDoorInts
import Derived.Test.YtagcbljfaflhoaaDoorRowSet
import Derived.Test.YtagcbljfaflhoaaDoorUses
set_option linter.unusedSimpArgs false
set_option linter.unusedVariables false
namespace Go.Proofs.YtagcbljfaflhoaaDoor
open Go.RowKit Go.ChangeShapes Go.WideShapes Go.ChangeAt Go.Deep Go.Joins
/-- What two readings mention reads alike. -/
theorem nat_rd {w : World} {B : Nat} {A : Option Addr} {c : Nat} {L : List Nat} (h : w.ownsRow B 3 1 (.slice A L.length c) L.length (L.map natV)) (hL : L.length ≤ 2199023255488) : IntRd w w.heap.size A L.length (fun j => (L.getD j 0 : Nat)) := by
  rw [natV_flat] at h
  exact rowown_rd h (by omega)
theorem blk3 {w : World} {b : Nat} {v0 v1 v2 : Value} {T : TypeId} (h : w.heap[b]? = some (.cells #[v0, v1, v2] T (0, 0))) :
    w.cell? ⟨b, 0, none⟩ = some v0 ∧ w.cell? ⟨b, 1, none⟩ = some v1 ∧ w.cell? ⟨b, 2, none⟩ = some v2 := ⟨blk_cell h rfl, blk_cell h rfl, blk_cell h rfl⟩
set_option maxRecDepth 100000 in
set_option maxHeartbeats 2000000 in
theorem sameUse_same (A1 A2 A3 B1 B2 B3 : Option Addr) (n1 n2 n3 k1 k2 k3 r1 r2 r3 : Nat) (f1 f2 f3 : Nat → Int) (w : World) (h1 : IntRd w w.heap.size A1 n1 f1) (h2 : IntRd w w.heap.size A2 n2 f2) (h3 : IntRd w w.heap.size A3 n3 f3)
    (h1' : IntRd w w.heap.size B1 n1 f1) (h2' : IntRd w w.heap.size B2 n2 f2) (h3' : IntRd w w.heap.size B3 n3 f3) :
    Calls Tryd.prog 39 #[.agg #[.slice A1 n1 k1, .slice A2 n2 k2, .slice A3 n3 k3], .agg #[.slice B1 n1 r1, .slice B2 n2 r2, .slice B3 n3 r3]] w fun e w' => e = .returned (.bool true) ∧ Below w.heap.size w w' := by
  have HB := bnew (bnew (Below.refl w.heap.size w) (.cells #[.slice A1 n1 k1, .slice A2 n2 k2, .slice A3 n3 k3] 57)) (.cells #[.slice B1 n1 r1, .slice B2 n2 r2, .slice B3 n3 r3] 57)
  have b0 := blk_alloc (blk_new w #[.slice A1 n1 k1, .slice A2 n2 k2, .slice A3 n3 k3] 57) (.cells #[.slice B1 n1 r1, .slice B2 n2 r2, .slice B3 n3 r3] 57)
  have b1 := blk_new (w.alloc (.cells #[.slice A1 n1 k1, .slice A2 n2 k2, .slice A3 n3 k3] 57)) #[.slice B1 n1 r1, .slice B2 n2 r2, .slice B3 n3 r3] 57
  rw [World.size_alloc] at b1
  have B0 := Lib.hid b0
  have B1' := Lib.hid b1
  have H1 := Lib.hid (h1.later HB)
  have H2 := Lib.hid (h2.later HB)
  have H3 := Lib.hid (h3.later HB)
  have H1' := Lib.hid (h1'.later HB)
  have H2' := Lib.hid (h2'.later HB)
  have H3' := Lib.hid (h3'.later HB)
  clear h1 h2 h3 h1' h2' h3' b0 b1
  go_enter Tryd.func39, Tryd.ntmps39
  go_upto_region 1 with fail
  generalize (w.alloc _).alloc _ = w2 at *
  obtain ⟨x0, x1, x2⟩ := blk3 B0.out
  obtain ⟨y0, y1, y2⟩ := blk3 B1'.out
  go_wp2_with fail
  refine (sameIntsLaw_same A1 B1 n1 k1 r1 f1 _ H1.out H1'.out).mono ?_
  rintro e w3 ⟨rfl, q, rfl⟩
  go_wp2_with fail
  refine (sameIntsLaw_same A2 B2 n2 k2 r2 f2 _ (H2.out.later (bdrewN (Below.refl _ _) _)) (H2'.out.later (bdrewN (Below.refl _ _) _))).mono ?_
  rintro e w4 ⟨rfl, q2, rfl⟩
  go_wp2_with fail
  refine (sameIntsLaw_same A3 B3 n3 k3 r3 f3 _ (H3.out.later (bdrewN (Below.refl _ _) _)) (H3'.out.later (bdrewN (Below.refl _ _) _))).mono ?_
  rintro e w5 ⟨rfl, q3, rfl⟩
  go_wp2_with fail
  go_ret
  exact ⟨rfl, bdrewN HB _⟩
end Go.Proofs.YtagcbljfaflhoaaDoor

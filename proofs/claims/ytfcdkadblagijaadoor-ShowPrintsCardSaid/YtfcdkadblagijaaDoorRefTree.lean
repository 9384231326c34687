/-
  The walk of the reference's Tree.
-/
import Derived.Test.YtfcdkadblagijaaDoorBegins5
set_option linter.unusedSimpArgs false
namespace Go.Proofs.YtfcdkadblagijaaDoor
open Go.RowKit Go.ChangeShapes Go.WideShapes Go.ChangeAt Go.Deep Go.Joins
set_option maxRecDepth 100000 in
set_option maxHeartbeats 1000000 in
theorem refTree_any (A : Option Addr) (n c : Nat) (f : Nat → Nod) (w : World) (h : NodRd w w.heap.size A n f) {tt : TypeId} {fr : Nat × Nat} (hkw : w.heap[2]? = some (.cells kwArr tt fr)) :
    Calls Tryd.prog 9 #[.slice A n c] w fun e w' => e = .returned (.bool (treeB n f)) ∧ Below w.heap.size w w' := by
  have hn := h.small
  have HT := Lib.hid h
  have HK := Lib.hid hkw
  clear h hkw
  go_enter Tryd.func9, Tryd.ntmps9
  go_wp2_with fail
  refine (begins5_any A n c f _ HT.out HK.out).mono ?_
  rintro e w2 ⟨he, hb2⟩
  cases hg : bg f n with
  | none =>
    rw [hg] at he
    have he : e = _ := he
    subst he
    have HE := Lib.hid (show treeB n f = false by rw [treeB, hg])
    clear hg
    go_wp2_with fail
    go_ret
    exact ⟨by rw [HE.out]; rfl, hb2⟩
  | some l =>
    rw [hg] at he
    obtain ⟨v, rfl, hown⟩ := he
    have HE := Lib.hid (tree_end hg)
    have hl := bg_len hg
    rw [hl] at hown
    have HL := Lib.hid hl
    clear hg hl
    rcases Nat.eq_zero_or_pos n with h0 | h0
    · subst h0
      obtain ⟨oA, oc, rfl, _⟩ := rowown_shape hown
      go_wp2_with fail
      go_ret
      exact ⟨by rw [HE.out]; rfl, hb2⟩
    · obtain ⟨n1, rfl⟩ : ∃ n1, n = n1 + 1 := ⟨n - 1, by omega⟩
      obtain ⟨g, cap, rfl, _⟩ := hown.form (by omega)
      have y1 := l_cell hown HL.out (show n1 < n1 + 1 by omega)
      have hpos : (0 : Int) < ((n1 + 1 : Nat) : Int) := by omega
      go_wp2_with fail
      go_ret
      refine ⟨ret_bool ?_, hb2⟩
      rw [HE.out, Bool.eq_iff_iff, decide_eq_true_eq]
      have e : n1 + 1 - 1 = n1 := rfl
      rw [e]
      simp
end Go.Proofs.YtfcdkadblagijaaDoor

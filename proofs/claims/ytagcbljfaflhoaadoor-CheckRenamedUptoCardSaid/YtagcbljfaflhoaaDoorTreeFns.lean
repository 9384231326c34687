/-
  The walks of check.size, Size, Sub, IsTruth.
-/
import Derived.Test.YtagcbljfaflhoaaDoorSubtree
import Derived.Test.YtagcbljfaflhoaaDoorShowTree
import Derived.Test.YtagcbljfaflhoaaDoorRefTree
import Derived.Test.YtagcbljfaflhoaaDoorTwinTree6
import Derived.Test.YtagcbljfaflhoaaDoorArrs
set_option linter.unusedSimpArgs false
set_option linter.unusedVariables false
namespace Go.Proofs.YtagcbljfaflhoaaDoor
open Go.RowKit Go.ChangeShapes Go.WideShapes Go.ChangeAt Go.Deep Go.Joins
theorem node_a {w : World} {b off n r : Nat} {f : Nat → Nod} {q : Int} (h : w.cell? ⟨b, off + r * 6 + 4, none⟩ = some (.int .i64 (f r).a)) (hq : (f r).a = q) : w.cell? ⟨b, off + r * 6 + 4, none⟩ = some (.int .i64 q) := by rw [← hq]; exact h
theorem node_b {w : World} {b off n r : Nat} {f : Nat → Nod} {q : Int} (h : w.cell? ⟨b, off + r * 6 + 5, none⟩ = some (.int .i64 (f r).b)) (hq : (f r).b = q) : w.cell? ⟨b, off + r * 6 + 5, none⟩ = some (.int .i64 q) := by rw [← hq]; exact h
set_option maxRecDepth 100000 in
set_option maxHeartbeats 2000000 in
theorem size_any (A : Option Addr) (n c : Nat) (f : Nat → Nod) (l : Nat → Nat) (hs : Shp n f l) : ∀ r, r < n → ∀ w : World, NodRd w w.heap.size A n f →
    Calls Tryd.prog 46 #[.slice A n c, .int .i64 (r : Nat)] w fun e w' => e = .returned (.int .i64 ((r - l r + 1 : Nat) : Int)) ∧ w' = w := by
  intro r
  induction r using Nat.strongRecOn with
  | _ r ih =>
    intro hr w h
    have hn := h.small
    have hle := hs.le r hr
    obtain ⟨b, off, rfl, hbl, hcs⟩ := h.spot (by omega)
    obtain ⟨c0, c1, c2, c3, c4, c5⟩ := hcs r hr
    have HT := Lib.hid h
    clear hcs c0 c1 c2 c3 h
    rcases hs.kind r hr with ⟨_, ka, kb, kl⟩ | ⟨_, k1, ka, kb, kl⟩ | ⟨_, k1, kb, k2, ka, kl⟩
    · have d4 := node_a (n := n) c4 ka
      have d5 := node_b (n := n) c5 kb
      clear c4 c5
      go_enter Tryd.func46, Tryd.ntmps46
      go_wp2_with fail
      go_ret
      exact ⟨ret_int (by omega), rfl⟩
    · have d4 := node_a (n := n) (q := ((r - 1 : Nat) : Int)) c4 (by omega)
      have d5 := node_b (n := n) c5 kb
      have IH := Lib.hid (ih (r - 1) (by omega) (by omega))
      have hle1 := hs.le (r - 1) (by omega)
      clear c4 c5 ih ka kb
      obtain ⟨r1, hr1⟩ : ∃ r1, r - 1 = r1 := ⟨_, rfl⟩
      rw [hr1] at d4 IH hle1 kl
      obtain ⟨s1, hs1⟩ : ∃ s1, r1 - l r1 + 1 = s1 := ⟨_, rfl⟩
      rw [hs1] at IH
      have hsb : s1 ≤ 2199023255489 := by omega
      go_enter Tryd.func46, Tryd.ntmps46
      go_wp2_with fail
      refine (IH.out _ HT.out).mono ?_
      rintro e w1 ⟨rfl, rfl⟩
      go_wp2_with fail
      go_ret
      exact ⟨ret_int (by omega), rfl⟩
    · have hle1 := hs.le (r - 1) (by omega)
      have hle2 := hs.le (l (r - 1) - 1) (by omega)
      have d4 := node_a (n := n) (q := ((l (r - 1) - 1 : Nat) : Int)) c4 (by omega)
      have d5 := node_b (n := n) (q := ((r - 1 : Nat) : Int)) c5 (by omega)
      have IA := Lib.hid (ih (l (r - 1) - 1) (by omega) (by omega))
      have IB := Lib.hid (ih (r - 1) (by omega) (by omega))
      clear c4 c5 ih ka kb
      obtain ⟨r1, hr1⟩ : ∃ r1, r - 1 = r1 := ⟨_, rfl⟩
      rw [hr1] at d4 d5 IA IB hle1 hle2 kl k2
      obtain ⟨r2, hr2⟩ : ∃ r2, l r1 - 1 = r2 := ⟨_, rfl⟩
      rw [hr2] at d4 IA hle2 kl
      obtain ⟨s1, hs1⟩ : ∃ s1, r1 - l r1 + 1 = s1 := ⟨_, rfl⟩
      rw [hs1] at IB
      obtain ⟨s2, hs2⟩ : ∃ s2, r2 - l r2 + 1 = s2 := ⟨_, rfl⟩
      rw [hs2] at IA
      have hsb : s1 ≤ 2199023255489 := by omega
      have hsb2 : s2 ≤ 2199023255489 := by omega
      go_enter Tryd.func46, Tryd.ntmps46
      go_wp2_with fail
      refine (IA.out _ HT.out).mono ?_
      rintro e w1 ⟨rfl, rfl⟩
      go_wp2_with fail
      refine (IB.out _ HT.out).mono ?_
      rintro e w2 ⟨rfl, rfl⟩
      go_wp2_with fail
      go_ret
      exact ⟨ret_int (by omega), rfl⟩
theorem sizeI_low {n : Nat} {f : Nat → Nod} {root : Int} (h : root < 0) : sizeI n f root = 0 := by rw [sizeI, if_neg (by omega)]
theorem sizeI_high {n : Nat} {f : Nat → Nod} {root : Int} (h : (n : Int) ≤ root) : sizeI n f root = 0 := by rw [sizeI, if_neg (by omega)]
theorem sizeI_bad {n : Nat} {f : Nat → Nod} {root : Int} (h : treeB n f = false) : sizeI n f root = 0 := by rw [sizeI, if_neg (by rw [h]; simp)]
theorem sizeI_in {n r : Nat} {f : Nat → Nod} (h : treeB n f = true) (hr : r < n) : sizeI n f (r : Nat) = r - begF n f r + 1 := by
  rw [sizeI, if_pos ⟨h, by omega, by omega⟩]
  rfl
set_option maxRecDepth 100000 in
set_option maxHeartbeats 2000000 in
theorem checkSize_any (A : Option Addr) (n c : Nat) (f : Nat → Nod) (root : Int) (w : World) (h : NodRd w w.heap.size A n f) {tt : TypeId} {fr : Nat × Nat} (hkw : w.heap[0]? = some (.cells kwArr tt fr)) :
    Calls Tryd.prog 13 #[.slice A n c, .int .i64 root] w fun e w' => e = .returned (.int .i64 ((sizeI n f root : Nat) : Int)) ∧ Below w.heap.size w w' := by
  have hn := h.small
  have HT := Lib.hid h
  have HK := Lib.hid hkw
  clear h hkw
  by_cases h0 : root < 0
  · have HE := Lib.hid (sizeI_low (n := n) (f := f) h0)
    go_enter Tryd.func13, Tryd.ntmps13
    go_wp2_with fail
    go_ret
    exact ⟨by rw [HE.out]; rfl, Below.refl _ _⟩
  · by_cases h1 : (n : Int) ≤ root
    · have HE := Lib.hid (sizeI_high (n := n) (f := f) h1)
      go_enter Tryd.func13, Tryd.ntmps13
      go_wp2_with fail
      go_ret
      exact ⟨by rw [HE.out]; rfl, Below.refl _ _⟩
    · obtain ⟨r, rfl⟩ : ∃ r : Nat, root = r := ⟨root.toNat, by omega⟩
      have hr : r < n := by omega
      cases ht : treeB n f
      · have HE := Lib.hid (sizeI_bad (n := n) (f := f) (root := (r : Int)) ht)
        have HF := Lib.hid ht
        clear ht
        go_enter Tryd.func13, Tryd.ntmps13
        go_wp2_with (go_at_call 45; refine (showTree_any A n c f _ HT.out HK.out).mono ?_; rintro e w' ⟨rfl, hb⟩; rw [HF.out])
        go_ret
        exact ⟨by rw [HE.out]; rfl, hb⟩
      · have HE := Lib.hid (sizeI_in ht hr)
        have HF := Lib.hid ht
        have HS := Lib.hid (tree_shp ht).2.1
        clear ht
        go_enter Tryd.func13, Tryd.ntmps13
        go_wp2_with (first | (go_at_call 45; refine (showTree_any A n c f _ HT.out HK.out).mono ?_; rintro e w' ⟨rfl, hb⟩; rw [HF.out]) | (go_at_call 46; refine (size_any A n c f _ HS.out r hr _ (HT.out.later hb)).mono ?_; rintro e w2 ⟨rfl, rfl⟩))
        go_ret
        exact ⟨by rw [HE.out]; rfl, hb⟩
/-- Does an operator give a truth? -/
def truthB (op : Int) : Bool := op == 2 || op == 3 || op == 13 || (decide (19 ≤ op) && decide (op ≤ 26))
def isTruthB (n : Nat) (f : Nat → Nod) : Bool := decide (0 < n) && truthB (f (n - 1)).op
set_option maxHeartbeats 1000000 in
theorem truth_any (op : Int) (w : World) : Calls Tryd.prog 48 #[.int .i64 op] w fun e w' => e = .returned (.bool (truthB op)) ∧ w' = w := by
  by_cases h2 : op = 2
  · subst h2
    go_enter Tryd.func48, Tryd.ntmps48
    go_wp2_with fail
    go_ret
    exact ⟨rfl, rfl⟩
  · by_cases h3 : op = 3
    · subst h3
      go_enter Tryd.func48, Tryd.ntmps48
      go_wp2_with fail
      go_ret
      exact ⟨rfl, rfl⟩
    · by_cases h13 : op = 13
      · subst h13
        go_enter Tryd.func48, Tryd.ntmps48
        go_wp2_with fail
        go_ret
        exact ⟨rfl, rfl⟩
      · have e2 : (op == 2) = false := by rw [beq_eq_false_iff_ne]; exact h2
        have e3 : (op == 3) = false := by rw [beq_eq_false_iff_ne]; exact h3
        have e13 : (op == 13) = false := by rw [beq_eq_false_iff_ne]; exact h13
        by_cases h19 : 19 ≤ op
        · have E := Lib.hid (show truthB op = decide (op ≤ 26) by simp [truthB, e2, e3, e13, h19])
          go_enter Tryd.func48, Tryd.ntmps48
          go_wp2_with fail
          go_ret
          exact ⟨by rw [E.out]; rfl, rfl⟩
        · have E := Lib.hid (show truthB op = false by simp [truthB, e2, e3, e13]; omega)
          go_enter Tryd.func48, Tryd.ntmps48
          go_wp2_with fail
          go_ret
          exact ⟨by rw [E.out]; rfl, rfl⟩
set_option maxHeartbeats 1000000 in
theorem refTruth_any (op : Int) (w : World) : Calls Tryd.prog 51 #[.int .i64 op] w fun e w' => e = .returned (.bool (truthB op)) ∧ w' = w := by
  by_cases h2 : op = 2
  · subst h2
    go_enter Tryd.func51, Tryd.ntmps51
    go_wp2_with fail
    go_ret
    exact ⟨rfl, rfl⟩
  · by_cases h3 : op = 3
    · subst h3
      go_enter Tryd.func51, Tryd.ntmps51
      go_wp2_with fail
      go_ret
      exact ⟨rfl, rfl⟩
    · by_cases h13 : op = 13
      · subst h13
        go_enter Tryd.func51, Tryd.ntmps51
        go_wp2_with fail
        go_ret
        exact ⟨rfl, rfl⟩
      · have e2 : (op == 2) = false := by rw [beq_eq_false_iff_ne]; exact h2
        have e3 : (op == 3) = false := by rw [beq_eq_false_iff_ne]; exact h3
        have e13 : (op == 13) = false := by rw [beq_eq_false_iff_ne]; exact h13
        by_cases h19 : 19 ≤ op
        · have E := Lib.hid (show truthB op = decide (op ≤ 26) by simp [truthB, e2, e3, e13, h19])
          go_enter Tryd.func51, Tryd.ntmps51
          go_wp2_with fail
          go_ret
          exact ⟨by rw [E.out]; rfl, rfl⟩
        · have E := Lib.hid (show truthB op = false by simp [truthB, e2, e3, e13]; omega)
          go_enter Tryd.func51, Tryd.ntmps51
          go_wp2_with fail
          go_ret
          exact ⟨by rw [E.out]; rfl, rfl⟩
set_option maxHeartbeats 1000000 in
theorem isTruth_any (A : Option Addr) (n c : Nat) (f : Nat → Nod) (w : World) (h : NodRd w w.heap.size A n f) :
    Calls Tryd.prog 16 #[.slice A n c] w fun e w' => e = .returned (.bool (isTruthB n f)) ∧ w' = w := by
  have hn := h.small
  by_cases h0 : n = 0
  · subst h0
    go_enter Tryd.func16, Tryd.ntmps16
    go_wp2_with fail
    go_ret
    exact ⟨rfl, rfl⟩
  · obtain ⟨m, rfl⟩ : ∃ m, n = m + 1 := ⟨n - 1, by omega⟩
    obtain ⟨b, off, rfl, hbl, hcs⟩ := h.spot (by omega)
    obtain ⟨c0, c1, c2, c3, c4, c5⟩ := hcs m (by omega)
    have E := Lib.hid (show isTruthB (m + 1) f = truthB (f m).op by simp [isTruthB])
    clear hcs c1 c2 c3 c4 c5 h
    go_enter Tryd.func16, Tryd.ntmps16
    go_wp2_with (go_at_call 48; refine (truth_any _ _).mono ?_; rintro e w' ⟨rfl, rfl⟩)
    go_ret
    exact ⟨by rw [E.out]; rfl, rfl⟩
set_option maxHeartbeats 1000000 in
theorem refIsTruth_any (A : Option Addr) (n c : Nat) (f : Nat → Nod) (w : World) (h : NodRd w w.heap.size A n f) :
    Calls Tryd.prog 22 #[.slice A n c] w fun e w' => e = .returned (.bool (isTruthB n f)) ∧ w' = w := by
  have hn := h.small
  by_cases h0 : n = 0
  · subst h0
    go_enter Tryd.func22, Tryd.ntmps22
    go_wp2_with fail
    go_ret
    exact ⟨rfl, rfl⟩
  · obtain ⟨m, rfl⟩ : ∃ m, n = m + 1 := ⟨n - 1, by omega⟩
    obtain ⟨b, off, rfl, hbl, hcs⟩ := h.spot (by omega)
    obtain ⟨c0, c1, c2, c3, c4, c5⟩ := hcs m (by omega)
    have E := Lib.hid (show isTruthB (m + 1) f = truthB (f m).op by simp [isTruthB])
    clear hcs c1 c2 c3 c4 c5 h
    go_enter Tryd.func22, Tryd.ntmps22
    go_wp2_with (go_at_call 51; refine (refTruth_any _ _).mono ?_; rintro e w' ⟨rfl, rfl⟩)
    go_ret
    exact ⟨by rw [E.out]; rfl, rfl⟩
end Go.Proofs.YtagcbljfaflhoaaDoor

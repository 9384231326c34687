/-
  The walk of the writer's tree.
-/
import Derived.Test.YtfcdkadblagijaaDoorItem5
set_option linter.unusedSimpArgs false
set_option linter.unusedVariables false
namespace Go.Proofs.YtfcdkadblagijaaDoor
open Go.RowKit Go.ChangeShapes Go.WideShapes Go.ChangeAt Go.Deep Go.Joins
/-- The trees of a well shaped list of nodes, the last of all of them. -/
def TreesOk2 (n : Nat) (f : Nat → Nod) (T : Nat → Tr) : Prop := treeB n f = true → 0 < n ∧ (∀ i, i < n → TrAt f T i ∧ (T i).sz ≤ i + 1) ∧ (T (n - 1)).sz = n
theorem trees_ok2 (n : Nat) (f : Nat → Nod) : ∃ T, TreesOk2 n f T := by
  cases h : treeB n f
  · exact ⟨fun i => .leaf (f i), fun h2 => by rw [h] at h2; cases h2⟩
  · have h0 := h
    unfold treeB at h
    split at h
    · cases h
    · rename_i l hl
      simp only [decide_eq_true_eq] at h
      obtain ⟨T, hT⟩ := trees_of hl
      exact ⟨T, fun _ => ⟨h.1, fun i hi => ⟨(hT i hi).1, by have := (hT i hi).2; omega⟩, by have := (hT (n - 1) (by omega)).2; omega⟩⟩
def Stay0 (w : World) (e : Ending) (w' : World) : Prop := e = .returned (.tuple #[]) ∧ w' = w
set_option maxRecDepth 100000 in
set_option maxHeartbeats 4000000 in
theorem node_full (B R : Nat) (L : List Tk) (o d : Nat) (v : Value) (A : Option Addr) (n c : Nat) (i least : Int) (w : World) (h : WrS w B R L o d v) (hf : 400 < L.length) :
    Calls Tryd.prog 21 #[.pointer (some ⟨R, 0, none⟩), .slice A n c, .int .i64 i, .int .i64 least] w (Stay0 w) := by
  have HW := Lib.hid h
  clear h
  go_enter Tryd.func21, Tryd.ntmps21
  go_wp2_with fail
  refine (full_any B R L o d v _ HW.out).mono ?_
  rintro e w1 ⟨rfl, rfl⟩
  rw [decide_eq_true hf]
  go_wp2_with fail
  go_end0
  exact ⟨rfl, rfl⟩
/-- How many tokens the writer has. -/
def lenC : Option Value → Nat
  | some (.slice _ n _) => n
  | _ => 0
/-- What tree ends with. -/
def TrPost (B R : Nat) (w : World) (L : List Tk) (d : Nat) (P : List Tk) (p : Nat) (e : Ending) (w' : World) : Prop :=
  e = .returned (.tuple #[]) ∧ Stw B w w' ∧ ∃ L' d' v', WrS w' B R L' 0 d' v' ∧ Wrote L L' d d' 0 P p ∧ L'.length ≤ L.length + 3300 ∧ d' ≤ max d 802
set_option maxRecDepth 100000 in
set_option maxHeartbeats 4000000 in
theorem tree_any (w0 : World) (A : Option Addr) (n c : Nat) (f : Nat → Nod) (T : Nat → Tr) (HT : NodRd w0 w0.heap.size A n f) (HV : LevV w0) (HG : SgnV w0) (h0 : 0 < n) (hT : ∀ i, i < n → TrAt f T i ∧ (T i).sz ≤ i + 1) (hsz : (T (n - 1)).sz = n)
    (R : Nat) (w : World) (L : List Tk) (d : Nat) (v : Value) (hW : WrS w w0.heap.size R L 0 d v) (hb : Below w0.heap.size w0 w) (hL : L.length ≤ 5000) (hd : d ≤ 900) :
    Calls Tryd.prog 29 #[.pointer (some ⟨R, 0, none⟩), .slice A n c] w (TrPost w0.heap.size R w L d (T (n - 1)).toks (T (n - 1)).dp) := by
  have hn := HT.small
  have hkl := toks_len (T (n - 1))
  have hkd := dp_len (T (n - 1))
  have hNA := node_all w0 A n c f T HT HV HG (fun i hi => (hT i hi).1) (n - 1) (by omega) 0 (by omega) (by omega)
  have hlr := lev_range (hT (n - 1) (by omega)).1.op.1 (hT (n - 1) (by omega)).1.op.2
  rw [show wrapT (lev (f (n - 1)).op) 0 (T (n - 1)).toks = (T (n - 1)).toks from if_neg (by omega), show wrapD (lev (f (n - 1)).op) 0 (T (n - 1)).dp = (T (n - 1)).dp from if_neg (by omega)] at hNA
  obtain ⟨t, ht⟩ : ∃ t, T (n - 1) = t := ⟨_, rfl⟩
  rw [ht] at hNA hkl hkd hsz ⊢
  obtain ⟨m, hm⟩ : ∃ m, n - 1 = m := ⟨_, rfl⟩
  have hmi : (n : Int) - 1 = (m : Int) := by omega
  rw [hm] at hNA
  obtain ⟨B, hB⟩ : ∃ B, w0.heap.size = B := ⟨_, rfl⟩
  have HBE := Lib.hid hB
  have HNA := Lib.hid hNA
  rw [hB] at hW
  have HW := Lib.hid hW
  have HBB := Lib.hid hb
  have hBw : B ≤ w.heap.size := by rw [← hB]; exact hb.size
  rw [hB]
  clear HT HV HG hT hlr ht hm hNA hW hb hB
  by_cases hbig : 400 < n
  · have hbi : (400 : Int) < (n : Int) := by omega
    go_enter Tryd.func29, Tryd.ntmps29
    go_wp2_with fail
    go_loopw [] (fun wr => Hid (∃ L' v', Stw B w wr ∧ WrS wr B R L' 0 d v' ∧ L'.length ≤ max L.length 401 ∧ L.length ≤ L'.length)) (fun wr => 401 - lenC (wr.cell? ⟨R, 0, none⟩))
    case atStart => exact Lib.hid ⟨L, v, Stw.refl _ _, HW.out, by omega, by omega⟩
    case round =>
      obtain ⟨L1, v1, hs1, h1, hl1, hl0⟩ := hrel.out
      obtain ⟨W1, e1⟩ : ∃ W1 : World, W1 = wr := ⟨_, rfl⟩
      subst e1
      have H1 := Lib.hid h1
      have S1 := Lib.hid hs1
      have hBw1 : B ≤ W1.heap.size := Nat.le_trans hBw hs1.size
      clear h1 hs1
      go_wp2_with fail
      refine (full_any B R L1 0 d v1 _ H1.out).mono ?_
      rintro e w2 ⟨rfl, rfl⟩
      by_cases hf : 400 < L1.length
      · rw [decide_eq_true hf]
        go_wp2_with fail
        refine (node_full B R L1 0 d v1 A n c m 0 _ H1.out hf).mono ?_
        rintro e w3 ⟨rfl, rfl⟩
        go_wp2_with fail
        go_end0
        exact ⟨rfl, S1.out, L1, d, v1, H1.out, ⟨by omega, by omega, by omega, fun h => by omega, fun _ => hf⟩, by omega, by omega⟩
      · rw [decide_eq_false hf]
        have hm0 : lenC (w2.cell? ⟨R, 0, none⟩) = L1.length := by
          obtain ⟨A', c', rfl, _⟩ := rowown_shape H1.out.own
          rw [H1.out.cells.1]; rfl
        have HM0 := Lib.hid hm0
        clear hm0
        go_wp2_with fail
        refine (tokNum_any 0 _).mono ?_
        rintro e w3 ⟨rfl, hb3⟩
        have hb4 := bnew hb3 (.cells #[.int .i64 2, .string ⟨#[]⟩, .int .i64 0, .int .i64 0] 62)
        have T4 := Lib.hid (blk_new w3 #[.int .i64 2, .string ⟨#[]⟩, .int .i64 0, .int .i64 0] 62)
        have H4 := Lib.hid (H1.out.below hb4)
        have S4 := Lib.hid (S1.out.trans (Stw.of hb4 hBw1))
        go_wp2_with fail
        refine (add1_any B R L1 0 d v1 2 0 ⟨#[]⟩ w3.heap.size _ H4.out T4.out (by omega)).mono ?_
        rintro e w5 ⟨rfl, hs5, v5, h5⟩
        have S5 := Lib.hid (S4.out.trans hs5)
        have H5 := Lib.hid h5
        have HM5 := Lib.hid (show lenC (w5.cell? ⟨R, 0, none⟩) = L1.length + 1 by
          obtain ⟨A', c', rfl, _⟩ := rowown_shape h5.own
          rw [h5.cells.1, List.length_append]; rfl)
        clear hs5 h5 hb3 hb4 T4 H4 S4
        go_wp2_with fail
        go_roundw
        case rel => exact Lib.hid ⟨_, v5, S5.out, H5.out, by simp only [List.length_append, List.length_cons, List.length_nil]; omega, by simp only [List.length_append, List.length_cons, List.length_nil]; omega⟩
        case measure => rw [HM0.out, HM5.out]; omega
  · have hbi : (n : Int) ≤ 400 := by omega
    go_enter Tryd.func29, Tryd.ntmps29
    go_wp2_with fail
    refine (HNA.out R w L 0 d v (by rw [HBE.out]; exact HW.out) HBB.out (by omega) (by omega) (by omega) (by omega)).mono ?_
    rw [HBE.out]
    rintro e w2 ⟨rfl, hs2, L2, d2, v2, h2, hw2⟩
    have S2 := Lib.hid hs2
    have H2 := Lib.hid h2
    have W2 := Lib.hid hw2
    clear hs2 h2 hw2
    go_wp2_with fail
    go_end0
    exact ⟨rfl, S2.out, L2, d2, v2, H2.out, W2.out, by have := W2.out.1; omega, by have := W2.out.2.1; omega⟩
end Go.Proofs.YtfcdkadblagijaaDoor

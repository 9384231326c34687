/-
  The walks of the writer's enter and leave, of glue and leaf.
-/
import Derived.Test.YtfcdkadblagijaaDoorWriter
import Derived.Deep.RegionHeld3
import Derived.Deep.RegionLaw
import Derived.BigRegion
set_option linter.unusedSimpArgs false
set_option linter.unusedVariables false
namespace Go.Proofs.YtfcdkadblagijaaDoor
open Go.RowKit Go.ChangeShapes Go.WideShapes Go.ChangeAt Go.Deep Go.Joins
theorem cell_lt {w : World} {a : Addr} {v : Value} (h : w.cell? a = some v) : a.block < w.heap.size := by
  unfold World.cell? at h
  split at h
  · rename_i hh
    exact (Array.getElem?_eq_some_iff.1 hh).1
  · cases h
theorem tkRd_new (w : World) (k n : Int) (s : ByteArray) : TkRd (w.alloc (.cells #[.int .i64 k, .string s, .int .i64 n, .int .i64 0] 62)) (some ⟨w.heap.size, 0, none⟩) [⟨k, s, n⟩] :=
  Or.inr ⟨_, rfl, World.news_of_block (cs := #[.int .i64 k, .string s, .int .i64 n, .int .i64 0]) (t := 62) (fr := (0, 0)) (heap_alloc_new _ _)⟩
/-- One token that lies in a block of its own. -/
theorem add1_any (B R : Nat) (L : List Tk) (o d : Nat) (v : Value) (k n : Int) (s : ByteArray) (g : Nat) (w : World) (h : WrS w B R L o d v) (hg : w.heap[g]? = some (.cells #[.int .i64 k, .string s, .int .i64 n, .int .i64 0] 62 (0, 0))) (hL : L.length ≤ 900000) :
    Calls Tryd.prog 25 #[.pointer (some ⟨R, 0, none⟩), .slice (some ⟨g, 0, none⟩) 1 1] w fun e w' => e = .returned (.tuple #[]) ∧ Stw B w w' ∧ ∃ v', WrS w' B R (L ++ [⟨k, s, n⟩]) o d v' :=
  add_any B R L [⟨k, s, n⟩] o d v (some ⟨g, 0, none⟩) 1 w h (Or.inr ⟨_, rfl, World.news_of_block (cs := #[.int .i64 k, .string s, .int .i64 n, .int .i64 0]) (t := 62) (fr := (0, 0)) hg⟩) (fun h => by cases h) (by simp; omega)
theorem blk_new2 (w : World) (o : Obj) (cs : Array Value) (T : TypeId) : ((w.alloc o).alloc (.cells cs T)).heap[w.heap.size + 1]? = some (.cells cs T (0, 0)) := by
  have h := blk_new (w.alloc o) cs T
  rwa [World.size_alloc] at h
set_option maxRecDepth 100000 in
set_option maxHeartbeats 2000000 in
theorem enter_any (B R : Nat) (L : List Tk) (o d : Nat) (v : Value) (k n : Int) (s : ByteArray) (w : World) (h : WrS w B R L o d v) (hL : L.length ≤ 900000) (ho : o ≤ 1000000) (hd : d ≤ 1000000) :
    Calls Tryd.prog 43 #[.pointer (some ⟨R, 0, none⟩), .agg #[.int .i64 k, .string s, .int .i64 n, .int .i64 0]] w fun e w' => e = .returned (.tuple #[]) ∧ Stw B w w' ∧ ∃ v', WrS w' B R (L ++ [⟨k, s, n⟩]) (o + 1) (max d (o + 1)) v' := by
  have hBw : B ≤ w.heap.size := by have := h.hB; have := h.lt; omega
  have hb0 := bnew (Below.refl w.heap.size w) (.cells #[.int .i64 k, .string s, .int .i64 n, .int .i64 0] 62)
  have HN := Lib.hid (h.below (bnew hb0 (.cells #[.int .i64 k, .string s, .int .i64 n, .int .i64 0] 62)))
  have S0 := Lib.hid (Stw.of (bnew hb0 (.cells #[.int .i64 k, .string s, .int .i64 n, .int .i64 0] 62)) hBw)
  have HR := Lib.hid (blk_new2 w (.cells #[.int .i64 k, .string s, .int .i64 n, .int .i64 0] 62) #[.int .i64 k, .string s, .int .i64 n, .int .i64 0] 62)
  clear h hb0
  go_enter Tryd.func43, Tryd.ntmps43
  go_wp2_with fail
  refine (add1_any B R L o d v k n s (w.heap.size + 1) _ HN.out HR.out hL).mono ?_
  rintro e w1 ⟨rfl, hs1, v1, h1⟩
  have S1 := Lib.hid (S0.out.trans hs1)
  obtain ⟨x0, x1, x2, f0, f1, f2⟩ := h1.cells
  have e1 : (((o + 1 : Nat) : Int)) = (o : Int) + 1 := by omega
  have h2 := h1.setO (o + 1)
  have hs2 := Stw.set (B := B) h1.heap h1.hB 1 (.int .i64 ((o + 1 : Nat) : Int))
  rw [e1] at h2 hs2
  have H2 := Lib.hid h2
  have S2 := Lib.hid (S1.out.trans hs2)
  clear h1 hs1 hs2 h2 S0 S1 HN HR e1
  go_upto_region 3 with fail
  clear x0 x1 x2 f0 f1 f2
  generalize w1.setCell ⟨R, 1, none⟩ (.int .i64 ((o : Int) + 1)) = w2 at *
  obtain ⟨O, hO⟩ : ∃ O, o + 1 = O := ⟨_, rfl⟩
  rw [hO] at H2
  have HO := Lib.hid hO
  obtain ⟨x0, x1, x2, f0, f1, f2⟩ := H2.out.cells
  have hO2 : O ≤ 1000001 := by omega
  clear hO x0 f0 f1
  have h3 := H2.out.setD (max d O)
  have s3 := (S2.out.trans (Stw.set (B := B) H2.out.heap H2.out.hB 2 (.int .i64 ((max d O : Nat) : Int))))
  rw [show ((max d O : Nat) : Int) = max (d : Int) (O : Int) by omega] at h3 s3
  have H3 := Lib.hid h3
  have S3 := Lib.hid s3
  clear h3 s3
  go_wp2_with fail
  go_region
  go_wp2_with fail
  go_end0
  exact ⟨rfl, S3.out.drewN 1, v1, by rw [HO.out]; exact H3.out.below (bdrewN (Below.refl _ _) 1)⟩
set_option maxRecDepth 100000 in
set_option maxHeartbeats 2000000 in
theorem leave_any (B R : Nat) (L M : List Tk) (o d : Nat) (v : Value) (A : Option Addr) (c : Nat) (w : World) (h : WrS w B R L (o + 1) d v) (hM : TkRd w A M) (hA : M = [] → A = none ∧ c = 0) (hL : L.length + M.length ≤ 1000000) (ho : o ≤ 1000000) :
    Calls Tryd.prog 44 #[.pointer (some ⟨R, 0, none⟩), .slice A M.length c] w fun e w' => e = .returned (.tuple #[]) ∧ Stw B w w' ∧ ∃ v', WrS w' B R (L ++ M) o d v' := by
  have HW := Lib.hid h
  have HM := Lib.hid hM
  have HA := Lib.hid hA
  clear h hM hA
  obtain ⟨m, hm⟩ : ∃ m, M.length = m := ⟨_, rfl⟩
  have HME := Lib.hid hm
  rw [hm] at hL
  rw [hm]
  clear hm
  go_enter Tryd.func44, Tryd.ntmps44
  go_wp2_with fail
  rw [← HME.out]
  refine (add_any B R L M (o + 1) d v A c _ HW.out HM.out HA.out (by rw [HME.out]; exact hL)).mono ?_
  rintro e w1 ⟨rfl, hs1, v1, h1⟩
  have S1 := Lib.hid hs1
  have h2 := h1.setO o
  have hs2 := Stw.set (B := B) h1.heap h1.hB 1 (.int .i64 (o : Int))
  obtain ⟨x0, x1, x2, f0, f1, f2⟩ := h1.cells
  have e1 : (((o + 1 : Nat) : Int)) = (o : Int) + 1 := by omega
  rw [e1] at x1
  have H2 := Lib.hid h2
  have S2 := Lib.hid (hs1.trans hs2)
  clear h1 hs1 hs2 h2 e1
  have e2 : (o : Int) + 1 - 1 = (o : Int) := by omega
  go_wp2_with fail
  go_end0
  exact ⟨rfl, S2.out, v1, H2.out⟩
/-- The first k lists behind each other. -/
def catK (M : Nat → List Tk) : Nat → List Tk
  | 0 => []
  | k + 1 => catK M k ++ M k
theorem catK_len {M : Nat → List Tk} {n : Nat} (h : ∀ j, j < n → (M j).length ≤ 10) : ∀ k, k ≤ n → (catK M k).length ≤ 10 * k
  | 0, _ => Nat.zero_le _
  | k + 1, hk => by
    have := catK_len h k (by omega)
    have := h k (by omega)
    show (catK M k ++ M k).length ≤ _
    rw [List.length_append]
    omega
set_option maxRecDepth 100000 in
set_option maxHeartbeats 2000000 in
theorem glue_any (g : Nat) (a : Nat → Addr) (c : Nat → Nat) (M : Nat → List Tk) (w : World) (hc : ∀ j, j < 3 → w.cell? ⟨g, j, none⟩ = some (.slice (some (a j)) (M j).length (c j)))
    (hM : ∀ j, j < 3 → ∀ q u, (tkCells (M j))[q]? = some u → w.cell? ((a j).add q) = some u) (hl : ∀ j, j < 3 → 0 < (M j).length) (hl2 : ∀ j, j < 3 → (M j).length ≤ 10) :
    Calls Tryd.prog 57 #[.slice (some ⟨g, 0, none⟩) 3 3] w fun e w' => ∃ A' c', e = .returned (.slice A' (catK M 3).length c') ∧ Below w.heap.size w w' ∧ w'.ownsRow w.heap.size 62 4 (.slice A' (catK M 3).length c') (catK M 3).length (tkCells (catK M 3)) := by
  obtain ⟨i0, hi0, hz0, hz1, hz2⟩ := info_parts infoTok
  have HC := Lib.hid hc
  have HM := Lib.hid hM
  have HL := Lib.hid hl
  have HL2 := Lib.hid (catK_len hl2)
  have HL3 := Lib.hid hl2
  clear hc hM hl hl2
  go_enter Tryd.func57, Tryd.ntmps57
  go_wp2_with fail
  go_loopw [3, 8] (fun o i wr => ∃ (k : Nat) (ov : Value), k ≤ 3 ∧ i = .int .i64 k ∧ ov = o ∧ Below w.heap.size w wr ∧ Hid (wr.ownsRow w.heap.size 62 4 ov (catK M k).length (tkCells (catK M k)))) (fun _ i _ => 3 - (intOf i).toNat)
  case atStart => exact ⟨0, .slice none 0 0, by omega, rfl, rfl, Below.refl _ _, Lib.hid (World.ownsRow_nil _ _ _ _)⟩
  case round =>
    obtain ⟨k, ov, hk, rfl, rfl, hb, HO⟩ := hrel
    obtain ⟨W1, e1⟩ : ∃ W1 : World, W1 = wr := ⟨_, rfl⟩
    subst e1
    obtain ⟨oA, oc, rfl, _⟩ := rowown_shape HO.out
    by_cases hlt : k < 3
    · have c0 := HC.out k hlt
      have d0 := (hb.cell (p := ⟨g, k, none⟩) (cell_lt c0)).trans c0
      have hn : Hid (∀ q u, (tkCells (M k))[q]? = some u → W1.cell? ((a k).add q) = some u) := Lib.hid (fun q u hq => (hb.cell (cell_lt (HM.out k hlt q u hq))).trans (HM.out k hlt q u hq))
      have h0 := HL.out k hlt
      have h10 := HL3.out k hlt
      have hcl := HL2.out k hk
      have hle := hb.size
      have hml : (catK M k).length + (M k).length ≤ maxLen := by unfold maxLen; omega
      clear c0
      go_wp2_with (at_builtin; go_loud (refine wpList_append_lies _ rfl _ _ _ rfl w.heap.size 62 i0 _ 4 40 Tryd.underlying51 hi0 hz0 hz1 hz2 rfl (by omega) (.slice oA (catK M k).length oc) (catK M k).length (tkCells (catK M k)) rfl HO.out (a k) (M k).length (c k) (tkCells (M k)) rfl (tkCells_length _) hn.out (tkCells_one _) h0 hml (by omega) hle W1.heap.size rfl ?_; intro gg gcap w9 hown hg hat hlt9))
      have hb9 := below_grown hb hg hle (fun x hx => (HO.out.lt x hx).1)
      have HN := Lib.hid (show w9.ownsRow w.heap.size 62 4 (.slice (some ⟨gg, 0, none⟩) ((catK M k).length + (M k).length) gcap) (catK M (k + 1)).length (tkCells (catK M (k + 1))) by
        have e : catK M (k + 1) = catK M k ++ M k := rfl
        rw [e, List.length_append, tkCells_append]
        exact hown)
      go_roundw
      case rel => exact ⟨k + 1, _, by omega, by go_num, rfl, hb9, HN⟩
      case measure => simp [intOf]; omega
    · obtain rfl : k = 3 := by omega
      go_wp2_with fail
      go_ret
      exact ⟨oA, oc, rfl, hb, HO.out⟩
end Go.Proofs.YtfcdkadblagijaaDoor

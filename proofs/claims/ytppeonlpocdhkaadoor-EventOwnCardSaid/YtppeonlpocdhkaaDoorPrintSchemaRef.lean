/-
  The walk of the reference's PrintSchema.
-/
import Derived.Test.YtppeonlpocdhkaaDoorCheckSchemaRef
import Derived.Laws.Concat
set_option linter.unusedSimpArgs false
namespace Go.Proofs.YtppeonlpocdhkaaDoor
open Go.RowKit Go.ChangeShapes Go.WideShapes Go.ChangeAt
/-- A definition's text behind what stands already, its first n attributes. -/
def attrAcc (S : Sch) (i : Nat) (out : ByteArray) : Nat → ByteArray
  | 0 => out ++ ⟨#[116, 121, 112, 101, 32]⟩ ++ S.nm i ++ ⟨#[40]⟩
  | 1 => out ++ ⟨#[116, 121, 112, 101, 32]⟩ ++ S.nm i ++ ⟨#[40]⟩ ++ S.atr i 0
  | n + 2 => attrAcc S i out (n + 1) ++ ⟨#[44, 32]⟩ ++ S.atr i (n + 1)
/-- The text of the first n definitions. -/
def schAcc (S : Sch) : Nat → ByteArray
  | 0 => .empty
  | i + 1 => attrAcc S i (schAcc S i) (S.ln i) ++ ⟨#[41, 10]⟩
theorem nameB_size {s : ByteArray} (h : nameB s = true) : s.size ≤ 16 := by
  rcases Nat.lt_or_ge 16 s.size with h1 | h1
  · rw [name_great (by omega)] at h; cases h
  · exact h1
theorem attrAcc_size {S : Sch} {i : Nat} {out : ByteArray} (h1 : (S.nm i).size ≤ 16) (h2 : ∀ j, j < S.ln i → (S.atr i j).size ≤ 16) : ∀ n, n ≤ S.ln i → (attrAcc S i out n).size ≤ out.size + 22 + 18 * n
  | 0, _ => by
    have e1 : (ByteArray.mk #[116, 121, 112, 101, 32]).size = 5 := rfl
    have e2 : (ByteArray.mk #[40]).size = 1 := rfl
    simp only [attrAcc, ByteArray.size_append, e1, e2]
    omega
  | 1, h => by
    have e1 : (ByteArray.mk #[116, 121, 112, 101, 32]).size = 5 := rfl
    have e2 : (ByteArray.mk #[40]).size = 1 := rfl
    have h3 := h2 0 (by omega)
    simp only [attrAcc, ByteArray.size_append, e1, e2]
    omega
  | n + 2, h => by
    have e1 : (ByteArray.mk #[44, 32]).size = 2 := rfl
    have h3 := h2 (n + 1) (by omega)
    have h4 := attrAcc_size h1 h2 (out := out) (n + 1) (by omega)
    simp only [attrAcc, ByteArray.size_append, e1]
    omega
/-- What a schema's sizes are. -/
def Small (S : Sch) : Prop := S.n ≤ 16 ∧ ∀ i, i < S.n → (S.nm i).size ≤ 16 ∧ S.ln i ≤ 8 ∧ ∀ j, j < S.ln i → (S.atr i j).size ≤ 16
theorem small_of {S : Sch} (h : schErr S = 0) : Small S := by
  obtain ⟨_, h1, h2⟩ := sch_zero h
  refine ⟨h1, fun i hi => ?_⟩
  obtain ⟨a, _, b, c⟩ := h2 i hi
  exact ⟨nameB_size a, b, fun j hj => nameB_size (c j hj).1⟩
theorem schAcc_size {S : Sch} (h : Small S) : ∀ i, i ≤ S.n → (schAcc S i).size ≤ 200 * i
  | 0, _ => by simp [schAcc]
  | i + 1, hi => by
    have h1 := schAcc_size h i (by omega)
    obtain ⟨a, b, c⟩ := h.2 i (by omega)
    have h2 := attrAcc_size (out := schAcc S i) a c (S.ln i) (Nat.le_refl _)
    have e : (ByteArray.mk #[41, 10]).size = 2 := rfl
    simp only [schAcc, ByteArray.size_append, e]
    omega
/-- A schema's text, empty if it is none. -/
def schOut (S : Sch) : ByteArray := if schErr S = 0 then schAcc S S.n else .empty
theorem schOut_bad {S : Sch} (h : schErr S ≠ 0) : schOut S = .empty := if_neg h
theorem schOut_ok {S : Sch} (h : schErr S = 0) : schOut S = schAcc S S.n := if_pos h
set_option maxRecDepth 100000 in
set_option maxHeartbeats 1000000 in
theorem refPrintSchema_any (A : Option Addr) (cap : Nat) (S : Sch) (w : World) (h : TypRd w w.heap.size A S) {tt : TypeId} {fr : Nat × Nat} (hkw : w.heap[0]? = some (.cells kwArr tt fr)) :
    Calls Tryd.prog 20 #[.agg #[.slice A S.n cap]] w fun e w' => e = .returned (.tuple #[.string (schOut S), .int .i64 (schErr S)]) ∧ Below w.heap.size w w' := by
  have hn := h.1
  have HT := Lib.hid h
  have HK := Lib.hid hkw
  have hb0 := bnew (Below.refl w.heap.size w) (.cells #[.slice A S.n cap] 25)
  have x0 : (w.alloc (.cells #[.slice A S.n cap] 25)).cell? ⟨w.heap.size, 0, none⟩ = some (.slice A S.n cap) := by simp [go_sem]
  have hz0 : w.heap.size < (w.alloc (.cells #[.slice A S.n cap] 25)).heap.size := by simp
  clear h hkw
  go_enter Tryd.func20, Tryd.ntmps20
  go_wp2_with fail
  generalize w.alloc (.cells #[.slice A S.n cap] 25) = w2 at *
  refine (refCheckSchema_any A cap S _ (HT.out.later hb0) (block_below HK.out hb0)).mono ?_
  rintro e w3 ⟨rfl, hb3⟩
  have x3 := (hb3.cell (p := ⟨w.heap.size, 0, none⟩) hz0).trans x0
  have hbf := bcall hb0 hb3
  have hz3 := hb3.size
  clear x0
  by_cases hc : schErr S = 0
  · have HSM := Lib.hid (small_of hc)
    have HO := Lib.hid (schOut_ok hc)
    rw [hc]
    have HC := Lib.hid hc
    clear hc
    go_wp2_with fail
    go_loopw [6, 5] (fun i o wr => ∃ k : Nat, k ≤ S.n ∧ i = .int .i64 k ∧ o = .string (schAcc S k) ∧ Below w.heap.size w wr ∧ w.heap.size < wr.heap.size ∧ wr.cell? ⟨w.heap.size, 0, none⟩ = some (.slice A S.n cap)) (fun i _ _ => S.n - (intOf i).toNat)
    case atStart => exact ⟨0, Nat.zero_le _, rfl, rfl, hbf, by omega, x3⟩
    case round =>
      clear x3
      obtain ⟨k, hk, rfl, rfl, hb, hsz, hx⟩ := hrel
      obtain ⟨W1, e1⟩ : ∃ W1 : World, W1 = wr := ⟨_, rfl⟩
      subst e1
      by_cases hlt : k < S.n
      · obtain ⟨b, off, rfl, hbl, hcs⟩ := HT.out.2 (by omega)
        obtain ⟨c1, aa, ac, c2, hsr⟩ := hcs k hlt
        have d1 := (hb.cell (p := ⟨b, off + k * 2, none⟩) hbl).trans c1
        have d2 := (hb.cell (p := ⟨b, off + k * 2 + 1, none⟩) hbl).trans c2
        have HS := Lib.hid (hsr.below hb)
        obtain ⟨s16, l8, a16⟩ := HSM.out.2 k hlt
        have hss := schAcc_size HSM.out k (by omega)
        have HA := Lib.hid a16
        have HZ := Lib.hid (attrAcc_size (out := schAcc S k) s16 a16)
        have hn16 := HSM.out.1
        have q1 : ¬ 9223372036854775807 < (schAcc S k).size + 5 := by omega
        have q2 : ¬ 9223372036854775807 < (schAcc S k).size + 5 + (S.nm k).size := by omega
        have q3 : ¬ 9223372036854775807 < (schAcc S k).size + 5 + (S.nm k).size + 1 := by omega
        have hb4 := bnew (Below.refl W1.heap.size W1) (.cells #[.string (S.nm k), .slice aa (S.ln k) ac] 40)
        have t1 : (W1.alloc (.cells #[.string (S.nm k), .slice aa (S.ln k) ac] 40)).cell? ⟨W1.heap.size, 1, none⟩ = some (.slice aa (S.ln k) ac) := by simp [go_sem]
        have x4 := cell_alloc hx (.cells #[.string (S.nm k), .slice aa (S.ln k) ac] 40)
        have hs4 : W1.heap.size < (W1.alloc (.cells #[.string (S.nm k), .slice aa (S.ln k) ac] 40)).heap.size := by simp
        have HS4 := Lib.hid (HS.out.below (hb4.mono hb.size))
        clear hcs c1 c2 hsr a16
        go_wp2_with fail
        generalize W1.alloc (.cells #[.string (S.nm k), .slice aa (S.ln k) ac] 40) = w4 at *
        go_loop [8, 5] (fun i o => ∃ m : Nat, m ≤ S.ln k ∧ i = .int .i64 m ∧ o = .string (attrAcc S k (schAcc S k) m)) (fun i _ => S.ln k - (intOf i).toNat)
        case atStart => exact ⟨0, Nat.zero_le _, rfl, rfl⟩
        case round =>
          obtain ⟨m, hm, rfl, rfl⟩ := hrel
          have hzz := HZ.out m hm
          by_cases hlm : m < S.ln k
          · obtain ⟨b2, off2, rfl, hbl2, hcs2⟩ := HS4.out.2 (by omega)
            have c3 := hcs2 m hlm
            have ha := HA.out m hlm
            clear hcs2
            have r1 : ¬ 9223372036854775807 < (attrAcc S k (schAcc S k) m).size + 2 := by omega
            have r2 : ¬ 9223372036854775807 < (attrAcc S k (schAcc S k) m).size + 2 + (S.atr k m).size := by omega
            have r3 : ¬ 9223372036854775807 < (attrAcc S k (schAcc S k) m).size + (S.atr k m).size := by omega
            cases m with
            | zero =>
              have c3' : w4.cell? ⟨b2, off2, none⟩ = some (.string (S.atr k 0)) := c3
              have hl0 : (0 : Int) < (S.ln k : Int) := by omega
              go_wp2_with fail
              go_round
              case rel => exact ⟨1, by omega, by go_num, rfl⟩
              case measure => simp [intOf]; omega
            | succ m =>
              have hpos : (0 : Int) < ((m + 1 : Nat) : Int) := by omega
              go_wp2_with fail
              go_round
              case rel => exact ⟨m + 2, by omega, by go_num, rfl⟩
              case measure => simp [intOf]; omega
          · obtain rfl : m = S.ln k := by omega
            have r4 : ¬ 9223372036854775807 < (attrAcc S k (schAcc S k) (S.ln k)).size + 2 := by omega
            go_wp2_with fail
            go_roundw
            case rel => exact ⟨k + 1, by omega, by go_num, rfl, bcall hb hb4, by omega, x4⟩
            case measure => simp [intOf]; omega
      · obtain rfl : k = S.n := by omega
        go_wp2_with fail
        go_ret2
        exact ⟨by rw [HO.out, HC.out]; rfl, hb⟩
  · have hne : (schErr S != 0) = true := by rw [bne_iff_ne]; exact hc
    have HR := Lib.hid (schOut_bad hc)
    clear hc
    go_wp2_with fail
    go_ret2
    exact ⟨by rw [HR.out]; rfl, hbf⟩
end Go.Proofs.YtppeonlpocdhkaaDoor

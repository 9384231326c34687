/-
  Several texts in one: LoosePlain, LooseWalk, Loose, EventSpacesWalk, TabCells.
-/
import Derived.Test.YtppeonlpocdhkaaDoorBacks
import Derived.Test.YtppeonlpocdhkaaDoorIntC
import Derived.BigQuiet
import Derived.Test.YtppeonlpocdhkaaDoorCheckSchema
import Derived.Test.YtppeonlpocdhkaaDoorSchemaSame
import Derived.Test.YtppeonlpocdhkaaDoorKwVar
import Derived.Test.YtppeonlpocdhkaaDoorPowVar
import Derived.Test.YtppeonlpocdhkaaDoorKit
set_option linter.unusedVariables false
set_option linter.unusedSimpArgs false
/-! ### A schema's text with gaps between its words and marks, plain. -/
namespace Go.Proofs.YtppeonlpocdhkaaDoor
open Go.RowKit
/-- A gap of kind k; a comment has note in it, cut at its first newline. -/
def blankT (note : ByteArray) (k : Int) : ByteArray :=
  if k % 6 = 0 then ⟨#[32]⟩ else if k % 6 = 1 then ⟨#[10]⟩ else if k % 6 = 2 then ⟨#[9, 13]⟩ else if k % 6 = 3 then ⟨#[32, 32, 10, 32]⟩ else if k % 6 = 4 then ⟨#[35]⟩ ++ note.extract 0 (skipC note 0) ++ ⟨#[10]⟩ else ⟨#[35, 10]⟩
/-- The i-th of the gaps. -/
def gapT (note : ByteArray) (gn : Nat) (g : Nat → Int) (i : Nat) : ByteArray := if i < gn ∧ 0 ≤ g i then blankT note (g i) else .empty
section
variable {note : ByteArray} {gn : Nat} {g : Nat → Int}
theorem note_free (note : ByteArray) : ∀ c ∈ (note.extract 0 (skipC note 0)).data.toList, c.toNat ≠ 10 := by
  rw [bytes_extract, List.drop_zero]
  have key : ∀ (s : ByteArray) (k : Nat), ∀ c ∈ (s.data.toList.drop k).take (skipC s k - k), c.toNat ≠ 10 := by
    intro s k
    fun_induction skipC s k with
    | case1 k h hw => rw [Nat.sub_self]; simp
    | case2 k h hw ih =>
      intro c hc
      have hge := skipC_ge s (k + 1)
      rw [bytes_drop h, show skipC s (k + 1) - k = (skipC s (k + 1) - (k + 1)) + 1 by omega, List.take_succ_cons] at hc
      rcases List.mem_cons.1 hc with rfl | hc
      · exact hw
      · exact ih c hc
    | case3 k h => rw [Nat.sub_self]; simp
  exact key note 0
theorem quiet_note' (note : ByteArray) : Quiet (⟨#[35]⟩ ++ note.extract 0 (skipC note 0) ++ ⟨#[10]⟩ : ByteArray).data.toList := by
  have h := quiet_note (note_free note) quiet_nil
  rw [bytes_append, bytes_append]
  exact h
theorem quiet_kind (note : ByteArray) (k : Int) : Quiet (blankT note k).data.toList := by
  unfold blankT
  split
  · exact quiet_blank (by decide) quiet_nil
  split
  · exact quiet_blank (by decide) quiet_nil
  split
  · exact quiet_blank (by decide) (quiet_blank (by decide) quiet_nil)
  split
  · exact quiet_blank (by decide) (quiet_blank (by decide) (quiet_blank (by decide) (quiet_blank (by decide) quiet_nil)))
  split
  · exact quiet_note' note
  · exact quiet_note (note := []) (by simp) quiet_nil
theorem quiet_gap (i : Nat) : Quiet (gapT note gn g i).data.toList := by
  unfold gapT
  split
  · exact quiet_kind _ _
  · exact quiet_nil
theorem kind_size (note : ByteArray) (k : Int) : (blankT note k).size ≤ note.size + 10 := by
  have h := skipC_le note 0 (Nat.zero_le _)
  unfold blankT
  split
  · show 1 ≤ _; omega
  split
  · show 1 ≤ _; omega
  split
  · show 2 ≤ _; omega
  split
  · show 4 ≤ _; omega
  split
  · have h1 : (⟨#[35]⟩ : ByteArray).size = 1 := rfl
    have h2 : (⟨#[10]⟩ : ByteArray).size = 1 := rfl
    rw [ByteArray.size_append, ByteArray.size_append, ByteArray.size_extract, h1, h2]
    omega
  · show 2 ≤ _; omega
theorem gap_size (i : Nat) : (gapT note gn g i).size ≤ note.size + 10 := by
  unfold gapT
  split
  · exact kind_size _ _
  · show 0 ≤ _; omega
end
/-- Which gap stands ahead of attribute k. -/
def cA (n k : Nat) : Nat := if k = 0 then n + 3 else n + 2 + 2 * k
def cB (n k : Nat) : Nat := if k = 0 then n + 3 else n + 3 + 2 * k
section
variable (gt : Nat → ByteArray) (S : Sch)
def lHead (out : ByteArray) (n i : Nat) : ByteArray := out ++ ⟨#[116, 121, 112, 101, 32]⟩ ++ gt n ++ S.nm i ++ gt (n + 1) ++ ⟨#[40]⟩ ++ gt (n + 2)
def lAt (out : ByteArray) (n i : Nat) : Nat → ByteArray
  | 0 => lHead gt S out n i
  | k + 1 => (if k = 0 then lAt out n i k else lAt out n i k ++ ⟨#[44]⟩ ++ gt (cA n k)) ++ S.atr i k ++ gt (cB n k)
def lT : Nat → ByteArray × Nat
  | 0 => (gt 0, 1)
  | i + 1 => (lAt gt S (lT i).1 (lT i).2 i (S.ln i) ++ ⟨#[41]⟩ ++ gt (cA (lT i).2 (S.ln i)), cA (lT i).2 (S.ln i) + 1)
variable {gt S}
theorem lAt_list (out : ByteArray) (n i : Nat) : ∀ k, (lAt gt S out n i k).data.toList = out.data.toList ++ ([116, 121, 112, 101, 32] ++ ((gt n).data.toList ++ ((S.nm i).data.toList ++ ((gt (n + 1)).data.toList ++ (40 :: ((gt (n + 2)).data.toList ++ agText (fun k => (gt (cA n k)).data.toList) (fun k => (gt (cB n k)).data.toList) S i k))))))
  | 0 => by simp [lAt, lHead, agText]
  | k + 1 => by
    rw [lAt, bytes_append, bytes_append]
    by_cases h : k = 0
    · subst h
      rw [if_pos rfl, lAt_list out n i 0]
      simp [agText]
    · rw [if_neg h, bytes_append, bytes_append, lAt_list out n i k]
      conv => rhs; rw [agText]
      rw [if_neg h]
      simp
theorem cut_loose (hS : schErr S = 0) (hq : ∀ i, Quiet (gt i).data.toList) : ∀ n (r : List UInt8), n ≤ S.n → cutL ((lT gt S n).1.data.toList ++ r) = allToks S n ++ cutL r
  | 0, r, _ => (hq 0).cut r
  | n + 1, r, h => by
    have e : (lT gt S (n + 1)).1.data.toList ++ r = (lT gt S n).1.data.toList ++ (tgText (gt (lT gt S n).2).data.toList (gt ((lT gt S n).2 + 1)).data.toList (gt ((lT gt S n).2 + 2)).data.toList (gt (cA (lT gt S n).2 (S.ln n))).data.toList (fun k => (gt (cA (lT gt S n).2 k)).data.toList) (fun k => (gt (cB (lT gt S n).2 k)).data.toList) S n ++ r) := by
      rw [lT, bytes_append, bytes_append, lAt_list]
      simp [tgText]
    rw [e, cut_loose hS hq n _ (by omega), cut_type hS (by omega) (hq _) (hq _) (hq _) (hq _) (fun _ _ => hq _) (fun _ _ => hq _), allToks, List.append_assoc]
theorem loose_back (hS : schErr S = 0) (hq : ∀ i, Quiet (gt i).data.toList) (hs : (lT gt S S.n).1.size ≤ 4096) : parseRes (lT gt S S.n).1 = ⟨0, 0, tsR S S.n⟩ := by
  refine parse_back hS hs ?_
  have := cut_loose hS hq S.n [] (Nat.le_refl _)
  rw [List.append_nil, cutL_nil, List.append_nil] at this
  exact this
theorem lHead_size {G : Nat} (hg : ∀ i, (gt i).size ≤ G) {out : ByteArray} {n i : Nat} (hn : (S.nm i).size ≤ 16) : (lHead gt S out n i).size ≤ out.size + 22 + 3 * G := by
  have h1 : (⟨#[116, 121, 112, 101, 32]⟩ : ByteArray).size = 5 := rfl
  have h2 : (⟨#[40]⟩ : ByteArray).size = 1 := rfl
  have a := hg n
  have b := hg (n + 1)
  have c := hg (n + 2)
  simp only [lHead, ByteArray.size_append, h1, h2]
  omega
theorem lAt_size {G : Nat} (hg : ∀ i, (gt i).size ≤ G) {out : ByteArray} {n i : Nat} (hn : (S.nm i).size ≤ 16) (ha : ∀ j, j < S.ln i → (S.atr i j).size ≤ 16) : ∀ k, k ≤ S.ln i → (lAt gt S out n i k).size ≤ out.size + 22 + 3 * G + k * (17 + 2 * G)
  | 0, _ => by have := lHead_size (S := S) hg (out := out) (n := n) hn; rw [lAt]; omega
  | k + 1, hk => by
    have h := lAt_size hg (out := out) (n := n) hn ha k (by omega)
    have h1 := ha k (by omega)
    have h2 := hg (cA n k)
    have h3 := hg (cB n k)
    have h4 : (⟨#[44]⟩ : ByteArray).size = 1 := rfl
    have h6 : (k + 1) * (17 + 2 * G) = k * (17 + 2 * G) + (17 + 2 * G) := Nat.succ_mul _ _
    rw [lAt, ByteArray.size_append, ByteArray.size_append]
    split
    · omega
    · rw [ByteArray.size_append, ByteArray.size_append, h4]
      omega
theorem lT_size {G : Nat} (hG : 10 ≤ G) (hg : ∀ i, (gt i).size ≤ G) (hs : ∀ i, i < S.n → (S.nm i).size ≤ 16 ∧ S.ln i ≤ 8 ∧ ∀ j, j < S.ln i → (S.atr i j).size ≤ 16) : ∀ n, n ≤ S.n → (lT gt S n).1.size ≤ (1 + 36 * n) * G
  | 0, _ => by have := hg 0; show (gt 0).size ≤ _; omega
  | n + 1, h => by
    have h1 := lT_size hG hg hs n (by omega)
    obtain ⟨a, b, c⟩ := hs n (by omega)
    have h2 := lAt_size hg (out := (lT gt S n).1) (n := (lT gt S n).2) a c (S.ln n) (Nat.le_refl _)
    have h3 := hg (cA (lT gt S n).2 (S.ln n))
    have h4 : (⟨#[41]⟩ : ByteArray).size = 1 := rfl
    have h5 : S.ln n * (17 + 2 * G) ≤ 8 * (17 + 2 * G) := Nat.mul_le_mul_right _ b
    have h6 : (1 + 36 * (n + 1)) * G = (1 + 36 * n) * G + 36 * G := by rw [← Nat.add_mul]; congr 1
    rw [lT, ByteArray.size_append, ByteArray.size_append, h4, h6]
    omega
end
end Go.Proofs.YtppeonlpocdhkaaDoor

/-! ### The walks of the loose text: a gap's text, the i-th gap's, and a schema's. -/
namespace Go.Proofs.YtppeonlpocdhkaaDoor
open Go.RowKit Go.ChangeShapes Go.WideShapes Go.ChangeAt Go.Deep Go.Joins
theorem text35 : (⟨#[35]⟩ : ByteArray).size = 1 := rfl
theorem text10 : (⟨#[10]⟩ : ByteArray).size = 1 := rfl
set_option maxRecDepth 100000 in
set_option maxHeartbeats 4000000 in
theorem blank_any (note : ByteArray) (hs : note.size ≤ 281474976710656) (k : Int) (hk : 0 ≤ k) (w : World) :
    Calls Tryd.prog 76 #[.int .i64 k, .string note] w fun e w' => e = .returned (.string (blankT note k)) ∧ w' = w := by
  by_cases h0 : k % 6 = 0
  · have HE : Hid (blankT note k = ⟨#[32]⟩) := Lib.hid (by simp [blankT, h0])
    go_enter Tryd.func76, Tryd.ntmps76
    go_wp2_with fail
    go_ret
    exact ⟨by rw [HE.out]; rfl, rfl⟩
  by_cases h1 : k % 6 = 1
  · have HE : Hid (blankT note k = ⟨#[10]⟩) := Lib.hid (by simp [blankT, h1])
    go_enter Tryd.func76, Tryd.ntmps76
    go_wp2_with fail
    go_ret
    exact ⟨by rw [HE.out]; rfl, rfl⟩
  by_cases h2 : k % 6 = 2
  · have HE : Hid (blankT note k = ⟨#[9, 13]⟩) := Lib.hid (by simp [blankT, h2])
    go_enter Tryd.func76, Tryd.ntmps76
    go_wp2_with fail
    go_ret
    exact ⟨by rw [HE.out]; rfl, rfl⟩
  by_cases h3 : k % 6 = 3
  · have HE : Hid (blankT note k = ⟨#[32, 32, 10, 32]⟩) := Lib.hid (by simp [blankT, h3])
    go_enter Tryd.func76, Tryd.ntmps76
    go_wp2_with fail
    go_ret
    exact ⟨by rw [HE.out]; rfl, rfl⟩
  by_cases h4 : k % 6 = 4
  · have HE : Hid (blankT note k = ⟨#[35]⟩ ++ note.extract 0 (skipC note 0) ++ ⟨#[10]⟩) := Lib.hid (by simp [blankT, h4])
    go_enter Tryd.func76, Tryd.ntmps76
    go_wp2_with fail
    go_loop [5] (fun p => ∃ k' : Nat, p = .int .i64 k' ∧ k' ≤ note.size ∧ Hid (skipC note 0 = skipC note k')) (fun p => note.size - (intOf p).toNat)
    case atStart => exact ⟨0, rfl, Nat.zero_le _, Lib.hid rfl⟩
    case round =>
      obtain ⟨p, rfl, hp, HK⟩ := hrel
      by_cases hkl : p < note.size
      · by_cases h10 : note[p].toNat = 10
        · have HP := Lib.hid (HK.out.trans (skipC_off hkl h10))
          have q6 : (((note[p].toNat : Nat) : Int) != 10) = false := by rw [bne_eq_false_iff_eq]; omega
          have hz : (⟨#[35]⟩ ++ note.extract 0 p : ByteArray).size ≤ 281474976710657 := by rw [ByteArray.size_append, ByteArray.size_extract, text35]; omega
          have hz1 : (note.extract 0 p).size ≤ 281474976710656 := by rw [ByteArray.size_extract]; omega
          have h10 := text10
          have h35 := text35
          go_wp2_with fail
          go_ret
          exact ⟨by rw [HE.out, HP.out]; rfl, rfl⟩
        · have HP := Lib.hid (HK.out.trans (skipC_on hkl h10))
          have q6 : (((note[p].toNat : Nat) : Int) != 10) = true := by rw [bne_iff_ne]; omega
          go_wp2_with fail
          go_round
          case rel => exact ⟨p + 1, by go_num, hkl, HP⟩
          case measure => simp [intOf]; omega
      · have HP := Lib.hid (HK.out.trans (skipC_out hkl))
        have hz : (⟨#[35]⟩ ++ note.extract 0 p : ByteArray).size ≤ 281474976710657 := by rw [ByteArray.size_append, ByteArray.size_extract, text35]; omega
        have hz1 : (note.extract 0 p).size ≤ 281474976710656 := by rw [ByteArray.size_extract]; omega
        have h10 := text10
        have h35 := text35
        go_wp2_with fail
        go_ret
        exact ⟨by rw [HE.out, HP.out]; rfl, rfl⟩
  · have HE : Hid (blankT note k = ⟨#[35, 10]⟩) := Lib.hid (by simp [blankT, h0, h1, h2, h3, h4])
    go_enter Tryd.func76, Tryd.ntmps76
    go_wp2_with fail
    go_ret
    exact ⟨by rw [HE.out]; rfl, rfl⟩
theorem gap_out {note : ByteArray} {gn : Nat} {g : Nat → Int} {i : Nat} (h : ¬ (i < gn ∧ 0 ≤ g i)) : gapT note gn g i = ⟨#[]⟩ := if_neg h
theorem gap_in {note : ByteArray} {gn : Nat} {g : Nat → Int} {i : Nat} (h : i < gn ∧ 0 ≤ g i) : gapT note gn g i = blankT note (g i) := if_pos h
set_option maxRecDepth 100000 in
theorem gap_any (note : ByteArray) (hs : note.size ≤ 281474976710656) (A : Option Addr) (gn c : Nat) (g : Nat → Int) (i : Int) (m : Nat) (hi : i = m) (w : World) (h : IntRd w w.heap.size A gn g) :
    Calls Tryd.prog 58 #[.slice A gn c, .int .i64 i, .string note] w fun e w' => e = .returned (.string (gapT note gn g m)) ∧ w' = w := by
  subst hi
  have hn := h.1
  by_cases hm : m < gn
  · obtain ⟨b, off, rfl, hb, hcs⟩ := h.spot (by omega)
    have c1 := hcs m hm
    clear hcs h
    by_cases hg : g m < 0
    · have HE := Lib.hid (gap_out (note := note) (gn := gn) (g := g) (i := m) (by omega))
      go_enter Tryd.func58, Tryd.ntmps58
      go_wp2_with fail
      go_ret
      exact ⟨by rw [HE.out]; rfl, rfl⟩
    · have HE := Lib.hid (gap_in (note := note) (gn := gn) (g := g) (i := m) (by omega))
      go_enter Tryd.func58, Tryd.ntmps58
      go_wp2_with fail
      refine (blank_any note hs (g m) (by omega) _).mono ?_
      rintro e w3 ⟨rfl, rfl⟩
      go_wp2_with fail
      go_ret
      exact ⟨by rw [HE.out]; rfl, rfl⟩
  · have HE := Lib.hid (gap_out (note := note) (gn := gn) (g := g) (i := m) (by omega))
    clear h
    go_enter Tryd.func58, Tryd.ntmps58
    go_wp2_with fail
    go_ret
    exact ⟨by rw [HE.out]; rfl, rfl⟩
end Go.Proofs.YtppeonlpocdhkaaDoor

/-! ### The walk of the loose text of a schema. -/
namespace Go.Proofs.YtppeonlpocdhkaaDoor
open Go.RowKit Go.ChangeShapes Go.WideShapes Go.ChangeAt Go.Deep Go.Joins
theorem cA_zero (n : Nat) : cA n 0 = n + 3 := rfl
theorem cA_succ (n k : Nat) : cA n (k + 1) = cB n k + 1 := by unfold cA cB; split <;> split <;> omega
theorem cA_le (n k : Nat) : cA n k ≤ n + 3 + 2 * k := by unfold cA; split <;> omega
theorem cB_pos {n k : Nat} (h : 0 < k) : cB n k = cA n k + 1 := by unfold cA cB; rw [if_neg (by omega), if_neg (by omega)]; omega
theorem cB_zero (n : Nat) : cB n 0 = cA n 0 := rfl
theorem lT_num {gt : Nat → ByteArray} {S : Sch} (hs : ∀ i, i < S.n → S.ln i ≤ 8) : ∀ n, n ≤ S.n → (lT gt S n).2 ≤ 1 + 20 * n
  | 0, _ => by show 1 ≤ _; omega
  | n + 1, h => by
    have h1 := lT_num (gt := gt) hs n (by omega)
    have h2 := hs n (by omega)
    have h3 := cA_le (lT gt S n).2 (S.ln n)
    show cA (lT gt S n).2 (S.ln n) + 1 ≤ _
    omega
theorem lAt_next {gt : Nat → ByteArray} {S : Sch} {out : ByteArray} {n i k : Nat} (h : 0 < k) : lAt gt S out n i (k + 1) = lAt gt S out n i k ++ ⟨#[44]⟩ ++ gt (cA n k) ++ S.atr i k ++ gt (cB n k) := by
  rw [lAt, if_neg (by omega)]
theorem lAt_one {gt : Nat → ByteArray} {S : Sch} {out : ByteArray} {n i : Nat} : lAt gt S out n i 1 = lAt gt S out n i 0 ++ S.atr i 0 ++ gt (cB n 0) := by
  rfl
theorem IntRd.drewN {w : World} {B n : Nat} {A : Option Addr} {f : Nat → Int} (h : IntRd w B A n f) (k : Nat) : IntRd (w.drewN k) B A n f := h
set_option maxRecDepth 100000 in
set_option maxHeartbeats 1000000 in
theorem loose_any (note : ByteArray) (hs : note.size ≤ 140737488355328) (SA : Option Addr) (sc : Nat) (S : Sch) (hS : schErr S = 0) (A : Option Addr) (gn c : Nat) (g : Nat → Int) (w : World) (h : IntRd w w.heap.size A gn g) (hT : TypRd w w.heap.size SA S) :
    Calls Tryd.prog 29 #[.agg #[.slice SA S.n sc], .slice A gn c, .string note] w fun e w' => e = .returned (.string (lT (gapT note gn g) S S.n).1) ∧ Below w.heap.size w w' := by
  obtain ⟨hn16, hsm⟩ := small_of hS
  clear hS
  have HG := Lib.hid h
  have HT := Lib.hid hT
  have HSM := Lib.hid hsm
  have hgs : ∀ i, (gapT note gn g i).size ≤ note.size + 10 := gap_size
  have HGS := Lib.hid hgs
  have hb0 := bnew (Below.refl w.heap.size w) (.cells #[.slice SA S.n sc] 25)
  have x0 : (w.alloc (.cells #[.slice SA S.n sc] 25)).cell? ⟨w.heap.size, 0, none⟩ = some (.slice SA S.n sc) := by simp [go_sem]
  have hz0 : w.heap.size < (w.alloc (.cells #[.slice SA S.n sc] 25)).heap.size := by simp
  clear h hT hsm hgs
  go_enter Tryd.func29, Tryd.ntmps29
  go_wp2_with fail
  generalize w.alloc (.cells #[.slice SA S.n sc] 25) = w2 at *
  refine (gap_any note (by omega) A gn c g 0 0 rfl _ (RowRd.later HG.out hb0)).mono ?_
  rintro e w3 ⟨rfl, rfl⟩
  go_wp2_with fail
  go_loopw [7, 8, 9] (fun o p i wr => ∃ k : Nat, k ≤ S.n ∧ i = .int .i64 k ∧ o = .string (lT (gapT note gn g) S k).1 ∧ p = .int .i64 (lT (gapT note gn g) S k).2 ∧ Below w3.heap.size w3 wr) (fun _ _ i _ => S.n - (intOf i).toNat)
  case atStart => exact ⟨0, Nat.zero_le _, rfl, rfl, rfl, Below.refl _ _⟩
  case round =>
    obtain ⟨k, hk, rfl, rfl, rfl, hb⟩ := hrel
    obtain ⟨W1, e1⟩ : ∃ W1 : World, W1 = wr := ⟨_, rfl⟩
    subst e1
    have hbw := hb0.trans (hb.mono hb0.size)
    have x1 := (hb.cell (p := ⟨w.heap.size, 0, none⟩) hz0).trans x0
    by_cases hlt : k < S.n
    · obtain ⟨b, off, rfl, hbl, hcs⟩ := HT.out.2 (by omega)
      obtain ⟨c1, aa, ac, c2, hsr⟩ := hcs k hlt
      have d1 := (hbw.cell (p := ⟨b, off + k * 2, none⟩) hbl).trans c1
      have d2 := (hbw.cell (p := ⟨b, off + k * 2 + 1, none⟩) hbl).trans c2
      obtain ⟨s16, l8, a16⟩ := HSM.out k hlt
      have hnum := lT_num (gt := gapT note gn g) (fun i hi => (HSM.out i hi).2.1) k (by omega)
      have hsz := lT_size (gt := gapT note gn g) (by omega) HGS.out HSM.out k (by omega)
      have hsz' : (lT (gapT note gn g) S k).1.size ≤ 144115188075855872 := by
        refine Nat.le_trans hsz (Nat.le_trans (Nat.mul_le_mul (show 1 + 36 * k ≤ 577 by omega) (show note.size + 10 ≤ 140737488355338 by omega)) (by decide))
      clear hsz
      have HX : Hid ((lT (gapT note gn g) S (k + 1)).1 = lAt (gapT note gn g) S (lT (gapT note gn g) S k).1 (lT (gapT note gn g) S k).2 k (S.ln k) ++ ⟨#[41]⟩ ++ gapT note gn g (cA (lT (gapT note gn g) S k).2 (S.ln k))) := Lib.hid rfl
      have HY : Hid ((lT (gapT note gn g) S (k + 1)).2 = cA (lT (gapT note gn g) S k).2 (S.ln k) + 1) := Lib.hid rfl
      generalize hO : (lT (gapT note gn g) S k).1 = O at *
      generalize hP : (lT (gapT note gn g) S k).2 = p at *
      clear hO hP
      have g0 := HGS.out p
      have g1 := HGS.out (p + 1)
      have g2 := HGS.out (p + 2)
      have hb5 := bnew hbw (.cells #[.string (S.nm k), .slice aa (S.ln k) ac] 40)
      have HR := Lib.hid (RowRd.later HG.out hb5)
      have HS := Lib.hid (hsr.later hb5)
      have hb5' := bnew hb (.cells #[.string (S.nm k), .slice aa (S.ln k) ac] 40)
      have t0 : (W1.alloc (.cells #[.string (S.nm k), .slice aa (S.ln k) ac] 40)).cell? ⟨W1.heap.size, 0, none⟩ = some (.string (S.nm k)) := by simp [go_sem]
      have t1 : (W1.alloc (.cells #[.string (S.nm k), .slice aa (S.ln k) ac] 40)).cell? ⟨W1.heap.size, 1, none⟩ = some (.slice aa (S.ln k) ac) := by simp [go_sem]
      have hb5z : W1.heap.size < (W1.alloc (.cells #[.string (S.nm k), .slice aa (S.ln k) ac] 40)).heap.size := by simp
      clear hcs c1 c2 hsr
      go_upto_region 7 with fail
      generalize W1.alloc (.cells #[.string (S.nm k), .slice aa (S.ln k) ac] 40) = w5 at *
      have HGP : Hid (∀ (i : Int) (m q : Nat), i = m → Calls Tryd.prog 58 #[.slice A gn c, .int .i64 i, .string note] (w5.drewN q) fun e w'' => e = .returned (.string (gapT note gn g m)) ∧ ∃ n, w'' = w5.drewN n) := Lib.hid fun i m q hi => Calls.quiet_of_same (gap_any note (by omega) A gn c g i m hi _ (show IntRd (w5.drewN q) w5.heap.size A gn g from HR.out))
      go_quiet (first | (go_at_call 58; exact HGP.out _ p _ (by omega)) | (go_at_call 58; exact HGP.out _ (p + 1) _ (by omega)) | (go_at_call 58; exact HGP.out _ (p + 2) _ (by omega)))
      have hz5 : W1.heap.size < w5.heap.size := hb5z
      clear x0 x1 d1 d2 hb5z
      go_wp2_with fail
      go_loopw [7, 8, 11] (fun o q j wr => ∃ m : Nat, m ≤ S.ln k ∧ j = .int .i64 m ∧ o = .string (lAt (gapT note gn g) S O p k m) ∧ q = .int .i64 (cA p m) ∧ ∃ z, wr = w5.drewN z) (fun _ _ j _ => S.ln k - (intOf j).toNat)
      case atStart => exact ⟨0, Nat.zero_le _, rfl, rfl, rfl, nq, rfl⟩
      case round =>
        obtain ⟨m, hm, rfl, rfl, rfl, z, rfl⟩ := hrel
        have u1 : (w5.drewN z).cell? ⟨W1.heap.size, 1, none⟩ = some (.slice aa (S.ln k) ac) := t1
        have u0 : (w5.drewN z).cell? ⟨W1.heap.size, 0, none⟩ = some (.string (S.nm k)) := t0
        have hcm := cA_le p m
        have hlz := lAt_size (S := S) (gt := gapT note gn g) HGS.out (out := O) (n := p) s16 a16 m hm
        have hlz' : (lAt (gapT note gn g) S O p k m).size ≤ 288230376151711744 := by
          have h5 : m * (17 + 2 * (note.size + 10)) ≤ 8 * (17 + 2 * (note.size + 10)) := Nat.mul_le_mul_right _ (by omega)
          omega
        clear hlz
        by_cases hml : m < S.ln k
        · obtain ⟨b2, off2, rfl, hbl2, hcs2⟩ := HS.out.2 (by omega)
          have f1 := hcs2 m hml
          have v1 : (w5.drewN z).cell? ⟨b2, off2 + m, none⟩ = some (.string (S.atr k m)) := f1
          have ga := HGS.out (cA p m)
          have gb := HGS.out (cB p m)
          have hat := a16 m hml
          have HGQ : Hid (∀ (i : Int) (m q : Nat), i = m → Calls Tryd.prog 58 #[.slice A gn c, .int .i64 i, .string note] (w5.drewN (z + q)) fun e w'' => e = .returned (.string (gapT note gn g m)) ∧ ∃ n, w'' = w5.drewN (z + n)) := Lib.hid fun i m q hi => (gap_any note (by omega) A gn c g i m hi _ (show IntRd (w5.drewN (z + q)) w5.heap.size A gn g from HR.out)).mono fun _ _ ⟨he, hw⟩ => ⟨he, q, hw⟩
          clear hcs2 v1
          rcases Nat.eq_zero_or_pos m with h0 | h0
          · subst h0
            simp only [Nat.add_zero] at f1
            have HN : Hid (lAt (gapT note gn g) S O p k 1 = lAt (gapT note gn g) S O p k 0 ++ S.atr k 0 ++ gapT note gn g (cB p 0)) := Lib.hid lAt_one
            have HC : Hid (cA p (0 + 1) = cB p 0 + 1) := Lib.hid (cA_succ p 0)
            have HZ : Hid (cA p 0 = cB p 0) := Lib.hid rfl
            generalize hL : lAt (gapT note gn g) S O p k 0 = L at *
            clear hL
            go_upto_region 15 with fail
            go_quiet (first | (go_at_call 58; exact HGQ.out _ (cB p 0) _ (by rw [HZ.out])))
            go_wp2_with fail
            go_roundw
            case rel => exact ⟨1, hml, rfl, by rw [HN.out], by rw [HC.out, ← HZ.out]; rfl, _, rfl⟩
            case measure => simp [intOf]; omega
          · have HN := Lib.hid (lAt_next (gt := gapT note gn g) (S := S) (out := O) (n := p) (i := k) h0)
            have HC := Lib.hid (cA_succ p m)
            have HZ := Lib.hid (cB_pos (n := p) h0)
            generalize hL : lAt (gapT note gn g) S O p k m = L at *
            clear hL
            go_wp2_with fail
            refine (gap_any note (by omega) A gn c g _ (cA p m) (by rfl) _ (show IntRd (w5.drewN z) w5.heap.size A gn g from HR.out)).mono ?_
            rintro e w6 ⟨rfl, rfl⟩
            go_upto_region 15 with fail
            go_quiet (first | (go_at_call 58; exact HGQ.out _ (cB p m) _ (by rw [HZ.out]; rfl)))
            go_wp2_with fail
            go_roundw
            case rel => exact ⟨m + 1, hml, by go_num, by rw [HN.out], by rw [HC.out, HZ.out]; go_num, _, rfl⟩
            case measure => simp [intOf]; omega
        · obtain rfl : m = S.ln k := by omega
          have gc := HGS.out (cA p (S.ln k))
          go_wp2_with fail
          refine (gap_any note (by omega) A gn c g _ (cA p (S.ln k)) (by rfl) _ (show IntRd (w5.drewN z) w5.heap.size A gn g from HR.out)).mono ?_
          rintro e w6 ⟨rfl, rfl⟩
          go_wp2_with fail
          go_roundw
          case rel => exact ⟨k + 1, hlt, by go_num, by rw [HX.out], by rw [HY.out]; go_num, bdrewN hb5' z⟩
          case measure => simp [intOf]; omega
    · obtain rfl : k = S.n := by omega
      go_wp2_with fail
      go_ret
      exact ⟨rfl, hbw⟩
end Go.Proofs.YtppeonlpocdhkaaDoor

/-! ### The walk of the law EventSpaces, and its arguments opened. -/
namespace Go.Proofs.YtppeonlpocdhkaaDoor
open Go.RowKit Go.ChangeShapes Go.WideShapes Go.ChangeAt Go.Deep
/-- What ParseSchema makes of a loose text. -/
theorem parsed_loose {S : Sch} (hS : schErr S = 0) {gt : Nat → ByteArray} (hq : ∀ i, Quiet (gt i).data.toList) (hs : (lT gt S S.n).1.size ≤ 4096) {w w' : World} {e : Ending} (h : PsEnd w w' (lT gt S S.n).1 e) : ∃ A c, e = .returned (.tuple #[.agg #[.slice A S.n c], .int .i64 0, .int .i64 0]) ∧ Below w.heap.size w w' ∧ TypOwn w' w.heap.size (.slice A S.n c) S := by
  obtain ⟨A, c, rfl, hb, ho⟩ := h
  rw [loose_back hS hq hs] at ho ⊢
  have h1 := ho.congr (tsR_eq S)
  have h2 : (schOf (tsR S S.n)).n = S.n := by simp [schOf, tsR]
  rw [h2] at h1
  have h3 : (tsR S S.n).length = S.n := tsR_length S S.n
  dsimp only
  rw [h3]
  exact ⟨A, c, rfl, hb, h1⟩
theorem parsed_long {s : ByteArray} (hs : 4096 < s.size) {w w' : World} {e : Ending} (h : PsEnd w w' s e) : ∃ A c, e = .returned (.tuple #[.agg #[.slice A 0 c], .int .i64 20, .int .i64 4096]) ∧ Below w.heap.size w w' := by
  obtain ⟨A, c, rfl, hb, ho⟩ := h
  rw [parseRes_long hs]
  exact ⟨A, c, rfl, hb⟩
set_option maxRecDepth 100000 in
set_option maxHeartbeats 4000000 in
theorem eventSpaces_walk (A : Option Addr) (cap : Nat) (S : Sch) (gA : Option Addr) (gn gc : Nat) (g : Nat → Int) (note : ByteArray) (hs : note.size ≤ 140737488355328) (w : World) (h : TypRd w w.heap.size A S) (hg : IntRd w w.heap.size gA gn g) (hv : ErrV w) {tt : TypeId} {fr : Nat × Nat} (hkw : w.heap[0]? = some (.cells kwArr tt fr)) :
    Calls Tryd.prog 9 #[.agg #[.slice A S.n cap], .slice gA gn gc, .string note] w fun e w' => e = .returned (.bool true) ∧ Below w.heap.size w w' := by
  have hn := h.1
  have HT := Lib.hid h
  have HG := Lib.hid hg
  have HK := Lib.hid hkw
  have HV := Lib.hid hv
  have hb1 := bnew (Below.refl w.heap.size w) (.cells #[.slice A S.n cap] 25)
  have x1 : (w.alloc (.cells #[.slice A S.n cap] 25)).cell? ⟨w.heap.size, 0, none⟩ = some (.slice A S.n cap) := by simp [go_sem]
  have hz1 : w.heap.size < (w.alloc (.cells #[.slice A S.n cap] 25)).heap.size := by simp
  clear h hkw hv hg
  go_enter Tryd.func9, Tryd.ntmps9
  go_wp2_with fail
  generalize w.alloc _ = w1 at *
  refine (started_any _ (HV.out.later hb1) (block_below HK.out hb1)).mono ?_
  rintro e w2 ⟨rfl, hb12⟩
  have hb2 := bcall hb1 hb12
  have x2 := rd_later x1 hb12
  have hz2 : w.heap.size < w2.heap.size := Nat.lt_of_lt_of_le hz1 hb12.size
  clear x1
  go_wp2_with fail
  refine (checkSchema_any A cap S _ (HT.out.later hb2) (block_below HK.out hb2)).mono ?_
  rintro e w3 ⟨rfl, hb23⟩
  have hb3 := bcall hb2 hb23
  have x3 := rd_later x2 hb23
  have hz3 : w.heap.size < w3.heap.size := Nat.lt_of_lt_of_le hz2 hb23.size
  clear x2
  by_cases hS : schErr S = 0
  · rw [hS]
    have HS := Lib.hid hS
    clear hS
    go_wp2_with fail
    refine (loose_any note hs A cap S HS.out gA gn gc g _ (RowRd.later HG.out hb3) (HT.out.later hb3)).mono ?_
    rintro e w4 ⟨rfl, hb34⟩
    have hb4 := bcall hb3 hb34
    have x4 := rd_later x3 hb34
    have hz4 : w.heap.size < w4.heap.size := Nat.lt_of_lt_of_le hz3 hb34.size
    clear x3
    have HQ : Hid (∀ i, Quiet (gapT note gn g i).data.toList) := Lib.hid quiet_gap
    have HB := Lib.hid (parsed_loose HS.out HQ.out)
    generalize hX : (lT (gapT note gn g) S S.n).1 = text at *
    go_wp2_with fail
    refine (parseSchema_any text _ (block_below HK.out hb4)).mono ?_
    intro e w5 hend
    by_cases hlong : 4096 < text.size
    · obtain ⟨A5, c5, rfl, hb45⟩ := parsed_long hlong hend
      clear hend
      have hb5 := bcall hb4 hb45
      have hb6 := bnew hb5 (.cells #[.slice A5 0 c5] 25)
      have t6 : (w5.alloc (.cells #[.slice A5 0 c5] 25)).cell? ⟨w5.heap.size, 0, none⟩ = some (.slice A5 0 c5) := by simp [go_sem]
      go_wp2_with fail
      go_ret
      exact ⟨ret_bool (by simp), hb6⟩
    · obtain ⟨A5, c5, rfl, hb45, ho5⟩ := HB.out (by omega) hend
      clear hend
      have hb5 := bcall hb4 hb45
      have hb6 := bnew hb5 (.cells #[.slice A5 S.n c5] 25)
      have HT6 := Lib.hid (ho5.rd.later (bnew (Below.refl _ _) (.cells #[.slice A5 S.n c5] 25)))
      have x6 := cell_alloc (rd_later x4 hb45) (.cells #[.slice A5 S.n c5] 25)
      have t6 : (w5.alloc (.cells #[.slice A5 S.n c5] 25)).cell? ⟨w5.heap.size, 0, none⟩ = some (.slice A5 S.n c5) := by simp [go_sem]
      clear ho5 x4
      obtain ⟨tb, htb⟩ : ∃ tb, w5.heap.size = tb := ⟨_, rfl⟩
      go_upto_region 7 with fail
      generalize w5.alloc _ = w6 at *
      rw [htb] at t6
      go_wp2_with fail
      refine (sameSchema_same A A5 cap c5 S _ (HT.out.later hb6) HT6.out).mono ?_
      rintro e w7 ⟨rfl, hb67⟩
      have hb7 := bcall hb6 hb67
      go_wp2_with fail
      go_ret
      exact ⟨rfl, hb7⟩
  · have hcc : (schErr S != 0) = true := by rw [bne_iff_ne]; exact hS
    generalize schErr S = sc at *
    go_wp2_with fail
    go_ret
    exact ⟨rfl, hb3⟩
set_option maxRecDepth 8000 in
set_option maxHeartbeats 2000000 in
theorem eventSpaces_main {H : Type} {enc : TypeId × Value → H} (W : World) (base : Nat) {v0 v1 v2 : Value} {d0 d1 d2 : DataW H} {p0 p1 p2 : List MemPlace} {X C S : Prop}
    (o0 : Value.okWide Tryd.prog W .any base 25 v0) (h0 : DataW.Trod enc Tryd.prog W 0 (fun _ => true) true 25 v0 d0 p0)
    (o1 : Value.okWide Tryd.prog W .any base 48 v1) (h1 : DataW.Trod enc Tryd.prog W 0 (fun _ => true) true 48 v1 d1 p1)
    (o2 : Value.okWide Tryd.prog W .any base 9 v2) (h2 : DataW.Trod enc Tryd.prog W 0 (fun _ => true) true 9 v2 d2 p2)
    (_ : X) (hz : ReachedAll Tryd.prog ([25, 48, 9] ++ (OpenSpec.ofChange Rows.eventSpacesSpec).bare.plain.varTypes Tryd.prog) ([d0, d1, d2] ++ [])) (_ : C)
    (h : laidMetH Tryd.prog Rows.eventSpacesRow.laid W) (_ : S) :
    Calls Tryd.prog 9 #[v0, v1, v2] W fun e W' => e = .returned (.bool true) ∧ Below W.heap.size W W' := by
  have hv0 := kwVar (laid := Rows.eventSpacesRow.laid) h 5 rfl
  have hv1 := errVar (laid := Rows.eventSpacesRow.laid) h 3 rfl
  obtain ⟨t0, f0, g0⟩ := var_block gKeywords hv0
  obtain ⟨A, T, cap, rfl, hT⟩ := open_schema o0 h0 (reach_cons hz).1
  obtain ⟨a, len, c1, rfl⟩ := okWide_slice Tryd.underlying48 o1
  obtain ⟨fuel, hf⟩ := h1
  obtain ⟨A1, n1, q1, f1, e1, _, _, hR, _⟩ := rd_ints Tryd.underlying48 Tryd.underlying3 (by kernel_rfl) (by kernel_rfl) (y := (d1, p1)) (by simpa [Value.cells] using hf) (reach_cons (reach_cons hz).2).1
  injection e1 with e1 e2 e3
  subst e1 e2 e3
  obtain ⟨s, rfl, rfl, rfl, hmax⟩ := Go.ChangeMaps.open_string Tryd.underlying9 o2 h2
  have hs : s.size ≤ 140737488351232 := by simpa using reach_string (reach_cons (reach_cons (reach_cons hz).2).2).1
  exact eventSpaces_walk A cap T _ _ _ f1 s (by omega) W hT hR hv1 g0
end Go.Proofs.YtppeonlpocdhkaaDoor

/-! ### What a listed table's cells are: for the witness' world. -/
namespace Go.Proofs.YtppeonlpocdhkaaDoor
def tabCells (d : DataW Unit) : Array Value :=
  match d with
  | .agg l => (l.map fun x => match x with | .lit (.int k z) => Value.int k z | .lit (.string s) => Value.string ⟨s.toArray⟩ | _ => undef).toArray
  | _ => #[]
end Go.Proofs.YtppeonlpocdhkaaDoor

/-
  The walks of PrintEvent and of the reference's.
-/
import Derived.Test.YtppeonlpocdhkaaDoorCheckEvent
import Derived.Test.YtppeonlpocdhkaaDoorFmt
import Derived.Test.YtppeonlpocdhkaaDoorPowVar
import Derived.Lib.ItoaLen
import Derived.Laws.Concat
import Derived.Deep.RegionHeld3
import Derived.Deep.DrawnRows
import Derived.BigQuiet
set_option linter.unusedSimpArgs false
namespace Go.Proofs.YtppeonlpocdhkaaDoor
open Go.RowKit Go.ChangeShapes Go.WideShapes Go.ChangeAt
attribute [local go_sem ↓] Go.wp_at_zero Go.wp_at_succ
/-- The table of tens, in this world and in whatever comes behind block B. -/
def Pow (w : World) : Prop := Lib.TabIs Tryd.prog w "internal/strconv.uint64pow10" .u64 Lib.pow10Tab
theorem Pow.later {w w' : World} (h : Pow w) (hb : Below w.heap.size w w') : Pow w' := Go.Joins.tab_stays gPow h hb (Nat.le_refl _)
/-- A number's decimal text. -/
def dec (n : Int) : ByteArray := ⟨(Lib.itoa n).toArray⟩
def decU (n : Int) : ByteArray := ⟨(Lib.decDigits n.toNat).toArray⟩
def sp : ByteArray := ⟨#[32]⟩
theorem dec_size {n : Int} (h0 : -9223372036854775808 ≤ n) (h1 : n ≤ 9223372036854775807) : (dec n).size ≤ 21 := by
  have := Lib.itoa_length_le n h0 h1
  simpa [dec, ByteArray.size] using this
theorem decU_size {n : Int} (h0 : 0 ≤ n) (h1 : n ≤ 18446744073709551615) : (decU n).size ≤ 21 := by
  have h : (decU n).size = Lib.nDigits n.toNat := by simp [decU, ByteArray.size, Lib.decDigits_length]
  rw [h]
  by_cases h2 : 1 ≤ n.toNat
  · have := Lib.numDigits_eq n.toNat h2 (by omega)
    split at this <;> omega
  · have : n.toNat = 0 := by omega
    rw [this]
    have h3 := Lib.itoa_length_le (0 : Nat) (by omega) (by omega)
    rw [Lib.itoa_nonneg, Lib.decDigits_length] at h3
    exact h3
theorem fmtInt_dec (n : Int) (h0 : -9223372036854775808 ≤ n) (h1 : n ≤ 9223372036854775807) (w : World) (h : Pow w) : Calls Tryd.prog 47 #[.int .i64 n, .int .i64 10] w fun e w' => e = .returned (.string (dec n)) ∧ Below w.heap.size w w' := fmtInt_any n h0 h1 w h
theorem fmtUint_dec (n : Int) (h0 : 0 ≤ n) (h1 : n ≤ 18446744073709551615) (w : World) (h : Pow w) : Calls Tryd.prog 48 #[.int .u64 n, .int .i64 10] w fun e w' => e = .returned (.string (decU n)) ∧ Below w.heap.size w w' := fmtUint_any n h0 h1 w h
theorem name_size {s : ByteArray} (h : nameB s = true) : s.size ≤ 16 := by
  rcases Nat.lt_or_ge 16 s.size with h1 | h1
  · rw [name_great (by omega)] at h; cases h
  · exact h1
/-- An event's line: the head, then the first n attributes. -/
def evText (S : Sch) (ts id : Int) (k : Nat) (a : Nat → Int) : Nat → ByteArray
  | 0 => dec ts ++ sp ++ decU id ++ sp ++ S.nm k
  | n + 1 => evText S ts id k a n ++ (sp ++ dec (a n))
/-- An event's line, empty if it is none. -/
def evOut (S : Sch) (ts id ty : Int) (a : Nat → Int) : ByteArray := if evErr S ts ty a = 0 then evText S ts id ty.toNat a (S.ln ty.toNat) else .empty
theorem evOut_bad {S : Sch} {ts id ty : Int} {a : Nat → Int} (h : evErr S ts ty a ≠ 0) : evOut S ts id ty a = .empty := if_neg h
theorem evOut_ok {S : Sch} {ts id : Int} {k : Nat} {a : Nat → Int} (h : evErr S ts k a = 0) : evOut S ts id k a = evText S ts id k a (S.ln k) := by simp [evOut, h]
theorem evErr_zero {S : Sch} {ts ty : Int} {a : Nat → Int} (h : evErr S ts ty a = 0) : schErr S = 0 ∧ ∃ k : Nat, ty = k ∧ k < S.n := by
  by_cases hc : schErr S = 0
  · refine ⟨hc, ?_⟩
    by_cases h1 : ty < 0 ∨ (S.n : Int) ≤ ty
    · rw [evErr_type hc h1] at h; cases h
    · exact ⟨ty.toNat, by omega, by omega⟩
  · rw [evErr_sch hc] at h; exact absurd h hc
theorem evText_size {S : Sch} {ts id : Int} {k : Nat} {a : Nat → Int} (h1 : (dec ts).size ≤ 21) (h2 : (decU id).size ≤ 21) (h3 : (S.nm k).size ≤ 16) (h4 : ∀ j, j < 8 → (dec (a j)).size ≤ 21) : ∀ n, n ≤ 8 → (evText S ts id k a n).size ≤ 60 + 22 * n
  | 0, _ => by
    have : sp.size = 1 := rfl
    simp only [evText, ByteArray.size_append]
    omega
  | n + 1, hn => by
    have h := evText_size h1 h2 h3 h4 n (by omega)
    have h5 := h4 n (by omega)
    have : sp.size = 1 := rfl
    simp only [evText, ByteArray.size_append]
    omega
set_option maxRecDepth 100000 in
set_option maxHeartbeats 1000000 in
theorem printEvent_any (A : Option Addr) (cap : Nat) (S : Sch) (ts id ty : Int) (a : Nat → Int) (w : World) (h : TypRd w w.heap.size A S) {tt : TypeId} {fr : Nat × Nat} (hkw : w.heap[0]? = some (.cells kwArr tt fr)) (hp : Pow w)
    (w0 : -9223372036854775808 ≤ ts ∧ ts ≤ 9223372036854775807) (w1 : 0 ≤ id ∧ id ≤ 18446744073709551615) (wa : ∀ j, j < 8 → -9223372036854775808 ≤ a j ∧ a j ≤ 9223372036854775807) :
    Calls Tryd.prog 23 #[.agg #[.slice A S.n cap], .agg (evCells ts id ty a)] w fun e w' =>
      e = .returned (.tuple #[.string (evOut S ts id ty a), .int .i64 (evErr S ts ty a)]) ∧ Below w.heap.size w w' := by
  have hn := h.1
  have HT := Lib.hid h
  have HK := Lib.hid hkw
  have HP := Lib.hid hp
  have HW := Lib.hid wa
  obtain ⟨w0a, w0b⟩ := w0
  obtain ⟨w1a, w1b⟩ := w1
  have hb0 := bnew (bnew (Below.refl w.heap.size w) (.cells #[.slice A S.n cap] 25)) (.cells (evCells ts id ty a) 29)
  have x0 : ((w.alloc (.cells #[.slice A S.n cap] 25)).alloc (.cells (evCells ts id ty a) 29)).cell? ⟨w.heap.size, 0, none⟩ = some (.slice A S.n cap) := by simp [go_sem]
  have e0 : ((w.alloc (.cells #[.slice A S.n cap] 25)).alloc (.cells (evCells ts id ty a) 29)).heap[w.heap.size + 1]? = some (.cells (evCells ts id ty a) 29 (0, 0)) := heap_alloc2_new w _ _
  have hz0 : ((w.alloc (.cells #[.slice A S.n cap] 25)).alloc (.cells (evCells ts id ty a) 29)).heap.size = w.heap.size + 2 := by simp
  have E0 := Lib.hid e0
  clear h hkw e0 hp wa
  go_enter Tryd.func23, Tryd.ntmps23
  go_wp2_with (refine wpList_load_row rfl 29 _ rfl (w.heap.size + 1) rfl 29 _ (0, 0) _ E0.out Tryd.underlying29 rfl (by kernel_rfl) ?_)
  generalize ((w.alloc (.cells #[.slice A S.n cap] 25)).alloc _) = w2 at *
  refine (checkEvent_any A cap S ts id ty a _ (HT.out.later hb0) (block_below HK.out hb0)).mono ?_
  rintro e w3 ⟨rfl, hb3⟩
  have x3 := (hb3.cell (p := ⟨w.heap.size, 0, none⟩) (by simp; omega)).trans x0
  obtain ⟨y0, y2, ya⟩ := ev_cell (block_below E0.out hb3)
  have y1 : w3.cell? ⟨w.heap.size + 1, 1, none⟩ = some (.int .u64 id) := cell_of_row w3 _ 1 _ _ _ (block_below E0.out hb3)
  have HA := Lib.hid ya
  have hbf := bcall hb0 hb3
  have hz3 := hb3.size
  clear ya x0 E0
  by_cases hc : evErr S ts ty a = 0
  · obtain ⟨hsc, k, rfl, hk⟩ := evErr_zero hc
    obtain ⟨_, _, hall⟩ := sch_zero hsc
    obtain ⟨hnk, _, hl8, _⟩ := hall k hk
    have hs16 := name_size hnk
    have hs21 := dec_size w0a w0b
    have hs20 := decU_size w1a w1b
    have q1 : ¬ 9223372036854775807 < (dec ts).size + 1 := by omega
    have q2 : ¬ 9223372036854775807 < (dec ts).size + 1 + (decU id).size := by omega
    have q3 : ¬ 9223372036854775807 < (dec ts).size + 1 + (decU id).size + 1 := by omega
    have q4 : ¬ 9223372036854775807 < (dec ts).size + 1 + (decU id).size + 1 + (S.nm k).size := by omega
    rw [hc]
    have HC := Lib.hid hc
    clear hc hsc hall
    obtain ⟨b, off, rfl, hbl, hcs⟩ := HT.out.2 (by omega)
    obtain ⟨c1, aa, ac, c2, _⟩ := hcs k hk
    have d1 := (hbf.cell (p := ⟨b, off + k * 2, none⟩) hbl).trans c1
    have d2 := (hbf.cell (p := ⟨b, off + k * 2 + 1, none⟩) hbl).trans c2
    clear hcs c1 c2
    go_wp2_with fail
    have hb4 := bnew (Below.refl w3.heap.size w3) (.cells #[.string (S.nm k), .slice aa (S.ln k) ac] 40)
    have hbf4 := bcall hbf hb4
    have z0 := cell_alloc y0 (.cells #[.string (S.nm k), .slice aa (S.ln k) ac] 40)
    have z1 := cell_alloc y1 (.cells #[.string (S.nm k), .slice aa (S.ln k) ac] 40)
    have t0 : (w3.alloc (.cells #[.string (S.nm k), .slice aa (S.ln k) ac] 40)).cell? ⟨w3.heap.size, 0, none⟩ = some (.string (S.nm k)) := by simp [go_sem]
    have t1 : (w3.alloc (.cells #[.string (S.nm k), .slice aa (S.ln k) ac] 40)).cell? ⟨w3.heap.size, 1, none⟩ = some (.slice aa (S.ln k) ac) := by simp [go_sem]
    have hs4 : w3.heap.size < (w3.alloc (.cells #[.string (S.nm k), .slice aa (S.ln k) ac] 40)).heap.size := by simp
    have A4 : Hid (∀ j, j < 8 → (w3.alloc (.cells #[.string (S.nm k), .slice aa (S.ln k) ac] 40)).cell? ⟨w.heap.size + 1, 3 + j, none⟩ = some (.int .i64 (a j))) := Lib.hid fun j hj => cell_alloc (HA.out j hj) _
    have P4 := Lib.hid (HP.out.later hbf4)
    generalize w3.alloc (.cells #[.string (S.nm k), .slice aa (S.ln k) ac] 40) = w4 at *
    go_region_held3 (fun w' => w'.cell? ⟨w.heap.size + 1, 0, none⟩ = some (.int .i64 ts) ∧ w'.cell? ⟨w.heap.size + 1, 1, none⟩ = some (.int .u64 id) ∧ w'.cell? ⟨w3.heap.size, 0, none⟩ = some (.string (S.nm k)) ∧ Below w4.heap.size w4 w')
      (first
        | exact ⟨z0, z1, t0, (Below.refl _ _).drew⟩
        | (go_split_ands; exact ⟨(hbz.cell (p := ⟨w.heap.size + 1, 0, none⟩) (addr_of_cell (v := .int .i64 ts) (by assumption)).2).trans (by assumption), (hbz.cell (p := ⟨w.heap.size + 1, 1, none⟩) (addr_of_cell (v := .int .u64 id) (by assumption)).2).trans (by assumption), (hbz.cell (p := ⟨w3.heap.size, 0, none⟩) (addr_of_cell (v := .string (S.nm k)) (by assumption)).2).trans (by assumption), bcall (by assumption) hbz⟩))
      (first
        | (go_at_call 47; go_split_ands; refine (fmtInt_dec ts w0a w0b _ (P4.out.later (by assumption))).mono ?_; rintro e wz ⟨rfl, hbz⟩)
        | (go_at_call 48; go_split_ands; refine (fmtUint_dec id w1a w1b _ (P4.out.later (by assumption))).mono ?_; rintro e wz ⟨rfl, hbz⟩))
    go_split_ands
    have hb5 : Below w4.heap.size w4 wz := by assumption
    have t5 := (hb5.cell (p := ⟨w3.heap.size, 1, none⟩) hs4).trans t1
    have hz5 := hb5.size
    have A5 : Hid (∀ j, j < 8 → wz.cell? ⟨w.heap.size + 1, 3 + j, none⟩ = some (.int .i64 (a j))) := Lib.hid fun j hj => (hb5.cell (p := ⟨w.heap.size + 1, 3 + j, none⟩) (by simp; omega)).trans (A4.out j hj)
    have P5 := Lib.hid (P4.out.later hb5)
    have hbf5 := bcall hbf4 hb5
    have HSZ := Lib.hid (evText_size (S := S) (ts := ts) (id := id) (k := k) (a := a) hs21 hs20 hs16 (fun j hj => dec_size (HW.out j hj).1 (HW.out j hj).2))
    have HO := Lib.hid (evOut_ok (id := id) HC.out)
    clear q1 q2 q3 q4 hbz z0 z1 t0 t1 A4 P4
    go_wp2_with fail
    go_loopw [37, 8] (fun i o wr => ∃ n : Nat, n ≤ S.ln k ∧ i = .int .i64 n ∧ o = .string (evText S ts id k a n) ∧ Below wz.heap.size wz wr) (fun i _ _ => S.ln k - (intOf i).toNat)
    case atStart => exact ⟨0, Nat.zero_le _, rfl, rfl, Below.refl _ _⟩
    case round =>
      obtain ⟨n, hn', rfl, rfl, hb6⟩ := hrel
      obtain ⟨W6, e6⟩ : ∃ W6 : World, W6 = wr := ⟨_, rfl⟩
      subst e6
      by_cases hlt : n < S.ln k
      · have c6 := (hb6.cell (p := ⟨w.heap.size + 1, 3 + n, none⟩) (by simp; omega)).trans (A5.out n (by omega))
        obtain ⟨wn0, wn1⟩ := HW.out n (by omega)
        have hsz := HSZ.out n (by omega)
        have hsd := dec_size wn0 wn1
        have q1 : ¬ 9223372036854775807 < 1 + (dec (a n)).size := by omega
        have q2 : ¬ 9223372036854775807 < (evText S ts id k a n).size + (1 + (dec (a n)).size) := by omega
        have hn8 : (n : Int) < 8 := by omega
        have hnl : (n : Int) < (S.ln k : Int) := by omega
        go_wp2_with fail
        refine (fmtInt_dec (a n) wn0 wn1 _ (P5.out.later hb6)).mono ?_
        rintro e w7 ⟨rfl, hb7⟩
        go_wp2_with fail
        go_roundw
        case rel => exact ⟨n + 1, by omega, by go_num, rfl, bcall hb6 hb7⟩
        case measure => simp [intOf]; omega
      · obtain rfl : n = S.ln k := by omega
        go_wp2_with fail
        go_ret2
        exact ⟨by rw [HO.out, HC.out]; rfl, bcall hbf5 hb6⟩
  · have hne : (evErr S ts ty a != 0) = true := by rw [bne_iff_ne]; exact hc
    have HR := Lib.hid (evOut_bad (id := id) hc)
    clear hc
    go_wp2_with fail
    go_ret2
    exact ⟨by rw [HR.out]; rfl, hbf⟩
set_option maxRecDepth 100000 in
set_option maxHeartbeats 1000000 in
theorem refPrintEvent_any (A : Option Addr) (cap : Nat) (S : Sch) (ts id ty : Int) (a : Nat → Int) (w : World) (h : TypRd w w.heap.size A S) {tt : TypeId} {fr : Nat × Nat} (hkw : w.heap[0]? = some (.cells kwArr tt fr)) (hp : Pow w)
    (w0 : -9223372036854775808 ≤ ts ∧ ts ≤ 9223372036854775807) (w1 : 0 ≤ id ∧ id ≤ 18446744073709551615) (wa : ∀ j, j < 8 → -9223372036854775808 ≤ a j ∧ a j ≤ 9223372036854775807) :
    Calls Tryd.prog 24 #[.agg #[.slice A S.n cap], .agg (evCells ts id ty a)] w fun e w' =>
      e = .returned (.tuple #[.string (evOut S ts id ty a), .int .i64 (evErr S ts ty a)]) ∧ Below w.heap.size w w' := by
  have hn := h.1
  have HT := Lib.hid h
  have HK := Lib.hid hkw
  have HP := Lib.hid hp
  have HW := Lib.hid wa
  obtain ⟨w0a, w0b⟩ := w0
  obtain ⟨w1a, w1b⟩ := w1
  have hb0 := bnew (bnew (Below.refl w.heap.size w) (.cells #[.slice A S.n cap] 25)) (.cells (evCells ts id ty a) 29)
  have x0 : ((w.alloc (.cells #[.slice A S.n cap] 25)).alloc (.cells (evCells ts id ty a) 29)).cell? ⟨w.heap.size, 0, none⟩ = some (.slice A S.n cap) := by simp [go_sem]
  have e0 : ((w.alloc (.cells #[.slice A S.n cap] 25)).alloc (.cells (evCells ts id ty a) 29)).heap[w.heap.size + 1]? = some (.cells (evCells ts id ty a) 29 (0, 0)) := heap_alloc2_new w _ _
  have hz0 : ((w.alloc (.cells #[.slice A S.n cap] 25)).alloc (.cells (evCells ts id ty a) 29)).heap.size = w.heap.size + 2 := by simp
  have E0 := Lib.hid e0
  clear h hkw e0 hp wa
  go_enter Tryd.func24, Tryd.ntmps24
  go_wp2_with (refine wpList_load_row rfl 29 _ rfl (w.heap.size + 1) rfl 29 _ (0, 0) _ E0.out Tryd.underlying29 rfl (by kernel_rfl) ?_)
  generalize ((w.alloc (.cells #[.slice A S.n cap] 25)).alloc _) = w2 at *
  refine (refCheckEvent_any A cap S ts id ty a _ (HT.out.later hb0) (block_below HK.out hb0)).mono ?_
  rintro e w3 ⟨rfl, hb3⟩
  have x3 := (hb3.cell (p := ⟨w.heap.size, 0, none⟩) (by simp; omega)).trans x0
  obtain ⟨y0, y2, ya⟩ := ev_cell (block_below E0.out hb3)
  have y1 : w3.cell? ⟨w.heap.size + 1, 1, none⟩ = some (.int .u64 id) := cell_of_row w3 _ 1 _ _ _ (block_below E0.out hb3)
  have HA := Lib.hid ya
  have hbf := bcall hb0 hb3
  have hz3 := hb3.size
  clear ya x0 E0
  by_cases hc : evErr S ts ty a = 0
  · obtain ⟨hsc, k, rfl, hk⟩ := evErr_zero hc
    obtain ⟨_, _, hall⟩ := sch_zero hsc
    obtain ⟨hnk, _, hl8, _⟩ := hall k hk
    have hs16 := name_size hnk
    have hs21 := dec_size w0a w0b
    have hs20 := decU_size w1a w1b
    have q1 : ¬ 9223372036854775807 < (dec ts).size + 1 := by omega
    have q2 : ¬ 9223372036854775807 < (dec ts).size + 1 + (decU id).size := by omega
    have q3 : ¬ 9223372036854775807 < (dec ts).size + 1 + (decU id).size + 1 := by omega
    have q4 : ¬ 9223372036854775807 < (dec ts).size + 1 + (decU id).size + 1 + (S.nm k).size := by omega
    rw [hc]
    have HC := Lib.hid hc
    clear hc hsc hall
    obtain ⟨b, off, rfl, hbl, hcs⟩ := HT.out.2 (by omega)
    obtain ⟨c1, aa, ac, c2, _⟩ := hcs k hk
    have d1 := (hbf.cell (p := ⟨b, off + k * 2, none⟩) hbl).trans c1
    have d2 := (hbf.cell (p := ⟨b, off + k * 2 + 1, none⟩) hbl).trans c2
    clear hcs c1 c2
    have hk0 : (0 : Int) ≤ (k : Int) := by omega
    have hkn : (k : Int) < (S.n : Int) := by omega
    go_wp2_with fail
    have P3 := Lib.hid (HP.out.later hbf)
    go_region_held3 (fun w' => w'.cell? ⟨w.heap.size + 1, 0, none⟩ = some (.int .i64 ts) ∧ w'.cell? ⟨w.heap.size + 1, 1, none⟩ = some (.int .u64 id) ∧ w'.cell? ⟨w.heap.size + 1, 2, none⟩ = some (.int .i64 k) ∧ w'.cell? ⟨w.heap.size, 0, none⟩ = some (.slice (some ⟨b, off, none⟩) S.n cap) ∧ w'.cell? ⟨b, off + k * 2, none⟩ = some (.string (S.nm k)) ∧ Below w3.heap.size w3 w')
      (first
        | exact ⟨y0, y1, y2, x3, d1, (Below.refl _ _).drew⟩
        | (go_split_ands; exact ⟨(hbz.cell (p := ⟨w.heap.size + 1, 0, none⟩) (addr_of_cell (v := .int .i64 ts) (by assumption)).2).trans (by assumption), (hbz.cell (p := ⟨w.heap.size + 1, 1, none⟩) (addr_of_cell (v := .int .u64 id) (by assumption)).2).trans (by assumption), (hbz.cell (p := ⟨w.heap.size + 1, 2, none⟩) (addr_of_cell (v := .int .i64 k) (by assumption)).2).trans (by assumption), (hbz.cell (p := ⟨w.heap.size, 0, none⟩) (addr_of_cell (v := .slice (some ⟨b, off, none⟩) S.n cap) (by assumption)).2).trans (by assumption), (hbz.cell (p := ⟨b, off + k * 2, none⟩) (addr_of_cell (v := .string (S.nm k)) (by assumption)).2).trans (by assumption), bcall (by assumption) hbz⟩))
      (first
        | (go_at_call 47; go_split_ands; refine (fmtInt_dec ts w0a w0b _ (P3.out.later (by assumption))).mono ?_; rintro e wz ⟨rfl, hbz⟩)
        | (go_at_call 48; go_split_ands; refine (fmtUint_dec id w1a w1b _ (P3.out.later (by assumption))).mono ?_; rintro e wz ⟨rfl, hbz⟩))
    go_split_ands
    have hb5 : Below w3.heap.size w3 wz := by assumption
    have hz5 := hb5.size
    have A5 : Hid (∀ j, j < 8 → wz.cell? ⟨w.heap.size + 1, 3 + j, none⟩ = some (.int .i64 (a j))) := Lib.hid fun j hj => (hb5.cell (p := ⟨w.heap.size + 1, 3 + j, none⟩) (by simp; omega)).trans (HA.out j hj)
    have P5 := Lib.hid (P3.out.later hb5)
    have hbf5 := bcall hbf hb5
    have v0 := (hb5.cell (p := ⟨w.heap.size, 0, none⟩) (by simp; omega)).trans x3
    have v2 := (hb5.cell (p := ⟨w.heap.size + 1, 2, none⟩) (by simp; omega)).trans y2
    have v3 := (hb5.cell (p := ⟨b, off + k * 2 + 1, none⟩) (addr_of_cell d2).2).trans d2
    have HSZ := Lib.hid (evText_size (S := S) (ts := ts) (id := id) (k := k) (a := a) hs21 hs20 hs16 (fun j hj => dec_size (HW.out j hj).1 (HW.out j hj).2))
    have HO := Lib.hid (evOut_ok (id := id) HC.out)
    clear q1 q2 q3 q4 hbz HA P3
    go_wp2_with fail
    go_loopw [8, 7] (fun i o wr => ∃ n : Nat, n ≤ S.ln k ∧ i = .int .i64 n ∧ o = .string (evText S ts id k a n) ∧ Below wz.heap.size wz wr) (fun i _ _ => S.ln k - (intOf i).toNat)
    case atStart => exact ⟨0, Nat.zero_le _, rfl, rfl, Below.refl _ _⟩
    case round =>
      obtain ⟨n, hn', rfl, rfl, hb6⟩ := hrel
      obtain ⟨W6, e6⟩ : ∃ W6 : World, W6 = wr := ⟨_, rfl⟩
      subst e6
      have u0 := (hb6.cell (p := ⟨w.heap.size, 0, none⟩) (by simp; omega)).trans v0
      have u2 := (hb6.cell (p := ⟨w.heap.size + 1, 2, none⟩) (by simp; omega)).trans v2
      have u3 := (hb6.cell (p := ⟨b, off + k * 2 + 1, none⟩) (addr_of_cell v3).2).trans v3
      by_cases hlt : n < S.ln k
      · have c6 := (hb6.cell (p := ⟨w.heap.size + 1, 3 + n, none⟩) (by simp; omega)).trans (A5.out n (by omega))
        obtain ⟨wn0, wn1⟩ := HW.out n (by omega)
        have hsz := HSZ.out n (by omega)
        have hsd := dec_size wn0 wn1
        have q1 : ¬ 9223372036854775807 < (evText S ts id k a n).size + 1 := by omega
        have q2 : ¬ 9223372036854775807 < (evText S ts id k a n).size + 1 + (dec (a n)).size := by omega
        have hn8 : (n : Int) < 8 := by omega
        have hnl : (n : Int) < (S.ln k : Int) := by omega
        go_wp2_with fail
        refine (fmtInt_dec (a n) wn0 wn1 _ (P5.out.later hb6)).mono ?_
        rintro e w7 ⟨rfl, hb7⟩
        go_wp2_with fail
        go_roundw
        case rel => exact ⟨n + 1, by omega, by go_num, by rw [evText, ← ByteArray.append_assoc]; rfl, bcall hb6 hb7⟩
        case measure => simp [intOf]; omega
      · obtain rfl : n = S.ln k := by omega
        go_wp2_with fail
        go_ret2
        exact ⟨by rw [HO.out, HC.out]; rfl, bcall hbf5 hb6⟩
  · have hne : (evErr S ts ty a != 0) = true := by rw [bne_iff_ne]; exact hc
    have HR := Lib.hid (evOut_bad (id := id) hc)
    clear hc
    go_wp2_with fail
    go_ret2
    exact ⟨by rw [HR.out]; rfl, hbf⟩
end Go.Proofs.YtppeonlpocdhkaaDoor

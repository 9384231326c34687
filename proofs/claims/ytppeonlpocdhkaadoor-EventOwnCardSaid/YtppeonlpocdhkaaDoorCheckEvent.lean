/-
  The walks of CheckEvent and of the reference's.
-/
import Derived.Test.YtppeonlpocdhkaaDoorCheckSchema
import Derived.Test.YtppeonlpocdhkaaDoorCheckSchemaRef
set_option linter.unusedSimpArgs false
namespace Go.Proofs.YtppeonlpocdhkaaDoor
open Go.RowKit Go.ChangeShapes Go.WideShapes Go.ChangeAt
/-- An event's cells. -/
def evCells (ts id ty : Int) (a : Nat → Int) : Array Value := #[.int .i64 ts, .int .u64 id, .int .i64 ty, .int .i64 (a 0), .int .i64 (a 1), .int .i64 (a 2), .int .i64 (a 3), .int .i64 (a 4), .int .i64 (a 5), .int .i64 (a 6), .int .i64 (a 7)]
/-- Is an attribute behind the type's own not 0? -/
def tailB (a : Nat → Int) (n : Nat) : Bool := (List.range 8).any fun j => decide (n ≤ j) && a j != 0
theorem tailB_hit {a : Nat → Int} {n j : Nat} (h1 : n ≤ j) (h2 : j < 8) (h : (a j != 0) = true) : tailB a n = true := by
  unfold tailB
  rw [List.any_eq_true]
  exact ⟨j, by simpa using h2, by simp [h1]; simpa using h⟩
theorem tailB_none {a : Nat → Int} {n : Nat} (h : ∀ j, n ≤ j → j < 8 → (a j != 0) = false) : tailB a n = false := by
  unfold tailB
  rw [List.any_eq_false]
  intro j hj
  by_cases h1 : n ≤ j
  · rw [h j h1 (by simpa using hj)]; simp
  · simp [h1]
/-- The error of an event. -/
def evErr (S : Sch) (ts ty : Int) (a : Nat → Int) : Int :=
  if schErr S ≠ 0 then schErr S else if ty < 0 ∨ (S.n : Int) ≤ ty then 27 else if tailB a (S.ln ty.toNat) = true then 28 else if ts < -1152921504606846976 ∨ 1152921504606846976 < ts then 29 else 0
section
variable {S : Sch} {ts ty : Int} {a : Nat → Int} {k : Nat}
theorem evErr_sch (h : schErr S ≠ 0) : evErr S ts ty a = schErr S := by simp [evErr, h]
theorem evErr_type (h : schErr S = 0) (h2 : ty < 0 ∨ (S.n : Int) ≤ ty) : evErr S ts ty a = 27 := by simp [evErr, h, h2]
theorem evErr_attrs (h : schErr S = 0) (h2 : k < S.n) (h3 : tailB a (S.ln k) = true) : evErr S ts k a = 28 := by
  have : ¬ ((k : Int) < 0 ∨ (S.n : Int) ≤ k) := by omega
  simp [evErr, h, h2, h3]
theorem evErr_range (h : schErr S = 0) (h2 : k < S.n) (h3 : tailB a (S.ln k) = false) (h4 : ts < -1152921504606846976 ∨ 1152921504606846976 < ts) : evErr S ts k a = 29 := by
  have : ¬ ((k : Int) < 0 ∨ (S.n : Int) ≤ k) := by omega
  simp [evErr, h, h2, h3, h4]
theorem evErr_ok (h : schErr S = 0) (h2 : k < S.n) (h3 : tailB a (S.ln k) = false) (h4 : ¬ (ts < -1152921504606846976 ∨ 1152921504606846976 < ts)) : evErr S ts k a = 0 := by
  have : ¬ ((k : Int) < 0 ∨ (S.n : Int) ≤ k) := by omega
  simp [evErr, h, h2, h3, h4]
end
theorem ev_cell {w : World} {B : Nat} {ts id ty : Int} {a : Nat → Int} {t : TypeId} {fr : Nat × Nat} (h : w.heap[B]? = some (.cells (evCells ts id ty a) t fr)) : w.cell? ⟨B, 0, none⟩ = some (.int .i64 ts) ∧ w.cell? ⟨B, 2, none⟩ = some (.int .i64 ty) ∧ ∀ j, j < 8 → w.cell? ⟨B, 3 + j, none⟩ = some (.int .i64 (a j)) := by
  have hc : ∀ i, w.cell? ⟨B, i, none⟩ = (evCells ts id ty a)[i]? := fun i => cell_of_row w B i _ t fr h
  refine ⟨hc 0, hc 2, fun j hj => ?_⟩
  rw [hc]
  match j, hj with
  | 0, _ => rfl
  | 1, _ => rfl
  | 2, _ => rfl
  | 3, _ => rfl
  | 4, _ => rfl
  | 5, _ => rfl
  | 6, _ => rfl
  | 7, _ => rfl
set_option maxRecDepth 100000 in
set_option maxHeartbeats 1000000 in
theorem refCheckEvent_any (A : Option Addr) (cap : Nat) (S : Sch) (ts id ty : Int) (a : Nat → Int) (w : World) (h : TypRd w w.heap.size A S) {tt : TypeId} {fr : Nat × Nat} (hkw : w.heap[0]? = some (.cells kwArr tt fr)) :
    Calls Tryd.prog 17 #[.agg #[.slice A S.n cap], .agg (evCells ts id ty a)] w fun e w' => e = .returned (.int .i64 (evErr S ts ty a)) ∧ Below w.heap.size w w' := by
  have hn := h.1
  have HT := Lib.hid h
  have HK := Lib.hid hkw
  have hb0 := bnew (bnew (Below.refl w.heap.size w) (.cells #[.slice A S.n cap] 25)) (.cells (evCells ts id ty a) 29)
  have x0 : ((w.alloc (.cells #[.slice A S.n cap] 25)).alloc (.cells (evCells ts id ty a) 29)).cell? ⟨w.heap.size, 0, none⟩ = some (.slice A S.n cap) := by simp [go_sem]
  have e0 : ((w.alloc (.cells #[.slice A S.n cap] 25)).alloc (.cells (evCells ts id ty a) 29)).heap[w.heap.size + 1]? = some (.cells (evCells ts id ty a) 29 (0, 0)) := heap_alloc2_new w _ _
  have hz0 : ((w.alloc (.cells #[.slice A S.n cap] 25)).alloc (.cells (evCells ts id ty a) 29)).heap.size = w.heap.size + 2 := by simp
  have hev : evCells ts id ty a = #[.int .i64 ts, .int .u64 id, .int .i64 ty, .int .i64 (a 0), .int .i64 (a 1), .int .i64 (a 2), .int .i64 (a 3), .int .i64 (a 4), .int .i64 (a 5), .int .i64 (a 6), .int .i64 (a 7)] := rfl
  have E0 := Lib.hid e0
  clear h hkw e0
  rw [hev] at hb0 x0 hz0 E0 ⊢
  go_enter Tryd.func17, Tryd.ntmps17
  go_wp2_with fail
  generalize ((w.alloc (.cells #[.slice A S.n cap] 25)).alloc _) = w2 at *
  refine (refCheckSchema_any A cap S _ (HT.out.later hb0) (block_below HK.out hb0)).mono ?_
  rintro e w3 ⟨rfl, hb3⟩
  have x3 := (hb3.cell (p := ⟨w.heap.size, 0, none⟩) (by simp; omega)).trans x0
  obtain ⟨y0, y2, ya⟩ := ev_cell (block_below E0.out hb3)
  have HA := Lib.hid ya
  clear ya x0 E0
  have hbf := bcall hb0 hb3
  by_cases hc : schErr S = 0
  · obtain ⟨hpos, hle, hall⟩ := sch_zero hc
    rw [hc]
    have HC := Lib.hid hc
    clear hc
    by_cases h1 : ty < 0
    · have HR := Lib.hid (evErr_type (ts := ts) (a := a) HC.out (Or.inl h1))
      go_wp2_with fail
      go_ret
      exact ⟨ret_int HR.out.symm, hbf⟩
    by_cases h2 : (S.n : Int) ≤ ty
    · have HR := Lib.hid (evErr_type (ts := ts) (a := a) HC.out (Or.inr h2))
      go_wp2_with fail
      go_ret
      exact ⟨ret_int HR.out.symm, hbf⟩
    obtain ⟨k, rfl⟩ : ∃ k : Nat, ty = k := ⟨ty.toNat, by omega⟩
    have hk : k < S.n := by omega
    obtain ⟨_, _, hl8, _⟩ := hall k hk
    clear h1 h2 hall
    obtain ⟨b, off, rfl, hbl, hcs⟩ := HT.out.2 (by omega)
    obtain ⟨_, aa, ac, c2, _⟩ := hcs k hk
    have d2 := (hbf.cell (p := ⟨b, off + k * 2 + 1, none⟩) hbl).trans c2
    clear hcs c2
    go_wp2_with fail
    go_loop [6] (fun i => ∃ j : Nat, S.ln k ≤ j ∧ j ≤ 8 ∧ i = .int .i64 j ∧ Hid (∀ m, S.ln k ≤ m → m < j → (a m != 0) = false)) (fun i => 8 - (intOf i).toNat)
    case atStart => exact ⟨S.ln k, Nat.le_refl _, hl8, rfl, Lib.hid (fun m h1 h2 => absurd h1 (by omega))⟩
    case round =>
      obtain ⟨j, hj, hj8, rfl, HN⟩ := hrel
      by_cases hlt : j < 8
      · have c := HA.out j hlt
        cases hp : (a j != 0)
        all_goals
          have HP := Lib.hid hp
          go_wp2_with fail
        · go_round
          case rel =>
            refine ⟨j + 1, by omega, by omega, by go_num, Lib.hid (fun m h1 h2 => ?_)⟩
            by_cases e : m = j
            · rw [e]; exact HP.out
            · exact HN.out m h1 (by omega)
          case measure => simp [intOf]; omega
        · go_ret
          exact ⟨ret_int (evErr_attrs HC.out hk (tailB_hit hj hlt HP.out)).symm, hbf⟩
      · have HT2 := Lib.hid (tailB_none (a := a) (n := S.ln k) fun m h1 h2 => HN.out m h1 (by omega))
        by_cases h3 : ts < -1152921504606846976
        · go_wp2_with fail
          go_ret
          exact ⟨ret_int (evErr_range HC.out hk HT2.out (Or.inl h3)).symm, hbf⟩
        by_cases h4 : 1152921504606846976 < ts
        · go_wp2_with fail
          go_ret
          exact ⟨ret_int (evErr_range HC.out hk HT2.out (Or.inr h4)).symm, hbf⟩
        go_wp2_with fail
        go_ret
        exact ⟨ret_int (evErr_ok HC.out hk HT2.out (by omega)).symm, hbf⟩
  · have hne : (schErr S != 0) = true := by rw [bne_iff_ne]; exact hc
    have HR := Lib.hid (evErr_sch (ts := ts) (ty := ty) (a := a) hc)
    clear hc
    go_wp2_with fail
    go_ret
    exact ⟨ret_int HR.out.symm, hbf⟩
set_option maxRecDepth 100000 in
set_option maxHeartbeats 1000000 in
theorem checkEvent_any (A : Option Addr) (cap : Nat) (S : Sch) (ts id ty : Int) (a : Nat → Int) (w : World) (h : TypRd w w.heap.size A S) {tt : TypeId} {fr : Nat × Nat} (hkw : w.heap[0]? = some (.cells kwArr tt fr)) :
    Calls Tryd.prog 16 #[.agg #[.slice A S.n cap], .agg (evCells ts id ty a)] w fun e w' => e = .returned (.int .i64 (evErr S ts ty a)) ∧ Below w.heap.size w w' := by
  have hn := h.1
  have HT := Lib.hid h
  have HK := Lib.hid hkw
  have hb0 := bnew (bnew (Below.refl w.heap.size w) (.cells #[.slice A S.n cap] 25)) (.cells (evCells ts id ty a) 29)
  have x0 : ((w.alloc (.cells #[.slice A S.n cap] 25)).alloc (.cells (evCells ts id ty a) 29)).cell? ⟨w.heap.size, 0, none⟩ = some (.slice A S.n cap) := by simp [go_sem]
  have e0 : ((w.alloc (.cells #[.slice A S.n cap] 25)).alloc (.cells (evCells ts id ty a) 29)).heap[w.heap.size + 1]? = some (.cells (evCells ts id ty a) 29 (0, 0)) := heap_alloc2_new w _ _
  have hz0 : ((w.alloc (.cells #[.slice A S.n cap] 25)).alloc (.cells (evCells ts id ty a) 29)).heap.size = w.heap.size + 2 := by simp
  have hev : evCells ts id ty a = #[.int .i64 ts, .int .u64 id, .int .i64 ty, .int .i64 (a 0), .int .i64 (a 1), .int .i64 (a 2), .int .i64 (a 3), .int .i64 (a 4), .int .i64 (a 5), .int .i64 (a 6), .int .i64 (a 7)] := rfl
  have E0 := Lib.hid e0
  clear h hkw e0
  rw [hev] at hb0 x0 hz0 E0 ⊢
  go_enter Tryd.func16, Tryd.ntmps16
  go_wp2_with fail
  generalize ((w.alloc (.cells #[.slice A S.n cap] 25)).alloc _) = w2 at *
  refine (checkSchema_any A cap S _ (HT.out.later hb0) (block_below HK.out hb0)).mono ?_
  rintro e w3 ⟨rfl, hb3⟩
  have x3 := (hb3.cell (p := ⟨w.heap.size, 0, none⟩) (by simp; omega)).trans x0
  obtain ⟨y0, y2, ya⟩ := ev_cell (block_below E0.out hb3)
  have HA := Lib.hid ya
  clear ya x0 E0
  have hbf := bcall hb0 hb3
  by_cases hc : schErr S = 0
  · obtain ⟨hpos, hle, hall⟩ := sch_zero hc
    rw [hc]
    have HC := Lib.hid hc
    clear hc
    by_cases h1 : ty < 0
    · have HR := Lib.hid (evErr_type (ts := ts) (a := a) HC.out (Or.inl h1))
      go_wp2_with fail
      go_ret
      exact ⟨ret_int HR.out.symm, hbf⟩
    by_cases h2 : (S.n : Int) ≤ ty
    · have HR := Lib.hid (evErr_type (ts := ts) (a := a) HC.out (Or.inr h2))
      go_wp2_with fail
      go_ret
      exact ⟨ret_int HR.out.symm, hbf⟩
    obtain ⟨k, rfl⟩ : ∃ k : Nat, ty = k := ⟨ty.toNat, by omega⟩
    have hk : k < S.n := by omega
    obtain ⟨_, _, hl8, _⟩ := hall k hk
    clear h1 h2 hall
    obtain ⟨b, off, rfl, hbl, hcs⟩ := HT.out.2 (by omega)
    obtain ⟨_, aa, ac, c2, _⟩ := hcs k hk
    have d2 := (hbf.cell (p := ⟨b, off + k * 2 + 1, none⟩) hbl).trans c2
    clear hcs c2
    by_cases h8 : S.ln k = 8
    · have HT2 := Lib.hid (tailB_none (a := a) (n := S.ln k) fun m h1 h2 => absurd h2 (by omega))
      clear hl8
      go_wp2_with fail
      go_loop [35] (fun i => i = .int .i64 0) (fun i => 8 - (intOf i).toNat)
      case atStart => rfl
      case round =>
        subst hrel
        by_cases h3 : ts < -1152921504606846976
        · go_wp2_with fail
          go_ret
          exact ⟨ret_int (evErr_range HC.out hk HT2.out (Or.inl h3)).symm, hbf⟩
        by_cases h4 : 1152921504606846976 < ts
        · go_wp2_with fail
          go_ret
          exact ⟨ret_int (evErr_range HC.out hk HT2.out (Or.inr h4)).symm, hbf⟩
        go_wp2_with fail
        go_ret
        exact ⟨ret_int (evErr_ok HC.out hk HT2.out (by omega)).symm, hbf⟩
    · have h8' : ¬ 8 = S.ln k := fun h => h8 h.symm
      have hl8' : (S.ln k : Int) ≤ 8 := by omega
      have hl0' : (0 : Int) ≤ (S.ln k : Int) := by omega
      go_wp2_with fail
      go_loop [35] (fun i => ∃ j : Nat, j ≤ 8 - S.ln k ∧ i = .int .i64 j ∧ Hid (∀ m, S.ln k ≤ m → m < S.ln k + j → (a m != 0) = false)) (fun i => 8 - (intOf i).toNat)
      case atStart => exact ⟨0, Nat.zero_le _, rfl, Lib.hid (fun m h1 h2 => absurd h1 (by omega))⟩
      case round =>
        obtain ⟨j, hj, rfl, HN⟩ := hrel
        by_cases hlt : j < 8 - S.ln k
        · have c := HA.out (S.ln k + j) (by omega)
          have c' : w3.cell? ⟨w.heap.size + 1, 3 + S.ln k + j, none⟩ = some (.int .i64 (a (S.ln k + j))) := by rw [Nat.add_assoc]; exact c
          cases hp : (a (S.ln k + j) != 0)
          all_goals
            have HP := Lib.hid hp
            go_wp2_with fail
          · go_round
            case rel =>
              refine ⟨j + 1, by omega, by go_num, Lib.hid (fun m h1 h2 => ?_)⟩
              by_cases e : m = S.ln k + j
              · rw [e]; exact HP.out
              · exact HN.out m h1 (by omega)
            case measure => simp [intOf]; omega
          · go_ret
            exact ⟨ret_int (evErr_attrs HC.out hk (tailB_hit (Nat.le_add_right _ _) (by omega) HP.out)).symm, hbf⟩
        · skip
          have HT2 := Lib.hid (tailB_none (a := a) (n := S.ln k) fun m h1 h2 => HN.out m h1 (by omega))
          by_cases h3 : ts < -1152921504606846976
          · go_wp2_with fail
            go_ret
            exact ⟨ret_int (evErr_range HC.out hk HT2.out (Or.inl h3)).symm, hbf⟩
          by_cases h4 : 1152921504606846976 < ts
          · go_wp2_with fail
            go_ret
            exact ⟨ret_int (evErr_range HC.out hk HT2.out (Or.inr h4)).symm, hbf⟩
          go_wp2_with fail
          go_ret
          exact ⟨ret_int (evErr_ok HC.out hk HT2.out (by omega)).symm, hbf⟩
  · have hne : (schErr S != 0) = true := by rw [bne_iff_ne]; exact hc
    have HR := Lib.hid (evErr_sch (ts := ts) (ty := ty) (a := a) hc)
    clear hc
    go_wp2_with fail
    go_ret
    exact ⟨ret_int HR.out.symm, hbf⟩
end Go.Proofs.YtppeonlpocdhkaaDoor

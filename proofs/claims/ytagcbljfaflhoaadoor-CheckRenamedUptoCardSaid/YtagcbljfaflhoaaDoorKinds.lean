/-
  Are a node's operands of the kinds that it wants: plain, and the walk of check.kinds.
-/
import Derived.Test.YtagcbljfaflhoaaDoorTreeFns
set_option linter.unusedSimpArgs false
set_option linter.unusedVariables false
namespace Go.Proofs.YtagcbljfaflhoaaDoor
open Go.RowKit Go.ChangeShapes Go.WideShapes Go.ChangeAt Go.Deep Go.Joins
def wantB (op : Int) : Bool := op == 13 || op == 25 || op == 26
def kidB (f : Nat → Nod) (want : Bool) (k : Int) : Bool := !(decide (0 ≤ k) && (truthB (f k.toNat).op != want))
def kindsB (f : Nat → Nod) (x : Nod) : Bool := kidB f (wantB x.op) x.a && kidB f (wantB x.op) x.b
theorem kid_neg {f : Nat → Nod} {want : Bool} {k : Int} (h : k < 0) : kidB f want k = true := by simp only [kidB, decide_eq_false (show ¬ 0 ≤ k by omega)]; rfl
theorem kid_at {f : Nat → Nod} {want q : Bool} {k : Nat} (h : truthB (f k).op = q) : kidB f want (k : Int) = !(q != want) := by
  simp only [kidB, decide_eq_true (show (0 : Int) ≤ (k : Int) by omega), show ((k : Int)).toNat = k from rfl, h, Bool.true_and]
theorem node_truth {w : World} {b off n r : Nat} {f : Nat → Nod} (h : ∀ j, j < n → w.cell? ⟨b, off + j * 6, none⟩ = some (.int .i64 (f j).op) ∧ w.cell? ⟨b, off + j * 6 + 1, none⟩ = some (.int .i64 (f j).n) ∧ w.cell? ⟨b, off + j * 6 + 2, none⟩ = some (.string (f j).vr) ∧
    w.cell? ⟨b, off + j * 6 + 3, none⟩ = some (.string (f j).at_) ∧ w.cell? ⟨b, off + j * 6 + 4, none⟩ = some (.int .i64 (f j).a) ∧ w.cell? ⟨b, off + j * 6 + 5, none⟩ = some (.int .i64 (f j).b)) (hr : r < n) : w.cell? ⟨b, off + r * 6, none⟩ = some (.int .i64 (f r).op) := (h r hr).1
set_option maxRecDepth 100000 in
set_option maxHeartbeats 4000000 in
theorem kinds_any (aT : Option Addr) (n c : Nat) (f : Nat → Nod) (x : Nod) (w : World) (h : NodRd w w.heap.size aT n f) (ha : x.a < n) (hb : x.b < n) :
    Calls Tryd.prog 108 #[.slice aT n c, .agg (nodArr x)] w fun e w' => e = .returned (.bool (kindsB f x)) ∧ Below w.heap.size w w' := by
  obtain ⟨op, nn, vr, at_, a, b⟩ := x
  show Calls _ _ #[.slice aT n c, .agg #[.int .i64 op, .int .i64 nn, .string vr, .string at_, .int .i64 a, .int .i64 b]] w _
  have ha : a < n := ha
  have hb : b < n := hb
  have hn := h.small
  have hb0 := bnew (Below.refl w.heap.size w) (.cells #[.int .i64 op, .int .i64 nn, .string vr, .string at_, .int .i64 a, .int .i64 b] 60)
  have X0 := Lib.hid (blk_new w #[.int .i64 op, .int .i64 nn, .string vr, .string at_, .int .i64 a, .int .i64 b] 60)
  have HT := Lib.hid h
  have i0 : ∀ w, (Instr.index 129 (.agg #[.int .i64 a, .int .i64 b]) (.int .i64 0)).run Tryd.prog w = .ok (.int .i64 a) w := fun _ => by kernel_rfl
  have i1 : ∀ w, (Instr.index 129 (.agg #[.int .i64 a, .int .i64 b]) (.int .i64 1)).run Tryd.prog w = .ok (.int .i64 b) w := fun _ => by kernel_rfl
  clear h
  go_enter Tryd.func108, Tryd.ntmps108
  go_upto_region 1 with fail
  generalize w.alloc _ = w0 at *
  have t0 := blk_cell X0.out (j := 0) rfl
  have t4 := blk_cell X0.out (j := 4) rfl
  have t5 := blk_cell X0.out (j := 5) rfl
  have HT0 := Lib.hid (HT.out.later hb0)
  rcases (by omega : op = 13 ∨ op = 25 ∨ op = 26 ∨ (op ≠ 13 ∧ op ≠ 25 ∧ op ≠ 26)) with ho | ho | ho | ho
  · subst ho
    have hw : wantB 13 = true := rfl
    have HR := Lib.hid (show kindsB f ⟨13, nn, vr, at_, a, b⟩ = (kidB f true a && kidB f true b) by simp only [kindsB, hw])
    go_wp2_with fail
    go_loop [26] (fun i => ∃ k : Nat, k ≤ 2 ∧ i = .int .i64 k ∧ Hid (1 ≤ k → kidB f true a = true) ∧ Hid (2 ≤ k → kidB f true b = true)) (fun i => 2 - (intOf i).toNat)
    case atStart => exact ⟨0, by omega, rfl, Lib.hid (fun h => absurd h (by omega)), Lib.hid (fun h => absurd h (by omega))⟩
    case round =>
      obtain ⟨k, hk, rfl, HA, HB⟩ := hrel
      rcases (by omega : k = 0 ∨ k = 1 ∨ k = 2) with rfl | rfl | rfl
      · by_cases hp : 0 ≤ a
        · obtain ⟨p, rfl⟩ : ∃ p : Nat, a = p := ⟨a.toNat, by omega⟩
          obtain ⟨tb, off, rfl, hbl, hcs⟩ := HT0.out.spot (by omega)
          have d0 := node_truth hcs (r := p) (by omega)
          have hpn : p < n := by omega
          clear hcs
          cases hq : truthB (f p).op
          all_goals
            have HV := Lib.hid (kid_at (want := true) hq)
            go_wp2_with (go_at_call 48; refine (truth_any _ _).mono ?_; rw [hq]; rintro e wq ⟨rfl, hw⟩; have hw := hw.symm; subst hw)
          · go_ret
            exact ⟨by rw [HR.out, HV.out]; rfl, hb0⟩
          · go_round
            case rel => exact ⟨1, by omega, rfl, Lib.hid (fun _ => HV.out.trans rfl), Lib.hid (fun h => absurd h (by omega))⟩
            case measure => simp [intOf]
        · have HV := Lib.hid (kid_neg (f := f) (want := true) (show a < 0 by omega))
          go_wp2_with fail
          go_round
          case rel => exact ⟨1, by omega, rfl, Lib.hid (fun _ => HV.out.trans rfl), Lib.hid (fun h => absurd h (by omega))⟩
          case measure => simp [intOf]
      · by_cases hp : 0 ≤ b
        · obtain ⟨p, rfl⟩ : ∃ p : Nat, b = p := ⟨b.toNat, by omega⟩
          obtain ⟨tb, off, rfl, hbl, hcs⟩ := HT0.out.spot (by omega)
          have d0 := node_truth hcs (r := p) (by omega)
          have hpn : p < n := by omega
          clear hcs
          cases hq : truthB (f p).op
          all_goals
            have HV := Lib.hid (kid_at (want := true) hq)
            go_wp2_with (go_at_call 48; refine (truth_any _ _).mono ?_; rw [hq]; rintro e wq ⟨rfl, hw⟩; have hw := hw.symm; subst hw)
          · go_ret
            exact ⟨by rw [HR.out, HV.out]; simp, hb0⟩
          · go_round
            case rel => exact ⟨2, by omega, rfl, Lib.hid (fun _ => HA.out (by omega)), Lib.hid (fun _ => HV.out.trans rfl)⟩
            case measure => simp [intOf]
        · have HV := Lib.hid (kid_neg (f := f) (want := true) (show b < 0 by omega))
          go_wp2_with fail
          go_round
          case rel => exact ⟨2, by omega, rfl, Lib.hid (fun _ => HA.out (by omega)), Lib.hid (fun _ => HV.out.trans rfl)⟩
          case measure => simp [intOf]
      · have HE := Lib.hid (show kindsB f ⟨13, nn, vr, at_, a, b⟩ = true by rw [HR.out, HA.out (by omega), HB.out (by omega)]; rfl)
        go_wp2_with fail
        go_ret
        exact ⟨by rw [HE.out]; rfl, hb0⟩
  · subst ho
    have hw : wantB 25 = true := rfl
    have HR := Lib.hid (show kindsB f ⟨25, nn, vr, at_, a, b⟩ = (kidB f true a && kidB f true b) by simp only [kindsB, hw])
    go_wp2_with fail
    go_loop [26] (fun i => ∃ k : Nat, k ≤ 2 ∧ i = .int .i64 k ∧ Hid (1 ≤ k → kidB f true a = true) ∧ Hid (2 ≤ k → kidB f true b = true)) (fun i => 2 - (intOf i).toNat)
    case atStart => exact ⟨0, by omega, rfl, Lib.hid (fun h => absurd h (by omega)), Lib.hid (fun h => absurd h (by omega))⟩
    case round =>
      obtain ⟨k, hk, rfl, HA, HB⟩ := hrel
      rcases (by omega : k = 0 ∨ k = 1 ∨ k = 2) with rfl | rfl | rfl
      · by_cases hp : 0 ≤ a
        · obtain ⟨p, rfl⟩ : ∃ p : Nat, a = p := ⟨a.toNat, by omega⟩
          obtain ⟨tb, off, rfl, hbl, hcs⟩ := HT0.out.spot (by omega)
          have d0 := node_truth hcs (r := p) (by omega)
          have hpn : p < n := by omega
          clear hcs
          cases hq : truthB (f p).op
          all_goals
            have HV := Lib.hid (kid_at (want := true) hq)
            go_wp2_with (go_at_call 48; refine (truth_any _ _).mono ?_; rw [hq]; rintro e wq ⟨rfl, hw⟩; have hw := hw.symm; subst hw)
          · go_ret
            exact ⟨by rw [HR.out, HV.out]; rfl, hb0⟩
          · go_round
            case rel => exact ⟨1, by omega, rfl, Lib.hid (fun _ => HV.out.trans rfl), Lib.hid (fun h => absurd h (by omega))⟩
            case measure => simp [intOf]
        · have HV := Lib.hid (kid_neg (f := f) (want := true) (show a < 0 by omega))
          go_wp2_with fail
          go_round
          case rel => exact ⟨1, by omega, rfl, Lib.hid (fun _ => HV.out.trans rfl), Lib.hid (fun h => absurd h (by omega))⟩
          case measure => simp [intOf]
      · by_cases hp : 0 ≤ b
        · obtain ⟨p, rfl⟩ : ∃ p : Nat, b = p := ⟨b.toNat, by omega⟩
          obtain ⟨tb, off, rfl, hbl, hcs⟩ := HT0.out.spot (by omega)
          have d0 := node_truth hcs (r := p) (by omega)
          have hpn : p < n := by omega
          clear hcs
          cases hq : truthB (f p).op
          all_goals
            have HV := Lib.hid (kid_at (want := true) hq)
            go_wp2_with (go_at_call 48; refine (truth_any _ _).mono ?_; rw [hq]; rintro e wq ⟨rfl, hw⟩; have hw := hw.symm; subst hw)
          · go_ret
            exact ⟨by rw [HR.out, HV.out]; simp, hb0⟩
          · go_round
            case rel => exact ⟨2, by omega, rfl, Lib.hid (fun _ => HA.out (by omega)), Lib.hid (fun _ => HV.out.trans rfl)⟩
            case measure => simp [intOf]
        · have HV := Lib.hid (kid_neg (f := f) (want := true) (show b < 0 by omega))
          go_wp2_with fail
          go_round
          case rel => exact ⟨2, by omega, rfl, Lib.hid (fun _ => HA.out (by omega)), Lib.hid (fun _ => HV.out.trans rfl)⟩
          case measure => simp [intOf]
      · have HE := Lib.hid (show kindsB f ⟨25, nn, vr, at_, a, b⟩ = true by rw [HR.out, HA.out (by omega), HB.out (by omega)]; rfl)
        go_wp2_with fail
        go_ret
        exact ⟨by rw [HE.out]; rfl, hb0⟩
  · subst ho
    have hw : wantB 26 = true := rfl
    have HR := Lib.hid (show kindsB f ⟨26, nn, vr, at_, a, b⟩ = (kidB f true a && kidB f true b) by simp only [kindsB, hw])
    go_wp2_with fail
    go_loop [26] (fun i => ∃ k : Nat, k ≤ 2 ∧ i = .int .i64 k ∧ Hid (1 ≤ k → kidB f true a = true) ∧ Hid (2 ≤ k → kidB f true b = true)) (fun i => 2 - (intOf i).toNat)
    case atStart => exact ⟨0, by omega, rfl, Lib.hid (fun h => absurd h (by omega)), Lib.hid (fun h => absurd h (by omega))⟩
    case round =>
      obtain ⟨k, hk, rfl, HA, HB⟩ := hrel
      rcases (by omega : k = 0 ∨ k = 1 ∨ k = 2) with rfl | rfl | rfl
      · by_cases hp : 0 ≤ a
        · obtain ⟨p, rfl⟩ : ∃ p : Nat, a = p := ⟨a.toNat, by omega⟩
          obtain ⟨tb, off, rfl, hbl, hcs⟩ := HT0.out.spot (by omega)
          have d0 := node_truth hcs (r := p) (by omega)
          have hpn : p < n := by omega
          clear hcs
          cases hq : truthB (f p).op
          all_goals
            have HV := Lib.hid (kid_at (want := true) hq)
            go_wp2_with (go_at_call 48; refine (truth_any _ _).mono ?_; rw [hq]; rintro e wq ⟨rfl, hw⟩; have hw := hw.symm; subst hw)
          · go_ret
            exact ⟨by rw [HR.out, HV.out]; rfl, hb0⟩
          · go_round
            case rel => exact ⟨1, by omega, rfl, Lib.hid (fun _ => HV.out.trans rfl), Lib.hid (fun h => absurd h (by omega))⟩
            case measure => simp [intOf]
        · have HV := Lib.hid (kid_neg (f := f) (want := true) (show a < 0 by omega))
          go_wp2_with fail
          go_round
          case rel => exact ⟨1, by omega, rfl, Lib.hid (fun _ => HV.out.trans rfl), Lib.hid (fun h => absurd h (by omega))⟩
          case measure => simp [intOf]
      · by_cases hp : 0 ≤ b
        · obtain ⟨p, rfl⟩ : ∃ p : Nat, b = p := ⟨b.toNat, by omega⟩
          obtain ⟨tb, off, rfl, hbl, hcs⟩ := HT0.out.spot (by omega)
          have d0 := node_truth hcs (r := p) (by omega)
          have hpn : p < n := by omega
          clear hcs
          cases hq : truthB (f p).op
          all_goals
            have HV := Lib.hid (kid_at (want := true) hq)
            go_wp2_with (go_at_call 48; refine (truth_any _ _).mono ?_; rw [hq]; rintro e wq ⟨rfl, hw⟩; have hw := hw.symm; subst hw)
          · go_ret
            exact ⟨by rw [HR.out, HV.out]; simp, hb0⟩
          · go_round
            case rel => exact ⟨2, by omega, rfl, Lib.hid (fun _ => HA.out (by omega)), Lib.hid (fun _ => HV.out.trans rfl)⟩
            case measure => simp [intOf]
        · have HV := Lib.hid (kid_neg (f := f) (want := true) (show b < 0 by omega))
          go_wp2_with fail
          go_round
          case rel => exact ⟨2, by omega, rfl, Lib.hid (fun _ => HA.out (by omega)), Lib.hid (fun _ => HV.out.trans rfl)⟩
          case measure => simp [intOf]
      · have HE := Lib.hid (show kindsB f ⟨26, nn, vr, at_, a, b⟩ = true by rw [HR.out, HA.out (by omega), HB.out (by omega)]; rfl)
        go_wp2_with fail
        go_ret
        exact ⟨by rw [HE.out]; rfl, hb0⟩
  · have h13 : (op == 13) = false := by rw [beq_eq_false_iff_ne]; exact ho.1
    have h25 : (op == 25) = false := by rw [beq_eq_false_iff_ne]; exact ho.2.1
    have h26 : (op == 26) = false := by rw [beq_eq_false_iff_ne]; exact ho.2.2
    have hw : wantB op = false := by simp [wantB, ho]
    have HR := Lib.hid (show kindsB f ⟨op, nn, vr, at_, a, b⟩ = (kidB f false a && kidB f false b) by simp only [kindsB, hw])
    go_wp2_with fail
    go_loop [26] (fun i => ∃ k : Nat, k ≤ 2 ∧ i = .int .i64 k ∧ Hid (1 ≤ k → kidB f false a = true) ∧ Hid (2 ≤ k → kidB f false b = true)) (fun i => 2 - (intOf i).toNat)
    case atStart => exact ⟨0, by omega, rfl, Lib.hid (fun h => absurd h (by omega)), Lib.hid (fun h => absurd h (by omega))⟩
    case round =>
      obtain ⟨k, hk, rfl, HA, HB⟩ := hrel
      rcases (by omega : k = 0 ∨ k = 1 ∨ k = 2) with rfl | rfl | rfl
      · by_cases hp : 0 ≤ a
        · obtain ⟨p, rfl⟩ : ∃ p : Nat, a = p := ⟨a.toNat, by omega⟩
          obtain ⟨tb, off, rfl, hbl, hcs⟩ := HT0.out.spot (by omega)
          have d0 := node_truth hcs (r := p) (by omega)
          have hpn : p < n := by omega
          clear hcs
          cases hq : truthB (f p).op
          all_goals
            have HV := Lib.hid (kid_at (want := false) hq)
            go_wp2_with (go_at_call 48; refine (truth_any _ _).mono ?_; rw [hq]; rintro e wq ⟨rfl, hw⟩; have hw := hw.symm; subst hw)
          · go_round
            case rel => exact ⟨1, by omega, rfl, Lib.hid (fun _ => HV.out.trans rfl), Lib.hid (fun h => absurd h (by omega))⟩
            case measure => simp [intOf]
          · go_ret
            exact ⟨by rw [HR.out, HV.out]; rfl, hb0⟩
        · have HV := Lib.hid (kid_neg (f := f) (want := false) (show a < 0 by omega))
          go_wp2_with fail
          go_round
          case rel => exact ⟨1, by omega, rfl, Lib.hid (fun _ => HV.out.trans rfl), Lib.hid (fun h => absurd h (by omega))⟩
          case measure => simp [intOf]
      · by_cases hp : 0 ≤ b
        · obtain ⟨p, rfl⟩ : ∃ p : Nat, b = p := ⟨b.toNat, by omega⟩
          obtain ⟨tb, off, rfl, hbl, hcs⟩ := HT0.out.spot (by omega)
          have d0 := node_truth hcs (r := p) (by omega)
          have hpn : p < n := by omega
          clear hcs
          cases hq : truthB (f p).op
          all_goals
            have HV := Lib.hid (kid_at (want := false) hq)
            go_wp2_with (go_at_call 48; refine (truth_any _ _).mono ?_; rw [hq]; rintro e wq ⟨rfl, hw⟩; have hw := hw.symm; subst hw)
          · go_round
            case rel => exact ⟨2, by omega, rfl, Lib.hid (fun _ => HA.out (by omega)), Lib.hid (fun _ => HV.out.trans rfl)⟩
            case measure => simp [intOf]
          · go_ret
            exact ⟨by rw [HR.out, HV.out]; simp, hb0⟩
        · have HV := Lib.hid (kid_neg (f := f) (want := false) (show b < 0 by omega))
          go_wp2_with fail
          go_round
          case rel => exact ⟨2, by omega, rfl, Lib.hid (fun _ => HA.out (by omega)), Lib.hid (fun _ => HV.out.trans rfl)⟩
          case measure => simp [intOf]
      · have HE := Lib.hid (show kindsB f ⟨op, nn, vr, at_, a, b⟩ = true by rw [HR.out, HA.out (by omega), HB.out (by omega)]; rfl)
        go_wp2_with fail
        go_ret
        exact ⟨by rw [HE.out]; rfl, hb0⟩
end Go.Proofs.YtagcbljfaflhoaaDoor

/-
  Several texts in one: UsesRef.
-/
import Derived.Test.YtagcbljfaflhoaaDoorFlw6
import Derived.Test.YtagcbljfaflhoaaDoorFlw13
import Derived.Deep.RegionWith
import Derived.Deep.CutRange
set_option linter.unusedSimpArgs false
set_option linter.unusedVariables false
/-! ### The walk of the reference's Uses. -/
namespace Go.Proofs.YtagcbljfaflhoaaDoor
open Go.RowKit Go.ChangeShapes Go.WideShapes Go.ChangeAt Go.Deep Go.Joins
theorem itemI_none {n : Nat} {it : Nat → Itm} {v : ByteArray} (h : ∀ k, k < n → ((it k).vr.toList == v.toList) = false) : itemI n it v = -1 := firstI_none h
theorem itemI_at {n j : Nat} {it : Nat → Itm} {v : ByteArray} (hj : j < n) (hp : ((it j).vr.toList == v.toList) = true) (h : ∀ k, k < j → ((it k).vr.toList == v.toList) = false) : itemI n it v = j := firstI_hit hj hp h
set_option maxRecDepth 100000 in
set_option maxHeartbeats 2000000 in
theorem refItemOf_any (V : QryV) (Q : Qry) (v : ByteArray) (w : World) (h : QryRd w w.heap.size V Q) :
    Calls Tryd.prog 93 #[.agg (qryArr V Q), .string v] w fun e w' => e = .returned (.int .i64 (itemI Q.n Q.it v)) ∧ Below w.heap.size w w' := by
  obtain ⟨aI, cI, aW, cW, aR, cR⟩ := V
  show Calls _ _ #[.agg #[.slice aI Q.n cI, .int .i64 Q.mode, .int .i64 Q.after, .slice aW Q.wn cW, .int .i64 Q.within, .string Q.by_, .slice aR Q.m cR], .string v] w _
  have hnI := h.rI.small
  have HB := bnew (Below.refl w.heap.size w) (.cells #[.slice aI Q.n cI, .int .i64 Q.mode, .int .i64 Q.after, .slice aW Q.wn cW, .int .i64 Q.within, .string Q.by_, .slice aR Q.m cR] 40)
  have B0 := Lib.hid (blk_new w #[.slice aI Q.n cI, .int .i64 Q.mode, .int .i64 Q.after, .slice aW Q.wn cW, .int .i64 Q.within, .string Q.by_, .slice aR Q.m cR] 40)
  have HQ2 := Lib.hid (h.later HB)
  clear h
  go_enter Tryd.func93, Tryd.ntmps93
  go_wp2_with fail
  generalize w.alloc _ = w2 at *
  have x0 := blk_cell B0.out (j := 0) rfl
  go_loopw [5] (fun i wr => ∃ k : Nat, k ≤ Q.n ∧ i = .int .i64 k ∧ wr = w2 ∧ Hid (∀ q, q < k → ((Q.it q).vr.toList == v.toList) = false)) (fun i _ => Q.n - (intOf i).toNat)
  case atStart => exact ⟨0, Nat.zero_le _, rfl, by first | rfl | trivial, Lib.hid fun q hq => absurd hq (Nat.not_lt_zero _)⟩
  case round =>
    obtain ⟨k, hk, rfl, rfl, HP⟩ := hrel
    by_cases hlt : k < Q.n
    · obtain ⟨b, off, eA, hbl, hcs⟩ := HQ2.out.rI.spot (by omega)
      have eA : aI = _ := eA
      subst eA
      obtain ⟨d0, ⟨aa, ac, d1, _, _, hrow⟩, d2, d3, d4⟩ := hcs k hlt
      clear hcs hrow d0 d1 d3 d4
      cases hv : ((Q.it k).vr.toList == v.toList)
      · have HS := Lib.hid (show ∀ q, q < k + 1 → ((Q.it q).vr.toList == v.toList) = false from fun q hq => by
          by_cases e : q = k
          · subst e; exact hv
          · exact HP.out q (by omega))
        go_wp2_with fail
        go_roundw
        case rel => exact ⟨k + 1, by omega, by go_num, (by first | trivial | rfl), HS⟩
        case measure => simp [intOf]; omega
      · have HE := Lib.hid (itemI_at hlt hv HP.out)
        go_wp2_with fail
        go_ret
        exact ⟨ret_int HE.out.symm, HB⟩
    · obtain rfl : k = Q.n := by omega
      have HE := Lib.hid (itemI_none HP.out)
      go_wp2_with fail
      go_ret
      exact ⟨ret_int HE.out.symm, HB⟩
theorem barely_any (op : Int) (w : World) : Calls Tryd.prog 103 #[.int .i64 op] w fun e w' => e = .returned (.bool (bareB op)) ∧ w' = w := by
  by_cases h4 : op = 4
  · subst h4
    go_enter Tryd.func103, Tryd.ntmps103
    go_wp2_with fail
    go_ret
    exact ⟨rfl, rfl⟩
  · have h1 : (op == 4) = false := by rw [beq_eq_false_iff_ne]; exact h4
    go_enter Tryd.func103, Tryd.ntmps103
    go_wp2_with fail
    go_ret
    exact ⟨by simp [bareB, h1], rfl⟩
theorem aggregate_any (op : Int) (w : World) : Calls Tryd.prog 104 #[.int .i64 op] w fun e w' => e = .returned (.bool (aggB op)) ∧ w' = w := by
  by_cases h4 : 5 ≤ op
  · go_enter Tryd.func104, Tryd.ntmps104
    go_wp2_with fail
    go_ret
    exact ⟨by simp [aggB, h4], rfl⟩
  · go_enter Tryd.func104, Tryd.ntmps104
    go_wp2_with fail
    go_ret
    exact ⟨by simp [aggB]; omega, rfl⟩
/-- Three rows of numbers and the block that tells where they lie. -/
structure Use3 (w : World) (B g : Nat) (L1 L2 L3 : List Nat) (v1 v2 v3 : Value) : Prop where
  o1 : w.ownsRow B 3 1 v1 L1.length (L1.map natV)
  o2 : w.ownsRow B 3 1 v2 L2.length (L2.map natV)
  o3 : w.ownsRow B 3 1 v3 L3.length (L3.map natV)
  n12 : ∀ x, v1.ownBlock = some x → v2.ownBlock ≠ some x
  n13 : ∀ x, v1.ownBlock = some x → v3.ownBlock ≠ some x
  n23 : ∀ x, v2.ownBlock = some x → v3.ownBlock ≠ some x
  blk : w.heap[g]? = some (.cells #[v1, v2, v3] 57 (0, 0))
section
variable {w w9 : World} {B g gg gcap k : Nat} {L1 L2 L3 : List Nat} {v1 v2 v3 v u' : Value} {o : Obj}
theorem far_row {L : List Nat} (h : w.ownsRow B 3 1 v L.length (L.map natV)) (hg : (w.alloc o).grownBy w9 u'.ownBlock) (hne : ∀ x, u'.ownBlock = some x → v.ownBlock ≠ some x) (hgB : g < B) (j : Nat) (u : Value) :
    (w9.setCell ⟨g, j, none⟩ u).ownsRow B 3 1 v L.length (L.map natV) :=
  rowown_far (rowown_kept (World.ownsRow.alloc h o) hg hne) (rowown_ne h hgB) u
theorem new_ne {L : List Nat} (h : w.ownsRow B 3 1 v L.length (L.map natV)) (hat : u'.ownBlock = some gg ∨ gg = w.heap.size + 1) (hne : ∀ x, u'.ownBlock = some x → v.ownBlock ≠ some x) : v.ownBlock ≠ some gg := by
  intro e
  rcases hat with hat | hat
  · exact hne gg hat e
  · have := (h.lt gg e).2
    omega
theorem Use3.push1 (h : Use3 w B g L1 L2 L3 v1 v2 v3) (hgB : g < B) (hown : w9.ownsRow B 3 1 (.slice (some ⟨gg, 0, none⟩) (L1.length + 1) gcap) (L1.length + 1) (L1.map natV ++ [natV k])) (hg : (w.alloc o).grownBy w9 v1.ownBlock) (hat : v1.ownBlock = some gg ∨ gg = w.heap.size + 1) :
    Use3 (w9.setCell ⟨g, 0, none⟩ (.slice (some ⟨gg, 0, none⟩) (L1.length + 1) gcap)) B g (L1 ++ [k]) L2 L3 (.slice (some ⟨gg, 0, none⟩) (L1.length + 1) gcap) v2 v3 := by
  have hb9 := blk_grown (blk_alloc h.blk o) hg (rowown_ne h.o1 hgB)
  refine ⟨?_, far_row h.o2 hg h.n12 hgB 0 _, far_row h.o3 hg h.n13 hgB 0 _, ?_, ?_, h.n23, blk_set hb9 0 _⟩
  · rw [List.map_append, List.length_append]
    exact own_blk hown hb9 (by decide) 0 _
  · intro x hx
    injection hx with hx
    subst hx
    exact new_ne h.o2 hat h.n12
  · intro x hx
    injection hx with hx
    subst hx
    exact new_ne h.o3 hat h.n13
theorem Use3.push2 (h : Use3 w B g L1 L2 L3 v1 v2 v3) (hgB : g < B) (hown : w9.ownsRow B 3 1 (.slice (some ⟨gg, 0, none⟩) (L2.length + 1) gcap) (L2.length + 1) (L2.map natV ++ [natV k])) (hg : (w.alloc o).grownBy w9 v2.ownBlock) (hat : v2.ownBlock = some gg ∨ gg = w.heap.size + 1) :
    Use3 (w9.setCell ⟨g, 1, none⟩ (.slice (some ⟨gg, 0, none⟩) (L2.length + 1) gcap)) B g L1 (L2 ++ [k]) L3 v1 (.slice (some ⟨gg, 0, none⟩) (L2.length + 1) gcap) v3 := by
  have hb9 := blk_grown (blk_alloc h.blk o) hg (rowown_ne h.o2 hgB)
  refine ⟨far_row h.o1 hg (fun x hx e => h.n12 x e hx) hgB 1 _, ?_, far_row h.o3 hg h.n23 hgB 1 _, ?_, h.n13, ?_, blk_set hb9 1 _⟩
  · rw [List.map_append, List.length_append]
    exact own_blk hown hb9 (by decide) 1 _
  · intro x hx e
    injection e with e
    subst e
    exact new_ne h.o1 hat (fun x hx e => h.n12 x e hx) hx
  · intro x hx
    injection hx with hx
    subst hx
    exact new_ne h.o3 hat h.n23
theorem Use3.push3 (h : Use3 w B g L1 L2 L3 v1 v2 v3) (hgB : g < B) (hown : w9.ownsRow B 3 1 (.slice (some ⟨gg, 0, none⟩) (L3.length + 1) gcap) (L3.length + 1) (L3.map natV ++ [natV k])) (hg : (w.alloc o).grownBy w9 v3.ownBlock) (hat : v3.ownBlock = some gg ∨ gg = w.heap.size + 1) :
    Use3 (w9.setCell ⟨g, 2, none⟩ (.slice (some ⟨gg, 0, none⟩) (L3.length + 1) gcap)) B g L1 L2 (L3 ++ [k]) v1 v2 (.slice (some ⟨gg, 0, none⟩) (L3.length + 1) gcap) := by
  have hb9 := blk_grown (blk_alloc h.blk o) hg (rowown_ne h.o3 hgB)
  refine ⟨far_row h.o1 hg (fun x hx e => h.n13 x e hx) hgB 2 _, far_row h.o2 hg (fun x hx e => h.n23 x e hx) hgB 2 _, ?_, h.n12, ?_, ?_, blk_set hb9 2 _⟩
  · rw [List.map_append, List.length_append]
    exact own_blk hown hb9 (by decide) 2 _
  · intro x hx e
    injection e with e
    subst e
    exact new_ne h.o1 hat (fun x hx e => h.n13 x e hx) hx
  · intro x hx e
    injection e with e
    subst e
    exact new_ne h.o2 hat (fun x hx e => h.n23 x e hx) hx
theorem Use3.below {w' : World} (h : Use3 w B g L1 L2 L3 v1 v2 v3) (hb : Below w.heap.size w w') : Use3 w' B g L1 L2 L3 v1 v2 v3 :=
  ⟨rowown_below h.o1 hb, rowown_below h.o2 hb, rowown_below h.o3 hb, h.n12, h.n13, h.n23, blk_below h.blk hb⟩
theorem Use3.row {b : Nat} {old : Array Value} {fr : Nat × Nat} (h : Use3 w B g L1 L2 L3 v1 v2 v3) (hb : w.heap[b]? = some (.cells old 57 fr)) (hbg : b ≠ g) (new : Array Value) : Use3 (w.setRow b new) B g L1 L2 L3 v1 v2 v3 :=
  ⟨own_row h.o1 hb (by decide) new, own_row h.o2 hb (by decide) new, own_row h.o3 hb (by decide) new, h.n12, h.n13, h.n23, row_other h.blk hbg⟩
end
set_option maxRecDepth 100000 in
set_option maxHeartbeats 4000000 in
theorem refUses_any (V : QryV) (Q : Qry) (A : Option Addr) (m c : Nat) (t : Nat → Nod) (w : World) (h : QryRd w w.heap.size V Q) (hT : NodRd w w.heap.size A m t) :
    Calls Tryd.prog 78 #[.agg (qryArr V Q), .slice A m c] w fun e w' => ∃ v1 v2 v3, e = .returned (.agg #[v1, v2, v3]) ∧ Below w.heap.size w w' ∧
      w'.ownsRow w.heap.size 3 1 v1 (usesL bareB Q.n Q.it t m Q.n).length ((usesL bareB Q.n Q.it t m Q.n).map natV) ∧ w'.ownsRow w.heap.size 3 1 v2 (usesL prevB Q.n Q.it t m Q.n).length ((usesL prevB Q.n Q.it t m Q.n).map natV) ∧ w'.ownsRow w.heap.size 3 1 v3 (usesL aggB Q.n Q.it t m Q.n).length ((usesL aggB Q.n Q.it t m Q.n).map natV) := by
  obtain ⟨aI, cI, aW, cW, aR, cR⟩ := V
  show Calls _ _ #[.agg #[.slice aI Q.n cI, .int .i64 Q.mode, .int .i64 Q.after, .slice aW Q.wn cW, .int .i64 Q.within, .string Q.by_, .slice aR Q.m cR], .slice A m c] w _
  obtain ⟨i0, hi0, hy0, hy1, hy2⟩ := info_parts infoIntU
  have hnI := h.rI.small
  have hnm := hT.small
  have HB := bnew (bnew (bnew (Below.refl w.heap.size w) (.cells #[.slice aI Q.n cI, .int .i64 Q.mode, .int .i64 Q.after, .slice aW Q.wn cW, .int .i64 Q.within, .string Q.by_, .slice aR Q.m cR] 40)) (.cells #[.slice none 0 0, .slice none 0 0, .slice none 0 0] 57)) (.cells #[.slice none 0 0, .slice none 0 0, .slice none 0 0] 57)
  have B0 := Lib.hid (blk_alloc (blk_alloc (blk_new w #[.slice aI Q.n cI, .int .i64 Q.mode, .int .i64 Q.after, .slice aW Q.wn cW, .int .i64 Q.within, .string Q.by_, .slice aR Q.m cR] 40) (.cells #[.slice none 0 0, .slice none 0 0, .slice none 0 0] 57)) (.cells #[.slice none 0 0, .slice none 0 0, .slice none 0 0] 57))
  have b1 := blk_alloc (blk_new (w.alloc (.cells #[.slice aI Q.n cI, .int .i64 Q.mode, .int .i64 Q.after, .slice aW Q.wn cW, .int .i64 Q.within, .string Q.by_, .slice aR Q.m cR] 40)) #[.slice none 0 0, .slice none 0 0, .slice none 0 0] 57) (.cells #[.slice none 0 0, .slice none 0 0, .slice none 0 0] 57)
  have b2 := blk_new ((w.alloc (.cells #[.slice aI Q.n cI, .int .i64 Q.mode, .int .i64 Q.after, .slice aW Q.wn cW, .int .i64 Q.within, .string Q.by_, .slice aR Q.m cR] 40)).alloc (.cells #[.slice none 0 0, .slice none 0 0, .slice none 0 0] 57)) #[.slice none 0 0, .slice none 0 0, .slice none 0 0] 57
  simp only [World.size_alloc] at b1 b2
  have B1 := Lib.hid b1
  have B2 := Lib.hid b2
  have HQ2 := Lib.hid (h.later HB)
  have HT2 := Lib.hid (hT.later HB)
  have hz2 : (((w.alloc (.cells #[.slice aI Q.n cI, .int .i64 Q.mode, .int .i64 Q.after, .slice aW Q.wn cW, .int .i64 Q.within, .string Q.by_, .slice aR Q.m cR] 40)).alloc (.cells #[.slice none 0 0, .slice none 0 0, .slice none 0 0] 57)).alloc (.cells #[.slice none 0 0, .slice none 0 0, .slice none 0 0] 57)).heap.size = w.heap.size + 3 := by simp
  have HLOW := Lib.hid h
  have HLOT := Lib.hid hT
  clear h hT b1 b2
  go_enter Tryd.func78, Tryd.ntmps78
  go_wp2_with fail
  generalize ((w.alloc _).alloc _).alloc _ = w4 at *
  go_loopw [6] (fun i wr => ∃ (k : Nat) (v1 v2 v3 : Value), k ≤ Q.n ∧ i = .int .i64 k ∧ Hid (Use3 wr (w.heap.size + 3) (w.heap.size + 1 + 1) (usesL bareB Q.n Q.it t m k) (usesL prevB Q.n Q.it t m k) (usesL aggB Q.n Q.it t m k) v1 v2 v3) ∧ Below (w.heap.size + 2) w4 wr) (fun i _ => Q.n - (intOf i).toNat)
  case atStart => exact ⟨0, .slice none 0 0, .slice none 0 0, .slice none 0 0, Nat.zero_le _, rfl, Lib.hid ⟨World.ownsRow_nil _ _ _ _, World.ownsRow_nil _ _ _ _, World.ownsRow_nil _ _ _ _, fun g hg => by simp [Value.ownBlock] at hg, fun g hg => by simp [Value.ownBlock] at hg, fun g hg => by simp [Value.ownBlock] at hg, B2.out⟩, Below.refl _ _⟩
  case round =>
    obtain ⟨k, v1, v2, v3, hk, rfl, U, hb⟩ := hrel
    obtain ⟨W1, e1⟩ : ∃ W1 : World, W1 = wr := ⟨_, rfl⟩
    subst e1
    have hzW := hb.size
    have A0 := Lib.hid ((hb.block w.heap.size (by omega)).trans B0.out)
    have x0 := blk_cell A0.out (j := 0) rfl
    by_cases hlt : k < Q.n
    · have hbw : Below w.heap.size w W1 := HB.trans (hb.mono (by omega))
      have HQ1 := Lib.hid (HLOW.out.later hbw)
      have HT1 := Lib.hid (HLOT.out.later hbw)
      go_wp2_with fail
      go_loopw [7, 8, 9, 10] (fun p1 p2 p3 j wr => ∃ i : Nat, i ≤ m ∧ j = .int .i64 i ∧ p1 = .bool (anyU bareB Q.n Q.it t i k) ∧ p2 = .bool (anyU prevB Q.n Q.it t i k) ∧ p3 = .bool (anyU aggB Q.n Q.it t i k) ∧ Below W1.heap.size W1 wr) (fun _ _ _ j _ => m - (intOf j).toNat)
      case atStart => exact ⟨0, Nat.zero_le _, rfl, rfl, rfl, rfl, Below.refl _ _⟩
      case round =>
        obtain ⟨i, hi, rfl, rfl, rfl, rfl, hbj⟩ := hrel
        obtain ⟨W2, e2⟩ : ∃ W2 : World, W2 = wr := ⟨_, rfl⟩
        subst e2
        by_cases hil : i < m
        · obtain ⟨b, off, eA, hbl, hcs⟩ := (HT1.out.later hbj).spot (by omega)
          subst eA
          obtain ⟨c0, c1, c2, c3, c4, c5⟩ := hcs i hil
          obtain ⟨x, hx⟩ : ∃ x, t i = x := ⟨_, rfl⟩
          rw [hx] at c0 c2
          obtain ⟨op, nn, vr, at_, a, b2⟩ := x
          have HX := Lib.hid hx
          have c0 : W2.cell? ⟨b, off + i * 6, none⟩ = some (.int .i64 op) := c0
          have c2 : W2.cell? ⟨b, off + i * 6 + 2, none⟩ = some (.string vr) := c2
          have A2 := Lib.hid (blk_below A0.out hbj)
          obtain ⟨y0, y1, y2, y3, y4, y5, y6⟩ := blk7 A2.out
          have HQ3 := Lib.hid (HQ1.out.later hbj)
          clear hcs c1 c3 c4 c5 hx x0
          go_upto_region 9 with fail
          go_region_with (go_at_call 93; refine (refItemOf_any ⟨aI, cI, aW, cW, aR, cR⟩ Q vr _ (HQ3.out.later (bdrewN (Below.refl _ _) _))).mono ?_; rintro e wz ⟨rfl, hbz⟩)
          all_goals
            have hbz' : Below W1.heap.size W1 wz := by
              have hbd : Below W1.heap.size W1 (W2.drew) := hbj.drew
              exact bcall hbd hbz
            have c0z : wz.cell? ⟨b, off + i * 6, none⟩ = some (.int .i64 op) := rd_later (w := W2.drew) c0 hbz
            clear c0 c2 y0 y1 y2 y3 y4 y5 y6 hbz hbj
            obtain ⟨iv, hiv⟩ : ∃ iv, itemI Q.n Q.it vr = iv := ⟨_, rfl⟩
            rw [hiv]
            have HIV := Lib.hid (show itemI Q.n Q.it (t i).vr = iv by rw [HX.out]; exact hiv)
            have HOP := Lib.hid (show (t i).op = op by rw [HX.out])
            clear hiv
            by_cases hik : iv = (k : Int)
            · subst hik
              have S1 := Lib.hid (show anyU bareB Q.n Q.it t (i + 1) k = (anyU bareB Q.n Q.it t i k || bareB op) by rw [any_succ, HIV.out, HOP.out]; simp)
              have S2 := Lib.hid (show anyU prevB Q.n Q.it t (i + 1) k = (anyU prevB Q.n Q.it t i k || prevB op) by rw [any_succ, HIV.out, HOP.out]; simp)
              have S3 := Lib.hid (show anyU aggB Q.n Q.it t (i + 1) k = (anyU aggB Q.n Q.it t i k || aggB op) by rw [any_succ, HIV.out, HOP.out]; simp)
              cases h1 : anyU bareB Q.n Q.it t i k
              all_goals cases h2 : anyU prevB Q.n Q.it t i k
              all_goals cases h3 : anyU aggB Q.n Q.it t i k
              all_goals
                have H1 := Lib.hid h1
                have H2 := Lib.hid h2
                have H3 := Lib.hid h3
                clear h1 h2 h3
                go_wp2_with (first | (go_at_call 103; refine (barely_any op _).mono ?_; rintro e wq ⟨rfl, rfl⟩) | (go_at_call 104; refine (aggregate_any op _).mono ?_; rintro e wq ⟨rfl, rfl⟩))
                go_roundw
                case rel => exact ⟨i + 1, by omega, by go_num, by rw [S1.out, H1.out]; rfl, by rw [S2.out, H2.out]; rfl, by rw [S3.out, H3.out]; rfl, hbz'⟩
                case measure => simp [intOf]; omega
            · have hik' : (iv == (k : Int)) = false := by rw [beq_eq_false_iff_ne]; exact hik
              have S1 := Lib.hid (show anyU bareB Q.n Q.it t (i + 1) k = anyU bareB Q.n Q.it t i k by rw [any_succ, HIV.out, hik']; simp)
              have S2 := Lib.hid (show anyU prevB Q.n Q.it t (i + 1) k = anyU prevB Q.n Q.it t i k by rw [any_succ, HIV.out, hik']; simp)
              have S3 := Lib.hid (show anyU aggB Q.n Q.it t (i + 1) k = anyU aggB Q.n Q.it t i k by rw [any_succ, HIV.out, hik']; simp)
              go_wp2_with fail
              go_roundw
              case rel => exact ⟨i + 1, by omega, by go_num, by rw [S1.out], by rw [S2.out], by rw [S3.out], hbz'⟩
              case measure => simp [intOf]; omega
        · obtain rfl : i = m := by omega
          have UA := Lib.hid (U.out.below hbj)
          have hbA : Below (w.heap.size + 2) w4 W2 := hb.trans (hbj.mono (by omega))
          have hzA := hbA.size
          clear U x0 A0 hbj HT1 HQ1
          go_upto_if 62 with fail
          go_cut [7] from 12 to 82 (fun p wx => ∃ x, Hid (Use3 wx (w.heap.size + 3) (w.heap.size + 1 + 1) (usesL bareB Q.n Q.it t i (k + 1)) (usesL prevB Q.n Q.it t i k) (usesL aggB Q.n Q.it t i k) x v2 v3) ∧ Below (w.heap.size + 2) w4 wx)
          case first =>
            cases h1 : anyU bareB Q.n Q.it t i k
            · have HU := Lib.hid (uses_miss h1)
              go_wp2_with fail
              go_meet
              exact ⟨v1, Lib.hid (by rw [HU.out]; exact UA.out), hbA⟩
            · have HU := Lib.hid (uses_hit h1)
              have z0 := blk_cell UA.out.blk (j := 0) rfl
              go_wp2_with (at_builtin; go_loud (refine wpList_append_lies _ rfl _ _ _ rfl (w.heap.size + 3) 3 i0 _ 1 8 Tryd.underlying27 hi0 hy0 hy1 hy2 rfl (by omega) _ _ _ rfl (World.ownsRow.alloc UA.out.o1 _) ⟨W2.heap.size, 0, none⟩ 1 1 [.int .i64 (k : Nat)] rfl rfl (World.news_of_block (cs := #[.int .i64 (k : Nat)]) (t := 3) (fr := (0, 0)) (heap_alloc_new W2 _)) (by simp [Value.oneCell']) (by omega) (by have : (usesL bareB Q.n Q.it t i k).length ≤ k := uses_len; unfold maxLen; omega) (by have : (usesL bareB Q.n Q.it t i k).length ≤ k := uses_len; omega) (by simp; omega) (W2.heap.size + 1) (by simp) ?_; intro gg gcap w9 hown9 hgrow hat hlt9; have f9 := blk_cell (blk_grown (blk_alloc UA.out.blk _) hgrow (rowown_ne UA.out.o1 (show w.heap.size + 1 + 1 < w.heap.size + 3 by omega))) (j := 0) rfl; have r9 := blk_free (blk_grown (blk_alloc UA.out.blk _) hgrow (rowown_ne UA.out.o1 (show w.heap.size + 1 + 1 < w.heap.size + 3 by omega))) 0))
              have hb9 := ((hbA.alloc (by omega) (.cells #[.int .i64 (k : Nat)] 3)).grown hgrow (by simp; omega) (fun x hx => by have := (UA.out.o1.lt x hx).1; omega)).setCell (p := ⟨w.heap.size + 1 + 1, 0, none⟩) (by simp) (.slice (some ⟨gg, 0, none⟩) ((usesL bareB Q.n Q.it t i k).length + 1) gcap)
              go_meet
              exact ⟨_, Lib.hid (by rw [HU.out]; exact UA.out.push1 (by omega) hown9 hgrow hat), hb9⟩
          case rest =>
          obtain ⟨x1, U1, hb1'⟩ := hcut
          obtain ⟨Y1, ey1⟩ : ∃ Y1 : World, Y1 = wc := ⟨_, rfl⟩
          subst ey1
          have hzB1 := hb1'.size
          go_upto_if 69 with fail
          go_cut [8] from 12 to 82 (fun p wx => ∃ x, Hid (Use3 wx (w.heap.size + 3) (w.heap.size + 1 + 1) (usesL bareB Q.n Q.it t i (k + 1)) (usesL prevB Q.n Q.it t i (k + 1)) (usesL aggB Q.n Q.it t i k) x1 x v3) ∧ Below (w.heap.size + 2) w4 wx)
          case first =>
            cases h1 : anyU prevB Q.n Q.it t i k
            · have HU := Lib.hid (uses_miss h1)
              go_wp2_with fail
              go_meet
              exact ⟨v2, Lib.hid (by rw [HU.out]; exact U1.out), hb1'⟩
            · have HU := Lib.hid (uses_hit h1)
              have z0 := blk_cell U1.out.blk (j := 1) rfl
              go_wp2_with (at_builtin; go_loud (refine wpList_append_lies _ rfl _ _ _ rfl (w.heap.size + 3) 3 i0 _ 1 8 Tryd.underlying27 hi0 hy0 hy1 hy2 rfl (by omega) _ _ _ rfl (World.ownsRow.alloc U1.out.o2 _) ⟨Y1.heap.size, 0, none⟩ 1 1 [.int .i64 (k : Nat)] rfl rfl (World.news_of_block (cs := #[.int .i64 (k : Nat)]) (t := 3) (fr := (0, 0)) (heap_alloc_new Y1 _)) (by simp [Value.oneCell']) (by omega) (by have : (usesL prevB Q.n Q.it t i k).length ≤ k := uses_len; unfold maxLen; omega) (by have : (usesL prevB Q.n Q.it t i k).length ≤ k := uses_len; omega) (by simp; omega) (Y1.heap.size + 1) (by simp) ?_; intro gg gcap w9 hown9 hgrow hat hlt9; have f9 := blk_cell (blk_grown (blk_alloc U1.out.blk _) hgrow (rowown_ne U1.out.o2 (show w.heap.size + 1 + 1 < w.heap.size + 3 by omega))) (j := 1) rfl; have r9 := blk_free (blk_grown (blk_alloc U1.out.blk _) hgrow (rowown_ne U1.out.o2 (show w.heap.size + 1 + 1 < w.heap.size + 3 by omega))) 1))
              have hb9 := ((hb1'.alloc (by omega) (.cells #[.int .i64 (k : Nat)] 3)).grown hgrow (by simp; omega) (fun x hx => by have := (U1.out.o2.lt x hx).1; omega)).setCell (p := ⟨w.heap.size + 1 + 1, 1, none⟩) (by simp) (.slice (some ⟨gg, 0, none⟩) ((usesL prevB Q.n Q.it t i k).length + 1) gcap)
              go_meet
              exact ⟨_, Lib.hid (by rw [HU.out]; exact U1.out.push2 (by omega) hown9 hgrow hat), hb9⟩
          case rest =>
          obtain ⟨x2, U2, hb2'⟩ := hcut
          obtain ⟨Y2, ey2⟩ : ∃ Y2 : World, Y2 = wc := ⟨_, rfl⟩
          subst ey2
          have hzB2 := hb2'.size
          cases h1 : anyU aggB Q.n Q.it t i k
          · have HU := Lib.hid (uses_miss h1)
            go_wp2_with fail
            go_roundw
            case rel => exact ⟨k + 1, x1, x2, v3, by omega, by go_num, Lib.hid (by rw [HU.out]; exact U2.out), hb2'⟩
            case measure => simp [intOf]; omega
          · have HU := Lib.hid (uses_hit h1)
            have z0 := blk_cell U2.out.blk (j := 2) rfl
            go_wp2_with (at_builtin; go_loud (refine wpList_append_lies _ rfl _ _ _ rfl (w.heap.size + 3) 3 i0 _ 1 8 Tryd.underlying27 hi0 hy0 hy1 hy2 rfl (by omega) _ _ _ rfl (World.ownsRow.alloc U2.out.o3 _) ⟨Y2.heap.size, 0, none⟩ 1 1 [.int .i64 (k : Nat)] rfl rfl (World.news_of_block (cs := #[.int .i64 (k : Nat)]) (t := 3) (fr := (0, 0)) (heap_alloc_new Y2 _)) (by simp [Value.oneCell']) (by omega) (by have : (usesL aggB Q.n Q.it t i k).length ≤ k := uses_len; unfold maxLen; omega) (by have : (usesL aggB Q.n Q.it t i k).length ≤ k := uses_len; omega) (by simp; omega) (Y2.heap.size + 1) (by simp) ?_; intro gg gcap w9 hown9 hgrow hat hlt9; have f9 := blk_cell (blk_grown (blk_alloc U2.out.blk _) hgrow (rowown_ne U2.out.o3 (show w.heap.size + 1 + 1 < w.heap.size + 3 by omega))) (j := 2) rfl; have r9 := blk_free (blk_grown (blk_alloc U2.out.blk _) hgrow (rowown_ne U2.out.o3 (show w.heap.size + 1 + 1 < w.heap.size + 3 by omega))) 2))
            have hb9 := ((hb2'.alloc (by omega) (.cells #[.int .i64 (k : Nat)] 3)).grown hgrow (by simp; omega) (fun x hx => by have := (U2.out.o3.lt x hx).1; omega)).setCell (p := ⟨w.heap.size + 1 + 1, 2, none⟩) (by simp) (.slice (some ⟨gg, 0, none⟩) ((usesL aggB Q.n Q.it t i k).length + 1) gcap)
            go_roundw
            case rel => exact ⟨k + 1, x1, x2, _, by omega, by go_num, Lib.hid (by rw [HU.out]; exact U2.out.push3 (by omega) hown9 hgrow hat), hb9⟩
            case measure => simp [intOf]; omega
    · obtain rfl : k = Q.n := by omega
      obtain ⟨A1, k1, rfl, _⟩ := rowown_shape U.out.o1
      obtain ⟨A2, k2, rfl, _⟩ := rowown_shape U.out.o2
      obtain ⟨A3, k3, rfl, _⟩ := rowown_shape U.out.o3
      have R1 := Lib.hid ((hb.block (w.heap.size + 1) (by omega)).trans B1.out)
      have UR := Lib.hid (U.out.row R1.out (by omega) #[.slice A1 (usesL bareB Q.n Q.it t m Q.n).length k1, .slice A2 (usesL prevB Q.n Q.it t m Q.n).length k2, .slice A3 (usesL aggB Q.n Q.it t m Q.n).length k3])
      have BF := Lib.hid (row_set R1.out #[.slice A1 (usesL bareB Q.n Q.it t m Q.n).length k1, .slice A2 (usesL prevB Q.n Q.it t m Q.n).length k2, .slice A3 (usesL aggB Q.n Q.it t m Q.n).length k3])
      have hbf := below_setRow (cs := #[.slice A1 (usesL bareB Q.n Q.it t m Q.n).length k1, .slice A2 (usesL prevB Q.n Q.it t m Q.n).length k2, .slice A3 (usesL aggB Q.n Q.it t m Q.n).length k3]) (HB.trans (hb.mono (by omega))) (Nat.le_succ w.heap.size)
      have UB := Lib.hid U.out.blk
      go_wp2_with (first | (refine wpList_load_row rfl 57 _ rfl (w.heap.size + 1 + 1) rfl 57 _ (0, 0) _ UB.out Tryd.underlying57 rfl (by kernel_rfl) ?_) | (refine wpList_store_row rfl 57 _ _ rfl (w.heap.size + 1) _ rfl rfl 57 _ R1.out (by kernel_rfl) rfl (by simp [Value.oneCell']) ?_))
      (try simp only [Exit.inBlock, Exit.then])
      generalize W1.setRow (w.heap.size + 1) _ = wf at *
      refine bodyPost_ret (v := .agg #[.slice A1 (usesL bareB Q.n Q.it t m Q.n).length k1, .slice A2 (usesL prevB Q.n Q.it t m Q.n).length k2, .slice A3 (usesL aggB Q.n Q.it t m Q.n).length k3]) ?_ rfl ?_
      · exact results_cell_row Tryd.results78 _ _ (w.heap.size + 1) 57 _ (0, 0) _ rfl BF.out Tryd.underlying57 rfl (by kernel_rfl)
      · exact ⟨_, _, _, rfl, hbf, own_wide UR.out.o1 (by omega), own_wide UR.out.o2 (by omega), own_wide UR.out.o3 (by omega)⟩
end Go.Proofs.YtagcbljfaflhoaaDoor

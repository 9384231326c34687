/-
  The first item of each variable: plain, and the walk of the map that is made of them.
-/
import Derived.Test.YtagcbljfaflhoaaDoorQuery
import Derived.Test.YtagcbljfaflhoaaDoorFirst
import Derived.Test.YtagcbljfaflhoaaDoorRowSet
import Derived.Maps.OwnSet
import Derived.Maps.OwnOps
import Derived.Maps.Views
import Derived.WalkKit
import Derived.Deep.CutRange
import Derived.OwnWalk
import Derived.Handy
set_option linter.unusedSimpArgs false
set_option linter.unusedVariables false
namespace Go.Proofs.YtagcbljfaflhoaaDoor
open Go.RowKit Go.ChangeShapes Go.WideShapes Go.ChangeAt Go.Deep Go.Joins
open Go.Maps (Keyed IsMap)
/-- The number of the first item with that variable, -1 if there is none. -/
def itemI (n : Nat) (it : Nat → Itm) (v : ByteArray) : Int := firstI (fun k => (it k).vr.toList == v.toList) n
theorem txt_eq {a b : ByteArray} (h : (a.toList == b.toList) = true) : a = b := by
  rw [Go.ByteArray.toList_eq, Go.ByteArray.toList_eq, beq_iff_eq] at h
  exact Go.WideShapes.bytes_inj h
theorem txt_ne {a b : ByteArray} (h : (a.toList == b.toList) = false) : a.data.toList ≠ b.data.toList := by
  rw [Go.ByteArray.toList_eq, Go.ByteArray.toList_eq, beq_eq_false_iff_ne] at h
  exact h
section
variable {n : Nat} {it : Nat → Itm} {v : ByteArray}
theorem itemI_zero : itemI 0 it v = -1 := firstI_none fun k hk => absurd hk (Nat.not_lt_zero _)
theorem itemI_old {j : Nat} (h : itemI n it v = j) : itemI (n + 1) it v = j := by
  rcases firstI_or (fun k => (it k).vr.toList == v.toList) n with ⟨e, _⟩ | ⟨i, hi, e, hp, hn⟩
  · have : itemI n it v = -1 := e
    rw [this] at h
    omega
  · have e : itemI n it v = i := e
    rw [h] at e
    have : j = i := by omega
    subst this
    exact firstI_hit (by omega) hp hn
theorem itemI_hit (h : itemI n it v = -1) (hv : ((it n).vr.toList == v.toList) = true) : itemI (n + 1) it v = n := by
  rcases firstI_or (fun k => (it k).vr.toList == v.toList) n with ⟨_, hn⟩ | ⟨i, hi, e, hp, hn⟩
  · exact firstI_hit (Nat.lt_succ_self _) hv hn
  · have e : itemI n it v = i := e
    rw [h] at e
    omega
theorem itemI_miss (h : itemI n it v = -1) (hv : ((it n).vr.toList == v.toList) = false) : itemI (n + 1) it v = -1 := by
  rcases firstI_or (fun k => (it k).vr.toList == v.toList) n with ⟨_, hn⟩ | ⟨i, hi, e, hp, hn⟩
  · exact firstI_none (none_step hn hv)
  · have e : itemI n it v = i := e
    rw [h] at e
    omega
theorem itemI_or (n : Nat) (it : Nat → Itm) (v : ByteArray) : itemI n it v = -1 ∨ ∃ j, j < n ∧ itemI n it v = j := by
  rcases firstI_or (fun k => (it k).vr.toList == v.toList) n with ⟨e, _⟩ | ⟨i, hi, e, _⟩
  · exact Or.inl e
  · exact Or.inr ⟨i, hi, e⟩
end
/-- What the map says of the first k items. -/
structure NmMap (it : Nat → Itm) (k : Nat) (D : DataW Unit) : Prop where
  isMap : IsMap D
  none : ∀ s : ByteArray, itemI k it s = -1 → Maps.has D (.string s.data.toList) = false
  some : ∀ (s : ByteArray) (j : Nat), itemI k it s = j → Maps.has D (.string s.data.toList) = true ∧ D.atKey (.string s.data.toList) (.lit (.int .i64 0)) = .lit (.int .i64 j)
theorem nm_zero (it : Nat → Itm) : NmMap it 0 (.map []) :=
  ⟨Maps.isMap_empty, fun _ _ => rfl, fun s j h => by rw [itemI_zero] at h; omega⟩
theorem nm_old {it : Nat → Itm} {k : Nat} {D : DataW Unit} (h : NmMap it k D) (hk : Maps.has D (.string (it k).vr.data.toList) = true) : NmMap it (k + 1) D := by
  have hne : itemI k it (it k).vr ≠ -1 := fun e => by rw [h.none _ e] at hk; cases hk
  refine ⟨h.isMap, fun s e => ?_, fun s j e => ?_⟩
  · rcases itemI_or k it s with e' | ⟨i, _, e'⟩
    · exact h.none s e'
    · rw [itemI_old e'] at e; omega
  · rcases itemI_or k it s with e' | ⟨i, _, e'⟩
    · cases hv : ((it k).vr.toList == s.toList)
      · rw [itemI_miss e' hv] at e; omega
      · rw [← txt_eq hv] at e'
        exact absurd e' hne
    · have := itemI_old e'
      rw [e] at this
      have hj : j = i := by omega
      subst hj
      exact h.some s j e'
theorem nm_new {it : Nat → Itm} {k : Nat} {D : DataW Unit} (h : NmMap it k D) (hk : Maps.has D (.string (it k).vr.data.toList) = false) : NmMap it (k + 1) (D.put (.string (it k).vr.data.toList) (.lit (.int .i64 k))) := by
  have hn1 : itemI k it (it k).vr = -1 := by
    rcases itemI_or k it (it k).vr with e | ⟨i, _, e⟩
    · exact e
    · rw [(h.some _ i e).1] at hk; cases hk
  have hkl : WideAt.IsKeyLit (.string (it k).vr.data.toList) := trivial
  refine ⟨h.isMap.put _ _, fun s e => ?_, fun s j e => ?_⟩
  · cases hv : ((it k).vr.toList == s.toList)
    · rw [Maps.has_put_other (by simpa using Ne.symm (txt_ne hv))]
      refine h.none s ?_
      rcases itemI_or k it s with e' | ⟨i, _, e'⟩
      · exact e'
      · rw [itemI_old e'] at e; omega
    · have := itemI_hit (n := k) (it := it) (v := s) (by rw [← txt_eq hv]; exact hn1) hv
      rw [e] at this
      omega
  · cases hv : ((it k).vr.toList == s.toList)
    · have hne : (Lit.string s.data.toList) ≠ .string (it k).vr.data.toList := by simpa using Ne.symm (txt_ne hv)
      rw [Maps.has_put_other hne, Maps.atKey_put_other hne]
      refine h.some s j ?_
      rcases itemI_or k it s with e' | ⟨i, _, e'⟩
      · rw [itemI_miss e' hv] at e; omega
      · rw [itemI_old e'] at e; rw [e', e]
    · have e2 := txt_eq hv
      subst e2
      rw [itemI_hit hn1 hv] at e
      have hj : k = j := by omega
      subst hj
      exact ⟨Maps.has_put_same h.isMap hkl _, Maps.atKey_put_same h.isMap hkl _ _⟩
theorem lawTxt : Keyed Tryd.prog 9 := Maps.string_keyed Tryd.underlying9
theorem lawInt : Keyed Tryd.prog 3 := Maps.int_keyed Tryd.underlying3
theorem zeroInt (w : World) : (zeroValue 3).run Tryd.prog w = .ok (.int .i64 0) w := by kernel_rfl
theorem run_makeMap_hint {P : Program} {t key elem : TypeId} (hu : P.underlying t = some (.map key elem)) (n : Int) (w : World) : (Instr.makeMap t (some (.int .i64 n))).run P w = .ok (.map (some w.heap.size)) (w.alloc (.map #[] 0)) := by
  simp [Instr.makeMap, run_underlying hu, asInt, asIntOf, Result.andThen]
/-- A map that block b is, keyed by names. -/
def NmOwn (w : World) (b k : Nat) (D : DataW Unit) : Prop := w.ownsMap Tryd.prog 9 (plainElem Tryd.prog 3) b k D
set_option maxRecDepth 100000 in
set_option maxHeartbeats 2000000 in
theorem byName_any (V : QryV) (Q : Qry) (w : World) (h : QryRd w w.heap.size V Q) (hwf : QryWf Q) :
    Calls Tryd.prog 56 #[.agg (qryArr V Q)] w fun e w' => ∃ b D, e = .returned (.map (some b)) ∧ Below w.heap.size w w' ∧ w.heap.size ≤ b ∧ NmOwn w' b Q.n D ∧ NmMap Q.it Q.n D := by
  obtain ⟨aI, cI, aW, cW, aR, cR⟩ := V
  show Calls _ _ #[.agg #[.slice aI Q.n cI, .int .i64 Q.mode, .int .i64 Q.after, .slice aW Q.wn cW, .int .i64 Q.within, .string Q.by_, .slice aR Q.m cR]] w _
  have hnI := h.rI.small
  have HB := bnew (Below.refl w.heap.size w) (.cells #[.slice aI Q.n cI, .int .i64 Q.mode, .int .i64 Q.after, .slice aW Q.wn cW, .int .i64 Q.within, .string Q.by_, .slice aR Q.m cR] 40)
  have B0 := Lib.hid (blk_new w #[.slice aI Q.n cI, .int .i64 Q.mode, .int .i64 Q.after, .slice aW Q.wn cW, .int .i64 Q.within, .string Q.by_, .slice aR Q.m cR] 40)
  have HT2 := Lib.hid (h.later HB)
  have HWF := Lib.hid hwf.it
  have hz2 : (w.alloc (.cells #[.slice aI Q.n cI, .int .i64 Q.mode, .int .i64 Q.after, .slice aW Q.wn cW, .int .i64 Q.within, .string Q.by_, .slice aR Q.m cR] 40)).heap.size = w.heap.size + 1 := by simp
  have hmm := @run_makeMap_hint Tryd.prog 81 _ _ Tryd.underlying81
  clear h hwf
  go_enter Tryd.func56, Tryd.ntmps56
  go_upto_region 1 with fail
  generalize w.alloc _ = w2 at *
  have x0 := blk_cell B0.out (j := 0) rfl
  have hs : w.heap.size < w2.heap.size := by omega
  have HM := Lib.hid (World.ownsMap_made w2 Tryd.prog 9 (plainElem (H := Unit) Tryd.prog 3))
  have hb3 := bnew (Below.refl w2.heap.size w2) (.map #[] 0)
  have B1 := Lib.hid (blk_alloc B0.out (.map #[] 0))
  clear hz2
  go_wp2_with fail
  generalize w2.alloc _ = w3 at *
  have hb23 := hb3.size
  have HZ := Lib.hid HM.out.lt
  go_loopw [15] (fun i wr => ∃ (k : Nat) (D : DataW Unit), k ≤ Q.n ∧ i = .int .i64 k ∧ Hid (NmOwn wr w2.heap.size k D) ∧ Hid (NmMap Q.it k D) ∧ Below w2.heap.size w2 wr) (fun i _ => Q.n - (intOf i).toNat)
  case atStart => exact ⟨0, _, Nat.zero_le _, rfl, HM, Lib.hid (nm_zero Q.it), hb3⟩
  case round =>
    obtain ⟨k, D, hk, rfl, HO, HD, hb⟩ := hrel
    obtain ⟨W1, e1⟩ : ∃ W1 : World, W1 = wr := ⟨_, rfl⟩
    subst e1
    by_cases hlt : k < Q.n
    · obtain ⟨b, off, eA, hbl, hcs⟩ := HT2.out.rI.spot (by omega)
      have eA : aI = _ := eA
      subst eA
      obtain ⟨d0, ⟨aa, ac, d1, _, _, hrow⟩, d2, d3, d4⟩ := hcs k hlt
      have g0 := (hb.cell (p := ⟨b, off + k * 5, none⟩) hbl).trans d0
      have g1 := (hb.cell (p := ⟨b, off + k * 5 + 1, none⟩) hbl).trans d1
      have g2 := (hb.cell (p := ⟨b, off + k * 5 + 2, none⟩) hbl).trans d2
      have g3 := (hb.cell (p := ⟨b, off + k * 5 + 3, none⟩) hbl).trans d3
      have g4 := (hb.cell (p := ⟨b, off + k * 5 + 4, none⟩) hbl).trans d4
      have hlen := (HWF.out k hlt).vr
      have HO4 : Hid ((W1.alloc (.cells #[.bool (Q.it k).neg, .slice aa (Q.it k).tn ac, .string (Q.it k).vr, .int .i64 (Q.it k).lo, .int .i64 (Q.it k).hi] 80)).ownsMap Tryd.prog 9 (plainElem (H := Unit) Tryd.prog 3) w2.heap.size k D) := Lib.hid (HO.out.alloc _)
      have I4 := Lib.hid (blk_new W1 #[.bool (Q.it k).neg, .slice aa (Q.it k).tn ac, .string (Q.it k).vr, .int .i64 (Q.it k).lo, .int .i64 (Q.it k).hi] 80)
      have hb4 := bnew hb (.cells #[.bool (Q.it k).neg, .slice aa (Q.it k).tn ac, .string (Q.it k).vr, .int .i64 (Q.it k).lo, .int .i64 (Q.it k).hi] 80)
      have hz4 : w2.heap.size ≤ (W1.alloc (.cells #[.bool (Q.it k).neg, .slice aa (Q.it k).tn ac, .string (Q.it k).vr, .int .i64 (Q.it k).lo, .int .i64 (Q.it k).hi] 80)).heap.size := hb4.size
      clear hcs d0 d1 d2 d3 d4 hrow
      go_upto_region 5 with fail
      generalize W1.alloc _ = w4 at *
      clear g0 g1 g2 g3 g4
      have t2 := blk_cell I4.out (j := 2) rfl
      cases hh : Maps.has D (.string (Q.it k).vr.data.toList)
      · have HE := Lib.hid (nm_new HD.out hh)
        go_wp2_with (first
          | (at_lookup; refine wpList_lookup_own_ok_int _ rfl _ _ 81 rfl 9 3 .i64 lawTxt Tryd.underlying81 Tryd.underlying3 (zeroInt _) w2.heap.size k D rfl HO4.out _ _ rfl (Go.WideMaps.keyOf_string_mk Tryd.underlying9 hlen) ?_; intro c hat hwc; rw [hh])
          | (at_mapUpdate; refine wpList_mapUpdate_own _ rfl _ _ _ 81 rfl 9 3 lawTxt Tryd.underlying81 _ w2.heap.size k _ rfl HO4.out (by unfold maxLen; omega) _ _ _ rfl rfl (Go.WideMaps.keyOf_string_mk Tryd.underlying9 hlen) _ [] (plainElem_int Tryd.underlying3 (WalkArith.wf_i64 (by omega))) ?_; intro w5 hown5 hgrow5))
        have hb5 := hb4.grown hgrow5 hz4 (fun j hj => by cases hj; exact Nat.le_refl _)
        go_roundw
        case rel => exact ⟨k + 1, _, by omega, by go_num, Lib.hid hown5, HE, hb5⟩
        case measure => simp [intOf]; omega
      · have HE := Lib.hid (nm_old HD.out hh)
        go_wp2_with (first
          | (at_lookup; refine wpList_lookup_own_ok_int _ rfl _ _ 81 rfl 9 3 .i64 lawTxt Tryd.underlying81 Tryd.underlying3 (zeroInt _) w2.heap.size k D rfl HO4.out _ _ rfl (Go.WideMaps.keyOf_string_mk Tryd.underlying9 hlen) ?_; intro c hat hwc; rw [hh]))
        go_roundw
        case rel => exact ⟨k + 1, _, by omega, by go_num, Lib.hid (HO4.out.mono (Nat.le_succ k)), HE, hb4⟩
        case measure => simp [intOf]; omega
    · obtain rfl : k = Q.n := by omega
      go_wp2_with fail
      go_ret
      exact ⟨_, D, rfl, bcall HB hb, Nat.le_of_lt hs, HO.out, HD.out⟩
end Go.Proofs.YtagcbljfaflhoaaDoor

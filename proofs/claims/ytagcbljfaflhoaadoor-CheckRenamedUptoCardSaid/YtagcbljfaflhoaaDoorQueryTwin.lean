/-
  A query's copy.
-/
import Derived.Test.YtagcbljfaflhoaaDoorQuery
import Derived.Test.YtagcbljfaflhoaaDoorRowSet
import Derived.Test.YtagcbljfaflhoaaDoorIntC
import Derived.Test.YtagcbljfaflhoaaDoorTwinTree6
import Derived.OwnWalk
import Derived.Handy
import Derived.Outline
import Derived.Deep.CutRange
set_option linter.unusedSimpArgs false
set_option linter.unusedVariables false
namespace Go.Proofs.YtagcbljfaflhoaaDoor
open Go.RowKit Go.ChangeShapes Go.WideShapes Go.ChangeAt Go.Deep Go.Joins
theorem infoTxt : (Tryd.prog.info? 9).map (fun i => (i.zero, i.size, i.bytes)) = some (some (.string .empty), 1, 16) := by kernel_rfl
theorem infoItm : (Tryd.prog.info? 80).map (fun i => (i.zero, i.size, i.bytes)) = some (some (.agg #[.bool false, .slice none 0 0, .string .empty, .int .i64 0, .int .i64 0]), 5, 64) := by kernel_rfl
theorem infoTree : (Tryd.prog.info? 22).map (fun i => (i.zero, i.size, i.bytes)) = some (some (.slice none 0 0), 1, 24) := by kernel_rfl
/-- The cells of texts. -/
def txtC (f : Nat → ByteArray) : Nat → Nat → Value := fun i _ => .string (f i)
set_option maxRecDepth 100000 in
theorem twinStrs_any (A : Option Addr) (n c : Nat) (f : Nat → ByteArray) (w : World) (hl : n ≤ c) (hA : A = none → c = 0) (h : TxtRd w w.heap.size A n f) :
    Calls Tryd.prog 52 #[.slice A n c] w fun e w' => ∃ v', e = .returned v' ∧ Below w.heap.size w w' ∧ w'.ownsRow w.heap.size 9 1 v' n (flat (txtC f) 1 n) := by
  obtain ⟨i0, hi0, hz0, hz1, hz2⟩ := info_parts infoTxt
  have HT := Lib.hid h
  have HA := Lib.hid hA
  clear h hA
  go_enter Tryd.func52, Tryd.ntmps52
  go_wp2_with (at_builtin; go_loud (refine wpList_append_copy _ rfl _ _ _ rfl 9 i0 _ 1 16 Tryd.underlying75 hi0 hz0 hz1 hz2 rfl (by omega) (by omega) rfl A n c w.heap.size (txtC f) rfl hl HA.out HT.out (fun _ _ _ _ => rfl) ?_; intro v' w1 hown hb))
  go_ret
  exact ⟨v', rfl, hb, hown⟩
/-- k copied items. -/
def TwI (wr : World) (B : Nat) (f : Nat → Itm) (k : Nat) (v : Value) : Prop :=
  ∃ rv : Nat → Value, wr.ownsRow B 80 5 v k (flat (fun j => itmCell (f j) (rv j)) 5 k) ∧ ∀ j, j < k → wr.ownsRow B 9 1 (rv j) (f j).tn (flat (txtC (f j).ty) 1 (f j).tn)
/-- k copied trees. -/
def TwT (wr : World) (B : Nat) (ln : Nat → Nat) (g : Nat → Nat → Nod) (k : Nat) (v : Value) : Prop :=
  ∃ rv : Nat → Value, wr.ownsRow B 22 1 v k (flat (fun j _ => rv j) 1 k) ∧ ∀ j, j < k → wr.ownsRow B 60 6 (rv j) (ln j) (flat (fun i => nodCell (g j i)) 6 (ln j))
section
variable {wr w' : World} {B k : Nat} {f : Nat → Itm} {v : Value} {ln : Nat → Nat} {g : Nat → Nat → Nod}
theorem TwI.below (h : TwI wr B f k v) (hb : Below wr.heap.size wr w') : TwI w' B f k v := by
  obtain ⟨rv, k1, k2⟩ := h
  exact ⟨rv, rowown_below k1 hb, fun j hj => rowown_below (k2 j hj) hb⟩
theorem TwT.below (h : TwT wr B ln g k v) (hb : Below wr.heap.size wr w') : TwT w' B ln g k v := by
  obtain ⟨rv, k1, k2⟩ := h
  exact ⟨rv, rowown_below k1 hb, fun j hj => rowown_below (k2 j hj) hb⟩
theorem TwI.set {b : Nat} {cs : Array Value} {T : TypeId} {fr : Nat × Nat} (h : TwI wr B f k v) (hb : wr.heap[b]? = some (.cells cs T fr)) (h1 : T ≠ 80) (h2 : T ≠ 9) (j : Nat) (u : Value) : TwI (wr.setCell ⟨b, j, none⟩ u) B f k v := by
  obtain ⟨rv, k1, k2⟩ := h
  exact ⟨rv, own_blk k1 hb h1 j u, fun i hi => own_blk (k2 i hi) hb h2 j u⟩
theorem TwT.set {b : Nat} {cs : Array Value} {T : TypeId} {fr : Nat × Nat} (h : TwT wr B ln g k v) (hb : wr.heap[b]? = some (.cells cs T fr)) (h1 : T ≠ 22) (h2 : T ≠ 60) (j : Nat) (u : Value) : TwT (wr.setCell ⟨b, j, none⟩ u) B ln g k v := by
  obtain ⟨rv, k1, k2⟩ := h
  exact ⟨rv, own_blk k1 hb h1 j u, fun i hi => own_blk (k2 i hi) hb h2 j u⟩
theorem TwI.row {b : Nat} {cs : Array Value} {T : TypeId} {fr : Nat × Nat} (h : TwI wr B f k v) (hb : wr.heap[b]? = some (.cells cs T fr)) (h1 : T ≠ 80) (h2 : T ≠ 9) (new : Array Value) : TwI (wr.setRow b new) B f k v := by
  obtain ⟨rv, k1, k2⟩ := h
  exact ⟨rv, own_row k1 hb h1 new, fun i hi => own_row (k2 i hi) hb h2 new⟩
theorem TwT.row {b : Nat} {cs : Array Value} {T : TypeId} {fr : Nat × Nat} (h : TwT wr B ln g k v) (hb : wr.heap[b]? = some (.cells cs T fr)) (h1 : T ≠ 22) (h2 : T ≠ 60) (new : Array Value) : TwT (wr.setRow b new) B ln g k v := by
  obtain ⟨rv, k1, k2⟩ := h
  exact ⟨rv, own_row k1 hb h1 new, fun i hi => own_row (k2 i hi) hb h2 new⟩
theorem TwI.rd {A : Option Addr} {c : Nat} (h : TwI wr B f k (.slice A k c)) (hn : k * 64 ≤ 140737488351232) (ht : ∀ j, j < k → (f j).tn * 16 ≤ 140737488351232) : ItmsRd wr wr.heap.size A k f := by
  obtain ⟨rv, k1, k2⟩ := h
  refine ⟨rv, rowown_rd k1 hn, fun j hj => ?_⟩
  obtain ⟨a, c, e, l, z⟩ := rowown_shape (k2 j hj)
  have h4 := k2 j hj
  rw [e] at h4
  exact ⟨a, c, e, l, z, rowown_rd h4 (ht j hj)⟩
theorem TwT.rd {A : Option Addr} {c : Nat} (h : TwT wr B ln g k (.slice A k c)) (hn : k * 24 ≤ 140737488351232) (ht : ∀ j, j < k → ln j * 64 ≤ 140737488351232) : TreesRd wr wr.heap.size A k ln g := by
  obtain ⟨rv, k1, k2⟩ := h
  refine ⟨rv, rowown_rd k1 hn, fun j hj => ?_⟩
  obtain ⟨a, c, e, l, z⟩ := rowown_shape (k2 j hj)
  have h4 := k2 j hj
  rw [e] at h4
  exact ⟨a, c, e, l, z, rowown_rd h4 (ht j hj)⟩
/-- One more item: its types are the call's own, the row was appended to. -/
theorem TwI.snoc {w8 w9 : World} {B' : Nat} {rv : Nat → Value} {tv : Value} {o : Obj} (h1 : w8.ownsRow B 80 5 v k (flat (fun j => itmCell (f j) (rv j)) 5 k)) (h2 : ∀ j, j < k → w8.ownsRow B 9 1 (rv j) (f j).tn (flat (txtC (f j).ty) 1 (f j).tn))
    (h3 : w8.ownsRow B' 9 1 tv (f k).tn (flat (txtC (f k).ty) 1 (f k).tn)) (hB : B ≤ B') (hg : (w8.alloc o).grownBy w9 v.ownBlock) {v' : Value} (h4 : w9.ownsRow B 80 5 v' (k + 1) (flat (fun j => itmCell (f j) (rv j)) 5 k ++ [.bool (f k).neg, tv, .string (f k).vr, .int .i64 (f k).lo, .int .i64 (f k).hi])) : TwI w9 B f (k + 1) v' := by
  have keep : ∀ {B' : Nat} {x : Value} {n : Nat} {xs : List Value}, w8.ownsRow B' 9 1 x n xs → w9.ownsRow B' 9 1 x n xs := fun h =>
    rowown_kept (h.alloc _) hg (fun g hg => rowown_type h1 h (by decide) hg)
  refine ⟨upd1 rv k tv, ?_, fun j hj => ?_⟩
  · have e : flat (fun j => itmCell (f j) (upd1 rv k tv j)) 5 (k + 1) = flat (fun j => itmCell (f j) (rv j)) 5 k ++ [.bool (f k).neg, tv, .string (f k).vr, .int .i64 (f k).lo, .int .i64 (f k).hi] := by
      have a1 : ∀ j, j < k → ∀ i, i < 5 → (fun j => itmCell (f j) (upd1 rv k tv j)) j i = (fun j => itmCell (f j) (rv j)) j i := fun j hj i _ => by simp only [upd1, if_neg (show ¬ j = k by omega)]
      rw [flat_succ, flat_congr a1]
      simp [upd1, List.range_succ, itmCell]
    rw [e]
    exact h4
  · by_cases ej : j = k
    · subst ej
      have : upd1 rv j tv j = tv := if_pos rfl
      rw [this]
      exact ownsRow_le (keep h3) hB
    · have : upd1 rv k tv j = rv j := if_neg ej
      rw [this]
      exact keep (h2 j (by omega))
theorem TwT.snoc {w8 w9 : World} {B' : Nat} {rv : Nat → Value} {tv : Value} {o : Obj} (h1 : w8.ownsRow B 22 1 v k (flat (fun j _ => rv j) 1 k)) (h2 : ∀ j, j < k → w8.ownsRow B 60 6 (rv j) (ln j) (flat (fun i => nodCell (g j i)) 6 (ln j)))
    (h3 : w8.ownsRow B' 60 6 tv (ln k) (flat (fun i => nodCell (g k i)) 6 (ln k))) (hB : B ≤ B') (hg : (w8.alloc o).grownBy w9 v.ownBlock) {v' : Value} (h4 : w9.ownsRow B 22 1 v' (k + 1) (flat (fun j _ => rv j) 1 k ++ [tv])) : TwT w9 B ln g (k + 1) v' := by
  have keep : ∀ {B' : Nat} {x : Value} {n : Nat} {xs : List Value}, w8.ownsRow B' 60 6 x n xs → w9.ownsRow B' 60 6 x n xs := fun h =>
    rowown_kept (h.alloc _) hg (fun g hg => rowown_type h1 h (by decide) hg)
  refine ⟨upd1 rv k tv, ?_, fun j hj => ?_⟩
  · have e : flat (fun j _ => upd1 rv k tv j) 1 (k + 1) = flat (fun j _ => rv j) 1 k ++ [tv] := by
      have a1 : ∀ j, j < k → ∀ i, i < 1 → (fun (j _ : Nat) => upd1 rv k tv j) j i = (fun (j _ : Nat) => rv j) j i := fun j hj i _ => if_neg (by omega)
      rw [flat_succ, flat_congr a1]
      simp [upd1]
    rw [e]
    exact h4
  · by_cases ej : j = k
    · subst ej
      have : upd1 rv j tv j = tv := if_pos rfl
      rw [this]
      exact ownsRow_le (keep h3) hB
    · have : upd1 rv k tv j = rv j := if_neg ej
      rw [this]
      exact keep (h2 j (by omega))
end
set_option maxRecDepth 100000 in
set_option maxHeartbeats 4000000 in
theorem twinQuery_any (V : QryV) (Q : Qry) (w : World) (h : QryRd w w.heap.size V Q) :
    Calls Tryd.prog 25 #[.agg (qryArr V Q)] w fun e w' => ∃ V', e = .returned (.agg (qryArr V' Q)) ∧ Below w.heap.size w w' ∧ QryRd w' w'.heap.size V' Q := by
  obtain ⟨aI, cI, aW, cW, aR, cR⟩ := V
  show Calls _ _ #[.agg #[.slice aI Q.n cI, .int .i64 Q.mode, .int .i64 Q.after, .slice aW Q.wn cW, .int .i64 Q.within, .string Q.by_, .slice aR Q.m cR]] w _
  obtain ⟨lI, zI, rI, lW, zW, rW, lR, zR, rR⟩ := h
  have lI : Q.n ≤ cI := lI
  have zI : aI = none → cI = 0 := zI
  have rI : ItmsRd w w.heap.size aI Q.n Q.it := rI
  have lW : Q.wn ≤ cW := lW
  have zW : aW = none → cW = 0 := zW
  have rW : NodRd w w.heap.size aW Q.wn Q.wh := rW
  have lR : Q.m ≤ cR := lR
  have rR : TreesRd w w.heap.size aR Q.m Q.ln Q.rt := rR
  have hnI := rI.small
  have hnW := rW.1
  have hnR := rR.small
  have b0 := blk_alloc (blk_alloc (blk_new w #[.slice aI Q.n cI, .int .i64 Q.mode, .int .i64 Q.after, .slice aW Q.wn cW, .int .i64 Q.within, .string Q.by_, .slice aR Q.m cR] 40) (.cells #[.slice none 0 0, .int .i64 0, .int .i64 0, .slice none 0 0, .int .i64 0, .string ⟨#[]⟩, .slice none 0 0] 40)) (.cells #[.slice none 0 0, .int .i64 Q.mode, .int .i64 Q.after, .slice aW Q.wn cW, .int .i64 Q.within, .string Q.by_, .slice aR Q.m cR] 40)
  have b1 := blk_alloc (blk_new (w.alloc (.cells #[.slice aI Q.n cI, .int .i64 Q.mode, .int .i64 Q.after, .slice aW Q.wn cW, .int .i64 Q.within, .string Q.by_, .slice aR Q.m cR] 40)) #[.slice none 0 0, .int .i64 0, .int .i64 0, .slice none 0 0, .int .i64 0, .string ⟨#[]⟩, .slice none 0 0] 40) (.cells #[.slice none 0 0, .int .i64 Q.mode, .int .i64 Q.after, .slice aW Q.wn cW, .int .i64 Q.within, .string Q.by_, .slice aR Q.m cR] 40)
  have b2 := blk_new ((w.alloc (.cells #[.slice aI Q.n cI, .int .i64 Q.mode, .int .i64 Q.after, .slice aW Q.wn cW, .int .i64 Q.within, .string Q.by_, .slice aR Q.m cR] 40)).alloc (.cells #[.slice none 0 0, .int .i64 0, .int .i64 0, .slice none 0 0, .int .i64 0, .string ⟨#[]⟩, .slice none 0 0] 40)) #[.slice none 0 0, .int .i64 Q.mode, .int .i64 Q.after, .slice aW Q.wn cW, .int .i64 Q.within, .string Q.by_, .slice aR Q.m cR] 40
  have hb4 := bnew (bnew (bnew (Below.refl w.heap.size w) (.cells #[.slice aI Q.n cI, .int .i64 Q.mode, .int .i64 Q.after, .slice aW Q.wn cW, .int .i64 Q.within, .string Q.by_, .slice aR Q.m cR] 40)) (.cells #[.slice none 0 0, .int .i64 0, .int .i64 0, .slice none 0 0, .int .i64 0, .string ⟨#[]⟩, .slice none 0 0] 40)) (.cells #[.slice none 0 0, .int .i64 Q.mode, .int .i64 Q.after, .slice aW Q.wn cW, .int .i64 Q.within, .string Q.by_, .slice aR Q.m cR] 40)
  have hz4 : (((w.alloc (.cells #[.slice aI Q.n cI, .int .i64 Q.mode, .int .i64 Q.after, .slice aW Q.wn cW, .int .i64 Q.within, .string Q.by_, .slice aR Q.m cR] 40)).alloc (.cells #[.slice none 0 0, .int .i64 0, .int .i64 0, .slice none 0 0, .int .i64 0, .string ⟨#[]⟩, .slice none 0 0] 40)).alloc (.cells #[.slice none 0 0, .int .i64 Q.mode, .int .i64 Q.after, .slice aW Q.wn cW, .int .i64 Q.within, .string Q.by_, .slice aR Q.m cR] 40)).heap.size = w.heap.size + 3 := by simp
  simp only [World.size_alloc] at b1 b2
  have Y0 := Lib.hid (blk_alloc (blk_new w #[.slice aI Q.n cI, .int .i64 Q.mode, .int .i64 Q.after, .slice aW Q.wn cW, .int .i64 Q.within, .string Q.by_, .slice aR Q.m cR] 40) (.cells #[.slice none 0 0, .int .i64 0, .int .i64 0, .slice none 0 0, .int .i64 0, .string ⟨#[]⟩, .slice none 0 0] 40))
  have C0 := Lib.hid b0
  have C1 := Lib.hid b1
  have C2 := Lib.hid b2
  have RI := Lib.hid rI
  have RW := Lib.hid rW
  have RR := Lib.hid rR
  have ZW := Lib.hid zW
  clear b0 b1 b2 rI rW rR zI zW zR
  have e2 : w.heap.size + 1 + 1 ≠ w.heap.size := by omega
  have e3 : w.heap.size + 1 + 1 ≠ w.heap.size + 1 := by omega
  obtain ⟨i1, hi1, hy0, hy1, hy2⟩ := info_parts infoItm
  obtain ⟨i2, hi2, hx0, hx1, hx2⟩ := info_parts infoTree
  go_enter Tryd.func25, Tryd.ntmps25
  go_wp2_with (refine wpList_load_row rfl 40 _ rfl w.heap.size rfl 40 _ (0, 0) _ Y0.out Tryd.underlying40 rfl (by kernel_rfl) ?_)
  generalize ((w.alloc _).alloc _).alloc _ = w4 at *
  obtain ⟨B, hB⟩ : ∃ B, B = w.heap.size + 3 := ⟨_, rfl⟩
  have hz4' : B ≤ w4.heap.size := by omega
  go_loopw [4] (fun i wr => ∃ (k : Nat) (ov : Value), k ≤ Q.n ∧ i = .int .i64 k ∧ Below w.heap.size w wr ∧ B ≤ wr.heap.size ∧ Hid (TwI wr B Q.it k ov) ∧
    Hid (wr.heap[w.heap.size]? = some (.cells #[.slice aI Q.n cI, .int .i64 Q.mode, .int .i64 Q.after, .slice aW Q.wn cW, .int .i64 Q.within, .string Q.by_, .slice aR Q.m cR] 40 (0, 0))) ∧
    Hid (wr.heap[w.heap.size + 1]? = some (.cells #[.slice none 0 0, .int .i64 0, .int .i64 0, .slice none 0 0, .int .i64 0, .string ⟨#[]⟩, .slice none 0 0] 40 (0, 0))) ∧
    Hid (wr.heap[w.heap.size + 1 + 1]? = some (.cells #[ov, .int .i64 Q.mode, .int .i64 Q.after, .slice aW Q.wn cW, .int .i64 Q.within, .string Q.by_, .slice aR Q.m cR] 40 (0, 0)))) (fun i _ => Q.n - (intOf i).toNat)
  case atStart => exact ⟨0, .slice none 0 0, Nat.zero_le _, rfl, hb4, hz4', Lib.hid ⟨fun _ => .slice none 0 0, by rw [flat_zero]; exact World.ownsRow_nil _ _ _ _, fun j hj => absurd hj (Nat.not_lt_zero _)⟩, C0, C1, C2⟩
  case round =>
    clear C0 C1 C2 Y0
    obtain ⟨k, ov, hk, rfl, hb, hz, HS, B0, B1, B2⟩ := hrel
    obtain ⟨W1, e1⟩ : ∃ W1 : World, W1 = wr := ⟨_, rfl⟩
    subst e1
    have x0 := blk_cell B0.out (j := 0) rfl
    by_cases hlt : k < Q.n
    · obtain ⟨b, off, eA, hbl, hcs⟩ := RI.out.spot (by omega)
      subst eA
      obtain ⟨d0, ⟨aa, ac, d1, hl2, hz2, hrow⟩, d2, d3, d4⟩ := hcs k hlt
      have g0 := (hb.cell (p := ⟨b, off + k * 5, none⟩) hbl).trans d0
      have g1 := (hb.cell (p := ⟨b, off + k * 5 + 1, none⟩) hbl).trans d1
      have g2 := (hb.cell (p := ⟨b, off + k * 5 + 2, none⟩) hbl).trans d2
      have g3 := (hb.cell (p := ⟨b, off + k * 5 + 3, none⟩) hbl).trans d3
      have g4 := (hb.cell (p := ⟨b, off + k * 5 + 4, none⟩) hbl).trans d4
      have htn := hrow.1
      have hb5' := bnew (Below.refl W1.heap.size W1) (.cells #[.bool (Q.it k).neg, .slice aa (Q.it k).tn ac, .string (Q.it k).vr, .int .i64 (Q.it k).lo, .int .i64 (Q.it k).hi] 80)
      have HZ2 := Lib.hid hz2
      have HR := Lib.hid (RowRd.more (RowRd.below (RowRd.below hrow hb) (hb5'.mono hb.size)) (Nat.le_trans hb.size hb5'.size))
      have I5 := Lib.hid (blk_new W1 #[.bool (Q.it k).neg, .slice aa (Q.it k).tn ac, .string (Q.it k).vr, .int .i64 (Q.it k).lo, .int .i64 (Q.it k).hi] 80)
      have V0 := Lib.hid (blk_alloc B0.out (.cells #[.bool (Q.it k).neg, .slice aa (Q.it k).tn ac, .string (Q.it k).vr, .int .i64 (Q.it k).lo, .int .i64 (Q.it k).hi] 80))
      have V1 := Lib.hid (blk_alloc B1.out (.cells #[.bool (Q.it k).neg, .slice aa (Q.it k).tn ac, .string (Q.it k).vr, .int .i64 (Q.it k).lo, .int .i64 (Q.it k).hi] 80))
      have V2 := Lib.hid (blk_alloc B2.out (.cells #[.bool (Q.it k).neg, .slice aa (Q.it k).tn ac, .string (Q.it k).vr, .int .i64 (Q.it k).lo, .int .i64 (Q.it k).hi] 80))
      obtain ⟨rv, hr1, hr2⟩ := HS.out
      have hne : ov.ownBlock ≠ some W1.heap.size := fun e => by have := (hr1.lt _ e).2; omega
      have hr1' := Lib.hid (rowown_below hr1 hb5')
      have hr2' := Lib.hid (fun j (hj : j < k) => rowown_below (hr2 j hj) hb5')
      have hb5 := bnew hb (.cells #[.bool (Q.it k).neg, .slice aa (Q.it k).tn ac, .string (Q.it k).vr, .int .i64 (Q.it k).lo, .int .i64 (Q.it k).hi] 80)
      have hz5 : (W1.alloc (.cells #[.bool (Q.it k).neg, .slice aa (Q.it k).tn ac, .string (Q.it k).vr, .int .i64 (Q.it k).lo, .int .i64 (Q.it k).hi] 80)).heap.size = W1.heap.size + 1 := by simp
      clear hcs d0 d1 d2 d3 d4 hrow hz2 hr1 hr2 HS
      go_upto_region 7 with fail
      generalize W1.alloc _ = w5 at *
      clear g0 g1 g2 g3 g4 x0
      have t1 := blk_cell I5.out (j := 1) rfl
      go_wp2_with fail
      refine (twinStrs_any aa (Q.it k).tn ac (Q.it k).ty _ hl2 HZ2.out HR.out).mono ?_
      rintro e w6 ⟨tv, rfl, hb6, hown6⟩
      obtain ⟨ta, tc, rfl, _⟩ := rowown_shape hown6
      have hz6 := hb6.size
      have I6 := blk_below I5.out hb6
      have p1 := blk_cell I6 (j := 1) rfl
      have q1 := blk_free I6 1
      have e5 : W1.heap.size ≠ w.heap.size := by omega
      have e6 : W1.heap.size ≠ w.heap.size + 1 := by omega
      have e7 : W1.heap.size ≠ w.heap.size + 1 + 1 := by omega
      have R0 := Lib.hid (blk_other (blk_below V0.out hb6) (p := ⟨W1.heap.size, 1, none⟩) e5 (.slice ta (Q.it k).tn tc))
      have R1 := Lib.hid (blk_other (blk_below V1.out hb6) (p := ⟨W1.heap.size, 1, none⟩) e6 (.slice ta (Q.it k).tn tc))
      have R2 := Lib.hid (blk_other (blk_below V2.out hb6) (p := ⟨W1.heap.size, 1, none⟩) e7 (.slice ta (Q.it k).tn tc))
      have I7 : Hid ((w6.setCell ⟨W1.heap.size, 1, none⟩ (.slice ta (Q.it k).tn tc)).heap[W1.heap.size]? = some (.cells #[.bool (Q.it k).neg, .slice ta (Q.it k).tn tc, .string (Q.it k).vr, .int .i64 (Q.it k).lo, .int .i64 (Q.it k).hi] 80 (0, 0))) := Lib.hid (blk_set I6 1 (.slice ta (Q.it k).tn tc))
      have HO7 := Lib.hid (own_blk hown6 I6 (by decide) 1 (.slice ta (Q.it k).tn tc))
      have HO1 := Lib.hid (rowown_far (g := W1.heap.size) (i := 1) (rowown_below hr1'.out hb6) hne (.slice ta (Q.it k).tn tc))
      have HO2 := Lib.hid (fun j (hj : j < k) => own_blk (rowown_below (hr2'.out j hj) hb6) I6 (by decide) 1 (.slice ta (Q.it k).tn tc))
      have hb7 := bset (bcall hb5 hb6) (p := ⟨W1.heap.size, 1, none⟩) (by have := hb.size; simp; omega) (.slice ta (Q.it k).tn tc)
      have hz7 : B ≤ (w6.setCell ⟨W1.heap.size, 1, none⟩ (.slice ta (Q.it k).tn tc)).heap.size := by simp; omega
      clear I6 hown6
      go_upto_region 8 with fail
      generalize w6.setCell _ _ = w7 at *
      clear p1 q1 t1
      have y0 := blk_cell R2.out (j := 0) rfl
      go_wp2_with (first | (refine wpList_load_row rfl 80 _ rfl W1.heap.size rfl 80 _ (0, 0) _ I7.out Tryd.underlying80 rfl (by kernel_rfl) ?_) | (at_builtin; go_loud (refine wpList_append_lies _ rfl _ _ _ rfl B 80 i1 _ 5 64 Tryd.underlying35 hi1 hy0 hy1 hy2 rfl (by omega) ov k (flat (fun j => itmCell (Q.it j) (rv j)) 5 k) rfl (HO1.out.alloc _) ⟨w7.heap.size, 0, none⟩ 1 1 [.bool (Q.it k).neg, .slice ta (Q.it k).tn tc, .string (Q.it k).vr, .int .i64 (Q.it k).lo, .int .i64 (Q.it k).hi] rfl rfl (World.news_of_block (cs := #[.bool (Q.it k).neg, .slice ta (Q.it k).tn tc, .string (Q.it k).vr, .int .i64 (Q.it k).lo, .int .i64 (Q.it k).hi]) (t := 80) (fr := (0, 0)) (heap_alloc_new w7 _)) (by simp [Value.oneCell']) (by omega) (by unfold maxLen; omega) (by omega) (by simp; omega) (w7.heap.size + 1) (by simp) ?_; intro gg gcap w9 hown9 hgrow hat hlt9; have S0 := Lib.hid (blk_grown (blk_alloc R0.out _) hgrow (rowown_ne HO1.out (show w.heap.size < B by omega))); have S1 := Lib.hid (blk_grown (blk_alloc R1.out _) hgrow (rowown_ne HO1.out (show w.heap.size + 1 < B by omega))); have S2 := Lib.hid (blk_grown (blk_alloc R2.out _) hgrow (rowown_ne HO1.out (show w.heap.size + 1 + 1 < B by omega))); have y09 := blk_cell S2.out (j := 0) rfl; have f09 := blk_free S2.out 0)))
      have hb9 := below_grown (bnew hb7 (.cells #[.bool (Q.it k).neg, .slice ta (Q.it k).tn tc, .string (Q.it k).vr, .int .i64 (Q.it k).lo, .int .i64 (Q.it k).hi] 80)) hgrow (by have := hb.size; simp; omega) (fun x hx => by have := (HO1.out.lt x hx).1; omega)
      have hs9 := hgrow.size
      have hbf := bset hb9 (p := ⟨w.heap.size + 1 + 1, 0, none⟩) (show w.heap.size ≤ w.heap.size + 1 + 1 by omega) (.slice (some ⟨gg, 0, none⟩) (k + 1) gcap)
      have HT9 := Lib.hid (TwI.set (TwI.snoc HO1.out HO2.out HO7.out (by omega) hgrow hown9) S2.out (by decide) (by decide) 0 (.slice (some ⟨gg, 0, none⟩) (k + 1) gcap))
      have D0 := Lib.hid (blk_other S0.out (p := ⟨w.heap.size + 1 + 1, 0, none⟩) e2 (.slice (some ⟨gg, 0, none⟩) (k + 1) gcap))
      have D1 := Lib.hid (blk_other S1.out (p := ⟨w.heap.size + 1 + 1, 0, none⟩) e3 (.slice (some ⟨gg, 0, none⟩) (k + 1) gcap))
      have D2 := Lib.hid (blk_set S2.out 0 (.slice (some ⟨gg, 0, none⟩) (k + 1) gcap))
      have hzf : B ≤ (w9.setCell ⟨w.heap.size + 1 + 1, 0, none⟩ (.slice (some ⟨gg, 0, none⟩) (k + 1) gcap)).heap.size := by simp at hs9 ⊢; omega
      go_roundw
      case rel =>
        exact ⟨k + 1, (.slice (some ⟨gg, 0, none⟩) (k + 1) gcap), by omega, by go_num, hbf, hzf, HT9, D0, D1, D2⟩
      case measure => simp [intOf]; omega
    · obtain rfl : k = Q.n := by omega
      obtain ⟨A0, c0, rfl⟩ : ∃ A0 c0, ov = .slice A0 Q.n c0 := by
        obtain ⟨_, h4, _⟩ := HS.out
        obtain ⟨A0, c0, e, _⟩ := rowown_shape h4
        exact ⟨A0, c0, e⟩
      have x3 := blk_cell B0.out (j := 3) rfl
      have HRW := Lib.hid (NodRd.below RW.out hb)
      go_wp2_with fail
      refine (twinTree6_any aW Q.wn cW Q.wh _ lW ZW.out (RowRd.more HRW.out hb.size)).mono ?_
      rintro e w6 ⟨tv, rfl, hb6, hown6⟩
      obtain ⟨A3, c3, rfl, _⟩ := rowown_shape hown6
      have hz6 := hb6.size
      have b2 := blk_below B2.out hb6
      have y3 := blk_cell b2 (j := 3) rfl
      have f3 := blk_free b2 3
      have b2' := blk_set b2 3 (.slice A3 Q.wn c3)
      have y6 := blk_cell b2' (j := 6) rfl
      have f6 := blk_free b2' 6
      have hb7 := bset (bset (bcall hb hb6) (p := ⟨w.heap.size + 1 + 1, 3, none⟩) (show w.heap.size ≤ w.heap.size + 1 + 1 by omega) (.slice A3 Q.wn c3)) (p := ⟨w.heap.size + 1 + 1, 6, none⟩) (show w.heap.size ≤ w.heap.size + 1 + 1 by omega) (.slice none 0 0)
      have C0 := Lib.hid (blk_other (blk_other (blk_below B0.out hb6) (p := ⟨w.heap.size + 1 + 1, 3, none⟩) e2 (.slice A3 Q.wn c3)) (p := ⟨w.heap.size + 1 + 1, 6, none⟩) e2 (.slice none 0 0))
      have C1 := Lib.hid (blk_other (blk_other (blk_below B1.out hb6) (p := ⟨w.heap.size + 1 + 1, 3, none⟩) e3 (.slice A3 Q.wn c3)) (p := ⟨w.heap.size + 1 + 1, 6, none⟩) e3 (.slice none 0 0))
      have C2 := Lib.hid (blk_set b2' 6 (.slice none 0 0))
      have HI := Lib.hid (((HS.out.below hb6).set b2 (by decide) (by decide) 3 (.slice A3 Q.wn c3)).set b2' (by decide) (by decide) 6 (.slice none 0 0))
      have HW := Lib.hid (own_blk (own_blk (ownsRow_le hown6 hz) b2 (by decide) 3 (.slice A3 Q.wn c3)) b2' (by decide) 6 (.slice none 0 0))
      have hz7 : B ≤ ((w6.setCell ⟨w.heap.size + 1 + 1, 3, none⟩ (.slice A3 Q.wn c3)).setCell ⟨w.heap.size + 1 + 1, 6, none⟩ (.slice none 0 0)).heap.size := by simp; omega
      clear b2 b2' hown6
      go_wp2_with fail
      generalize (w6.setCell ⟨w.heap.size + 1 + 1, 3, none⟩ (.slice A3 Q.wn c3)).setCell ⟨w.heap.size + 1 + 1, 6, none⟩ (.slice none 0 0) = w7 at *
      clear y3 f3 y6 f6 x0 x3 B0 B1 B2 HS
      go_loopw [6] (fun i wr => ∃ (k : Nat) (ov : Value), k ≤ Q.m ∧ i = .int .i64 k ∧ Below w.heap.size w wr ∧ B ≤ wr.heap.size ∧ Hid (TwI wr B Q.it Q.n (.slice A0 Q.n c0)) ∧ Hid (wr.ownsRow B 60 6 (.slice A3 Q.wn c3) Q.wn (flat (fun j => nodCell (Q.wh j)) 6 Q.wn)) ∧ Hid (TwT wr B Q.ln Q.rt k ov) ∧
        Hid (wr.heap[w.heap.size]? = some (.cells #[.slice aI Q.n cI, .int .i64 Q.mode, .int .i64 Q.after, .slice aW Q.wn cW, .int .i64 Q.within, .string Q.by_, .slice aR Q.m cR] 40 (0, 0))) ∧
        Hid (wr.heap[w.heap.size + 1]? = some (.cells #[.slice none 0 0, .int .i64 0, .int .i64 0, .slice none 0 0, .int .i64 0, .string ⟨#[]⟩, .slice none 0 0] 40 (0, 0))) ∧
        Hid (wr.heap[w.heap.size + 1 + 1]? = some (.cells #[.slice A0 Q.n c0, .int .i64 Q.mode, .int .i64 Q.after, .slice A3 Q.wn c3, .int .i64 Q.within, .string Q.by_, ov] 40 (0, 0)))) (fun i _ => Q.m - (intOf i).toNat)
      case atStart => exact ⟨0, .slice none 0 0, Nat.zero_le _, rfl, hb7, hz7, HI, HW, Lib.hid ⟨fun _ => .slice none 0 0, by rw [flat_zero]; exact World.ownsRow_nil _ _ _ _, fun j hj => absurd hj (Nat.not_lt_zero _)⟩, C0, C1, C2⟩
      case round =>
        clear C0 C1 C2 HI HW hb hz
        obtain ⟨k, ov, hk, rfl, hb, hz, HI, HW, HS, B0, B1, B2⟩ := hrel
        obtain ⟨W1, e1⟩ : ∃ W1 : World, W1 = wr := ⟨_, rfl⟩
        subst e1
        have x6 := blk_cell B0.out (j := 6) rfl
        by_cases hlt : k < Q.m
        · obtain ⟨b, off, eA, hbl, hcs⟩ := RR.out.spot (by omega)
          subst eA
          obtain ⟨aa, ac, d1, hl2, hz2, hrow⟩ := hcs k hlt
          have d2 := (hb.cell (p := ⟨b, off + k, none⟩) hbl).trans d1
          have hl8 := hrow.1
          have HZ2 := Lib.hid hz2
          have HR := Lib.hid (RowRd.more (NodRd.below hrow hb) hb.size)
          clear hcs d1 hrow hz2
          go_wp2_with fail
          refine (twinTree6_any aa (Q.ln k) ac (Q.rt k) _ hl2 HZ2.out HR.out).mono ?_
          rintro e w8 ⟨tv, rfl, hb8, hown8⟩
          obtain ⟨ta, tc, rfl, _⟩ := rowown_shape hown8
          obtain ⟨rv, hr1, hr2⟩ := HS.out.below hb8
          have b2 := blk_below B2.out hb8
          have y6 := blk_cell b2 (j := 6) rfl
          have hz8 := hb8.size
          have HO1 := Lib.hid hr1
          have HO2 := Lib.hid hr2
          have HO7 := Lib.hid hown8
          have HI8 := Lib.hid (HI.out.below hb8)
          have HW8 := Lib.hid (rowown_below HW.out hb8)
          have R0 := Lib.hid (blk_below B0.out hb8)
          have R1 := Lib.hid (blk_below B1.out hb8)
          have R2 := Lib.hid b2
          clear hr1 hr2 hown8 b2
          go_wp2_with (at_builtin; go_loud (refine wpList_append_lies _ rfl _ _ _ rfl B 22 i2 _ 1 24 Tryd.underlying38 hi2 hx0 hx1 hx2 rfl (by omega) ov k (flat (fun j _ => rv j) 1 k) rfl (HO1.out.alloc _) ⟨w8.heap.size, 0, none⟩ 1 1 [.slice ta (Q.ln k) tc] rfl rfl (World.news_of_block (cs := #[.slice ta (Q.ln k) tc]) (t := 22) (fr := (0, 0)) (heap_alloc_new w8 _)) (by simp [Value.oneCell']) (by omega) (by unfold maxLen; omega) (by omega) (by simp; omega) (w8.heap.size + 1) (by simp) ?_; intro gg gcap w9 hown9 hgrow hat hlt9; have S0 := Lib.hid (blk_grown (blk_alloc R0.out _) hgrow (rowown_ne HO1.out (show w.heap.size < B by omega))); have S1 := Lib.hid (blk_grown (blk_alloc R1.out _) hgrow (rowown_ne HO1.out (show w.heap.size + 1 < B by omega))); have S2 := Lib.hid (blk_grown (blk_alloc R2.out _) hgrow (rowown_ne HO1.out (show w.heap.size + 1 + 1 < B by omega))); have y69 := blk_cell S2.out (j := 6) rfl; have f69 := blk_free S2.out 6))
          have hb9 := below_grown (bnew (bcall hb hb8) (.cells #[.slice ta (Q.ln k) tc] 22)) hgrow (by have := hb.size; simp; omega) (fun x hx => by have := (HO1.out.lt x hx).1; omega)
          have hs9 := hgrow.size
          have hbf := bset hb9 (p := ⟨w.heap.size + 1 + 1, 6, none⟩) (show w.heap.size ≤ w.heap.size + 1 + 1 by omega) (.slice (some ⟨gg, 0, none⟩) (k + 1) gcap)
          have HT9 := Lib.hid (TwT.set (TwT.snoc HO1.out HO2.out HO7.out (by omega) hgrow hown9) S2.out (by decide) (by decide) 6 (.slice (some ⟨gg, 0, none⟩) (k + 1) gcap))
          have HI9 : Hid (TwI (w9.setCell ⟨w.heap.size + 1 + 1, 6, none⟩ (.slice (some ⟨gg, 0, none⟩) (k + 1) gcap)) B Q.it Q.n (.slice A0 Q.n c0)) := Lib.hid (by
            obtain ⟨rv2, i1', i2'⟩ := HI8.out
            exact TwI.set ⟨rv2, rowown_kept (i1'.alloc _) hgrow (fun g hg => rowown_type HO1.out i1' (by decide) hg), fun j hj => rowown_kept ((i2' j hj).alloc _) hgrow (fun g hg => rowown_type HO1.out (i2' j hj) (by decide) hg)⟩ S2.out (by decide) (by decide) 6 _)
          have HW9 := Lib.hid (own_blk (rowown_kept (HW8.out.alloc _) hgrow (fun g hg => rowown_type HO1.out HW8.out (by decide) hg)) S2.out (by decide) 6 (.slice (some ⟨gg, 0, none⟩) (k + 1) gcap))
          have D0 := Lib.hid (blk_other S0.out (p := ⟨w.heap.size + 1 + 1, 6, none⟩) e2 (.slice (some ⟨gg, 0, none⟩) (k + 1) gcap))
          have D1 := Lib.hid (blk_other S1.out (p := ⟨w.heap.size + 1 + 1, 6, none⟩) e3 (.slice (some ⟨gg, 0, none⟩) (k + 1) gcap))
          have D2 := Lib.hid (blk_set S2.out 6 (.slice (some ⟨gg, 0, none⟩) (k + 1) gcap))
          have hzf : B ≤ (w9.setCell ⟨w.heap.size + 1 + 1, 6, none⟩ (.slice (some ⟨gg, 0, none⟩) (k + 1) gcap)).heap.size := by simp at hs9 ⊢; omega
          go_roundw
          case rel => exact ⟨k + 1, (.slice (some ⟨gg, 0, none⟩) (k + 1) gcap), by omega, by go_num, hbf, hzf, HI9, HW9, HT9, D0, D1, D2⟩
          case measure => simp [intOf]; omega
        · obtain rfl : k = Q.m := by omega
          obtain ⟨A6, c6, rfl, l6, z6⟩ : ∃ A6 c6, ov = .slice A6 Q.m c6 ∧ Q.m ≤ c6 ∧ (A6 = none → c6 = 0) := by
            obtain ⟨_, h4, _⟩ := HS.out
            exact rowown_shape h4
          have hz0' : ∃ v0 : QryV, v0 = ⟨A0, c0, A3, c3, A6, c6⟩ := ⟨_, rfl⟩
          have HF : Hid (QryRd (W1.setRow (w.heap.size + 1) #[.slice A0 Q.n c0, .int .i64 Q.mode, .int .i64 Q.after, .slice A3 Q.wn c3, .int .i64 Q.within, .string Q.by_, .slice A6 Q.m c6]) (W1.setRow (w.heap.size + 1) #[.slice A0 Q.n c0, .int .i64 Q.mode, .int .i64 Q.after, .slice A3 Q.wn c3, .int .i64 Q.within, .string Q.by_, .slice A6 Q.m c6]).heap.size ⟨A0, c0, A3, c3, A6, c6⟩ Q) := Lib.hid (by
            have q1 := TwI.row HI.out B1.out (by decide) (by decide) #[.slice A0 Q.n c0, .int .i64 Q.mode, .int .i64 Q.after, .slice A3 Q.wn c3, .int .i64 Q.within, .string Q.by_, .slice A6 Q.m c6]
            have q2 := own_row HW.out B1.out (by decide) #[.slice A0 Q.n c0, .int .i64 Q.mode, .int .i64 Q.after, .slice A3 Q.wn c3, .int .i64 Q.within, .string Q.by_, .slice A6 Q.m c6]
            have q3 := TwT.row HS.out B1.out (by decide) (by decide) #[.slice A0 Q.n c0, .int .i64 Q.mode, .int .i64 Q.after, .slice A3 Q.wn c3, .int .i64 Q.within, .string Q.by_, .slice A6 Q.m c6]
            obtain ⟨_, hI4, _⟩ := HI.out
            obtain ⟨Ax, cx, ex, lx, zx⟩ := rowown_shape hI4
            injection ex with ex _ ey
            subst ex ey
            obtain ⟨Ay, cy, ey, ly, zy⟩ := rowown_shape HW.out
            injection ey with ey _ ez
            subst ey ez
            refine ⟨lx, zx, q1.rd (by have := RI.out; obtain ⟨_, h, _⟩ := this; exact h.1) (fun j hj => ?_), ly, zy, rowown_rd q2 hnW, l6, z6, q3.rd (by have := RR.out; obtain ⟨_, h, _⟩ := this; exact h.1) (fun j hj => ?_)⟩
            · obtain ⟨_, _, h⟩ := RI.out
              obtain ⟨_, _, _, _, _, r⟩ := h j hj
              exact r.1
            · obtain ⟨_, _, h⟩ := RR.out
              obtain ⟨_, _, _, _, _, r⟩ := h j hj
              exact r.1)
          have BF := Lib.hid (row_set B1.out #[.slice A0 Q.n c0, .int .i64 Q.mode, .int .i64 Q.after, .slice A3 Q.wn c3, .int .i64 Q.within, .string Q.by_, .slice A6 Q.m c6])
          have hbf := below_setRow (cs := #[.slice A0 Q.n c0, .int .i64 Q.mode, .int .i64 Q.after, .slice A3 Q.wn c3, .int .i64 Q.within, .string Q.by_, .slice A6 Q.m c6]) hb (Nat.le_succ w.heap.size)
          go_wp2_with (first | (refine wpList_load_row rfl 40 _ rfl (w.heap.size + 1 + 1) rfl 40 _ (0, 0) _ B2.out Tryd.underlying40 rfl (by kernel_rfl) ?_) | (refine wpList_store_row rfl 40 _ _ rfl (w.heap.size + 1) #[.slice A0 Q.n c0, .int .i64 Q.mode, .int .i64 Q.after, .slice A3 Q.wn c3, .int .i64 Q.within, .string Q.by_, .slice A6 Q.m c6] rfl rfl 40 _ B1.out (by kernel_rfl) rfl (by simp [Value.oneCell']) ?_))
          (try simp only [Exit.inBlock, Exit.then])
          generalize W1.setRow (w.heap.size + 1) #[.slice A0 Q.n c0, .int .i64 Q.mode, .int .i64 Q.after, .slice A3 Q.wn c3, .int .i64 Q.within, .string Q.by_, .slice A6 Q.m c6] = wf at *
          refine bodyPost_ret (v := .agg #[.slice A0 Q.n c0, .int .i64 Q.mode, .int .i64 Q.after, .slice A3 Q.wn c3, .int .i64 Q.within, .string Q.by_, .slice A6 Q.m c6]) ?_ rfl ?_
          · exact results_cell_row Tryd.results25 _ _ (w.heap.size + 1) 40 _ (0, 0) _ rfl BF.out Tryd.underlying40 rfl (by kernel_rfl)
          · exact ⟨⟨A0, c0, A3, c3, A6, c6⟩, rfl, hbf, HF.out⟩
end Go.Proofs.YtagcbljfaflhoaaDoor

/-
  Several texts in one: QTwin5, QSame5, Spoil5, TabCells, ShowPrintsWalk.
-/
import Derived.Test.YtfcdkadblagijaaDoorQuery
import Derived.Test.YtfcdkadblagijaaDoorRowSet
import Derived.Test.YtfcdkadblagijaaDoorIntC
import Derived.Test.YtfcdkadblagijaaDoorShowTreesWalk
import Derived.Test.YtfcdkadblagijaaDoorWriter2
import Derived.OwnWalk
import Derived.Handy
import Derived.Deep.RegionLaw
import Derived.Deep.AppendLies
import Derived.Deep.CutRange
import Derived.Test.YtfcdkadblagijaaDoorBeyond
import Derived.Test.YtfcdkadblagijaaDoorTreeSame5
import Derived.Deep.RegionHeld3
import Derived.Test.YtfcdkadblagijaaDoorKit
import Derived.Test.YtfcdkadblagijaaDoorRefPrint5
import Derived.Test.YtfcdkadblagijaaDoorShowExprsWalk
set_option linter.unusedSimpArgs false
set_option linter.unusedVariables false
/-! ### A query's copy, by the law of layer 5. -/
namespace Go.Proofs.YtfcdkadblagijaaDoor
open Go.RowKit Go.ChangeShapes Go.WideShapes Go.ChangeAt Go.Deep Go.Joins
theorem infoTxt : (Tryd.prog.info? 9).map (fun i => (i.zero, i.size, i.bytes)) = some (some (.string .empty), 1, 16) := by kernel_rfl
theorem infoItm : (Tryd.prog.info? 41).map (fun i => (i.zero, i.size, i.bytes)) = some (some (.agg #[.bool false, .slice none 0 0, .string .empty, .int .i64 0, .int .i64 0]), 5, 64) := by kernel_rfl
theorem infoTree : (Tryd.prog.info? 22).map (fun i => (i.zero, i.size, i.bytes)) = some (some (.slice none 0 0), 1, 24) := by kernel_rfl
/-- The cells of texts. -/
def txtC (f : Nat → ByteArray) : Nat → Nat → Value := fun i _ => .string (f i)
/-- k copied items. -/
def TwI (wr : World) (B : Nat) (f : Nat → Itm) (k : Nat) (v : Value) : Prop :=
  ∃ rv : Nat → Value, wr.ownsRow B 41 5 v k (flat (fun j => itmCell (f j) (rv j)) 5 k) ∧ ∀ j, j < k → wr.ownsRow B 9 1 (rv j) (f j).tn (flat (txtC (f j).ty) 1 (f j).tn)
/-- k copied trees. -/
def TwT (wr : World) (B : Nat) (ln : Nat → Nat) (g : Nat → Nat → Nod) (k : Nat) (v : Value) : Prop :=
  ∃ rv : Nat → Value, wr.ownsRow B 22 1 v k (flat (fun j _ => rv j) 1 k) ∧ ∀ j, j < k → wr.ownsRow B 44 6 (rv j) (ln j) (flat (fun i => nodCell (g j i)) 6 (ln j))
section
variable {wr w' : World} {B k : Nat} {f : Nat → Itm} {v : Value} {ln : Nat → Nat} {g : Nat → Nat → Nod}
theorem TwI.below (h : TwI wr B f k v) (hb : Below wr.heap.size wr w') : TwI w' B f k v := by
  obtain ⟨rv, k1, k2⟩ := h
  exact ⟨rv, rowown_below k1 hb, fun j hj => rowown_below (k2 j hj) hb⟩
theorem TwT.below (h : TwT wr B ln g k v) (hb : Below wr.heap.size wr w') : TwT w' B ln g k v := by
  obtain ⟨rv, k1, k2⟩ := h
  exact ⟨rv, rowown_below k1 hb, fun j hj => rowown_below (k2 j hj) hb⟩
theorem TwI.set {b : Nat} {cs : Array Value} {T : TypeId} {fr : Nat × Nat} (h : TwI wr B f k v) (hb : wr.heap[b]? = some (.cells cs T fr)) (h1 : T ≠ 41) (h2 : T ≠ 9) (j : Nat) (u : Value) : TwI (wr.setCell ⟨b, j, none⟩ u) B f k v := by
  obtain ⟨rv, k1, k2⟩ := h
  exact ⟨rv, own_blk k1 hb h1 j u, fun i hi => own_blk (k2 i hi) hb h2 j u⟩
theorem TwT.set {b : Nat} {cs : Array Value} {T : TypeId} {fr : Nat × Nat} (h : TwT wr B ln g k v) (hb : wr.heap[b]? = some (.cells cs T fr)) (h1 : T ≠ 22) (h2 : T ≠ 44) (j : Nat) (u : Value) : TwT (wr.setCell ⟨b, j, none⟩ u) B ln g k v := by
  obtain ⟨rv, k1, k2⟩ := h
  exact ⟨rv, own_blk k1 hb h1 j u, fun i hi => own_blk (k2 i hi) hb h2 j u⟩
theorem TwI.row {b : Nat} {cs : Array Value} {T : TypeId} {fr : Nat × Nat} (h : TwI wr B f k v) (hb : wr.heap[b]? = some (.cells cs T fr)) (h1 : T ≠ 41) (h2 : T ≠ 9) (new : Array Value) : TwI (wr.setRow b new) B f k v := by
  obtain ⟨rv, k1, k2⟩ := h
  exact ⟨rv, own_row k1 hb h1 new, fun i hi => own_row (k2 i hi) hb h2 new⟩
theorem TwT.row {b : Nat} {cs : Array Value} {T : TypeId} {fr : Nat × Nat} (h : TwT wr B ln g k v) (hb : wr.heap[b]? = some (.cells cs T fr)) (h1 : T ≠ 22) (h2 : T ≠ 44) (new : Array Value) : TwT (wr.setRow b new) B ln g k v := by
  obtain ⟨rv, k1, k2⟩ := h
  exact ⟨rv, own_row k1 hb h1 new, fun i hi => own_row (k2 i hi) hb h2 new⟩
theorem TwI.rd {A : Option Addr} {c : Nat} (h : TwI wr B f k (.slice A k c)) (hn : k * 64 ≤ 140737488351232) (ht : ∀ j, j < k → (f j).tn * 16 ≤ 140737488351232) : ItmsRd wr wr.heap.size A k f := by
  obtain ⟨rv, k1, k2⟩ := h
  refine ⟨rv, rowown_rd k1 hn, fun j hj => ?_⟩
  obtain ⟨a, c, e, l, z⟩ := rowown_shape (k2 j hj)
  have h4 := k2 j hj
  rw [e] at h4
  exact ⟨a, c, e, l, z, rowown_rd h4 (ht j hj)⟩
theorem TwT.rd {A : Option Addr} {c : Nat} (h : TwT wr B ln g k (.slice A k c)) (hn : k * 24 ≤ 140737488351232) (ht : ∀ j, j < k → ln j * 64 ≤ 140737488351232) : TreesRd wr wr.heap.size A k ln g := by
  obtain ⟨rv, k1, k2⟩ := h
  refine ⟨rv, rowown_rd k1 hn, fun j hj => ?_⟩
  obtain ⟨a, c, e, l, z⟩ := rowown_shape (k2 j hj)
  have h4 := k2 j hj
  rw [e] at h4
  exact ⟨a, c, e, l, z, rowown_rd h4 (ht j hj)⟩
/-- One more item: its types are the call's own, the row was appended to. -/
theorem TwI.snoc {w8 w9 : World} {B' : Nat} {rv : Nat → Value} {tv : Value} {o : Obj} (h1 : w8.ownsRow B 41 5 v k (flat (fun j => itmCell (f j) (rv j)) 5 k)) (h2 : ∀ j, j < k → w8.ownsRow B 9 1 (rv j) (f j).tn (flat (txtC (f j).ty) 1 (f j).tn))
    (h3 : w8.ownsRow B' 9 1 tv (f k).tn (flat (txtC (f k).ty) 1 (f k).tn)) (hB : B ≤ B') (hg : (w8.alloc o).grownBy w9 v.ownBlock) {v' : Value} (h4 : w9.ownsRow B 41 5 v' (k + 1) (flat (fun j => itmCell (f j) (rv j)) 5 k ++ [.bool (f k).neg, tv, .string (f k).vr, .int .i64 (f k).lo, .int .i64 (f k).hi])) : TwI w9 B f (k + 1) v' := by
  have keep : ∀ {B' : Nat} {x : Value} {n : Nat} {xs : List Value}, w8.ownsRow B' 9 1 x n xs → w9.ownsRow B' 9 1 x n xs := fun h =>
    rowown_kept (h.alloc _) hg (fun g hg => rowown_type h1 h (by decide) hg)
  refine ⟨upd1 rv k tv, ?_, fun j hj => ?_⟩
  · have e : flat (fun j => itmCell (f j) (upd1 rv k tv j)) 5 (k + 1) = flat (fun j => itmCell (f j) (rv j)) 5 k ++ [.bool (f k).neg, tv, .string (f k).vr, .int .i64 (f k).lo, .int .i64 (f k).hi] := by
      have a1 : ∀ j, j < k → ∀ i, i < 5 → (fun j => itmCell (f j) (upd1 rv k tv j)) j i = (fun j => itmCell (f j) (rv j)) j i := fun j hj i _ => by simp only [upd1, if_neg (show ¬ j = k by omega)]
      rw [flat_succ, flat_congr a1]
      simp [upd1, List.range_succ, itmCell]
    rw [e]
    exact h4
  · by_cases ej : j = k
    · subst ej
      have : upd1 rv j tv j = tv := if_pos rfl
      rw [this]
      exact ownsRow_le (keep h3) hB
    · have : upd1 rv k tv j = rv j := if_neg ej
      rw [this]
      exact keep (h2 j (by omega))
theorem TwT.snoc {w8 w9 : World} {B' : Nat} {rv : Nat → Value} {tv : Value} {o : Obj} (h1 : w8.ownsRow B 22 1 v k (flat (fun j _ => rv j) 1 k)) (h2 : ∀ j, j < k → w8.ownsRow B 44 6 (rv j) (ln j) (flat (fun i => nodCell (g j i)) 6 (ln j)))
    (h3 : w8.ownsRow B' 44 6 tv (ln k) (flat (fun i => nodCell (g k i)) 6 (ln k))) (hB : B ≤ B') (hg : (w8.alloc o).grownBy w9 v.ownBlock) {v' : Value} (h4 : w9.ownsRow B 22 1 v' (k + 1) (flat (fun j _ => rv j) 1 k ++ [tv])) : TwT w9 B ln g (k + 1) v' := by
  have keep : ∀ {B' : Nat} {x : Value} {n : Nat} {xs : List Value}, w8.ownsRow B' 44 6 x n xs → w9.ownsRow B' 44 6 x n xs := fun h =>
    rowown_kept (h.alloc _) hg (fun g hg => rowown_type h1 h (by decide) hg)
  refine ⟨upd1 rv k tv, ?_, fun j hj => ?_⟩
  · have e : flat (fun j _ => upd1 rv k tv j) 1 (k + 1) = flat (fun j _ => rv j) 1 k ++ [tv] := by
      have a1 : ∀ j, j < k → ∀ i, i < 1 → (fun (j _ : Nat) => upd1 rv k tv j) j i = (fun (j _ : Nat) => rv j) j i := fun j hj i _ => if_neg (by omega)
      rw [flat_succ, flat_congr a1]
      simp [upd1]
    rw [e]
    exact h4
  · by_cases ej : j = k
    · subst ej
      have : upd1 rv j tv j = tv := if_pos rfl
      rw [this]
      exact ownsRow_le (keep h3) hB
    · have : upd1 rv k tv j = rv j := if_neg ej
      rw [this]
      exact keep (h2 j (by omega))
end
/-- What a query of the call's own is. -/
structure QryOwn (w : World) (B : Nat) (V : QryV) (Q : Qry) : Prop where
  I : TwI w B Q.it Q.n (.slice V.aI Q.n V.cI)
  W : w.ownsRow B 44 6 (.slice V.aW Q.wn V.cW) Q.wn (flat (fun j => nodCell (Q.wh j)) 6 Q.wn)
  R : TwT w B Q.ln Q.rt Q.m (.slice V.aR Q.m V.cR)
theorem QryOwn.below {w w' : World} {B : Nat} {V : QryV} {Q : Qry} (h : QryOwn w B V Q) (hb : Below w.heap.size w w') : QryOwn w' B V Q := ⟨h.I.below hb, rowown_below h.W hb, h.R.below hb⟩
/-- How large a query may be. -/
structure QrySm (Q : Qry) : Prop where
  n : Q.n * 64 ≤ 140737488351232
  tn : ∀ j, j < Q.n → (Q.it j).tn * 16 ≤ 140737488351232
  wn : Q.wn * 64 ≤ 140737488351232
  m : Q.m * 24 ≤ 140737488351232
  ln : ∀ j, j < Q.m → Q.ln j * 64 ≤ 140737488351232
theorem QryRd.sm {w : World} {B : Nat} {V : QryV} {Q : Qry} (h : QryRd w B V Q) : QrySm Q := by
  obtain ⟨_, i1, i2⟩ := h.rI
  obtain ⟨_, r1, r2⟩ := h.rR
  refine ⟨i1.1, fun j hj => ?_, h.rW.1, r1.1, fun j hj => ?_⟩
  · obtain ⟨_, _, _, _, _, r⟩ := i2 j hj
    exact r.1
  · obtain ⟨_, _, _, _, _, r⟩ := r2 j hj
    exact r.1
theorem QryOwn.rd {w : World} {B : Nat} {V : QryV} {Q : Qry} (h : QryOwn w B V Q) (hs : QrySm Q) : QryRd w w.heap.size V Q := by
  obtain ⟨rv, hI4, hI5⟩ := h.I
  obtain ⟨Ax, cx, ex, lx, zx⟩ := rowown_shape hI4
  injection ex with ex _ ey
  obtain ⟨Ay, cy, ey', ly, zy⟩ := rowown_shape h.W
  injection ey' with ey1 _ ey2
  obtain ⟨rt, hR4, hR5⟩ := h.R
  obtain ⟨Az, cz, ez, lz, zz⟩ := rowown_shape hR4
  injection ez with ez1 _ ez2
  exact ⟨by rw [ey]; exact lx, by rw [ex, ey]; exact zx, h.I.rd hs.n hs.tn, by rw [ey2]; exact ly, by rw [ey1, ey2]; exact zy, rowown_rd h.W hs.wn, by rw [ez2]; exact lz, by rw [ez1, ez2]; exact zz, h.R.rd hs.m hs.ln⟩
theorem txt_succ (f : Nat → ByteArray) (m : Nat) : flat (txtC f) 1 (m + 1) = flat (txtC f) 1 m ++ [.string (f m)] := by rw [flat_succ]; rfl
set_option maxRecDepth 100000 in
set_option maxHeartbeats 8000000 in
theorem twin5_any (V : QryV) (Q : Qry) (w : World) (h : QryRd w w.heap.size V Q) :
    Calls Tryd.prog 14 #[.agg (qryArr V Q)] w fun e w' => ∃ V', e = .returned (.agg (qryArr V' Q)) ∧ Below w.heap.size w w' ∧ QryOwn w' w.heap.size V' Q := by
  obtain ⟨aI, cI, aW, cW, aR, cR⟩ := V
  show Calls _ _ #[.agg #[.slice aI Q.n cI, .int .i64 Q.mode, .int .i64 Q.after, .slice aW Q.wn cW, .int .i64 Q.within, .string Q.by_, .slice aR Q.m cR]] w _
  obtain ⟨lI, zI, rI, lW, zW, rW, lR, zR, rR⟩ := h
  have rI : ItmsRd w w.heap.size aI Q.n Q.it := rI
  have lW : Q.wn ≤ cW := lW
  have zW : aW = none → cW = 0 := zW
  have rW : NodRd w w.heap.size aW Q.wn Q.wh := rW
  have rR : TreesRd w w.heap.size aR Q.m Q.ln Q.rt := rR
  have hnI := rI.small
  have hnW := rW.1
  have hnR := rR.small
  have b0 := blk_alloc (blk_alloc (blk_new w #[.slice aI Q.n cI, .int .i64 Q.mode, .int .i64 Q.after, .slice aW Q.wn cW, .int .i64 Q.within, .string Q.by_, .slice aR Q.m cR] 34) (.cells #[.slice none 0 0, .int .i64 0, .int .i64 0, .slice none 0 0, .int .i64 0, .string ⟨#[]⟩, .slice none 0 0] 34)) (.cells #[.slice none 0 0, .int .i64 Q.mode, .int .i64 Q.after, .slice none 0 0, .int .i64 Q.within, .string Q.by_, .slice none 0 0] 34)
  have b1 := blk_alloc (blk_new (w.alloc (.cells #[.slice aI Q.n cI, .int .i64 Q.mode, .int .i64 Q.after, .slice aW Q.wn cW, .int .i64 Q.within, .string Q.by_, .slice aR Q.m cR] 34)) #[.slice none 0 0, .int .i64 0, .int .i64 0, .slice none 0 0, .int .i64 0, .string ⟨#[]⟩, .slice none 0 0] 34) (.cells #[.slice none 0 0, .int .i64 Q.mode, .int .i64 Q.after, .slice none 0 0, .int .i64 Q.within, .string Q.by_, .slice none 0 0] 34)
  have b2 := blk_new ((w.alloc (.cells #[.slice aI Q.n cI, .int .i64 Q.mode, .int .i64 Q.after, .slice aW Q.wn cW, .int .i64 Q.within, .string Q.by_, .slice aR Q.m cR] 34)).alloc (.cells #[.slice none 0 0, .int .i64 0, .int .i64 0, .slice none 0 0, .int .i64 0, .string ⟨#[]⟩, .slice none 0 0] 34)) #[.slice none 0 0, .int .i64 Q.mode, .int .i64 Q.after, .slice none 0 0, .int .i64 Q.within, .string Q.by_, .slice none 0 0] 34
  have hb4 := bnew (bnew (bnew (Below.refl w.heap.size w) (.cells #[.slice aI Q.n cI, .int .i64 Q.mode, .int .i64 Q.after, .slice aW Q.wn cW, .int .i64 Q.within, .string Q.by_, .slice aR Q.m cR] 34)) (.cells #[.slice none 0 0, .int .i64 0, .int .i64 0, .slice none 0 0, .int .i64 0, .string ⟨#[]⟩, .slice none 0 0] 34)) (.cells #[.slice none 0 0, .int .i64 Q.mode, .int .i64 Q.after, .slice none 0 0, .int .i64 Q.within, .string Q.by_, .slice none 0 0] 34)
  have hz4 : (((w.alloc (.cells #[.slice aI Q.n cI, .int .i64 Q.mode, .int .i64 Q.after, .slice aW Q.wn cW, .int .i64 Q.within, .string Q.by_, .slice aR Q.m cR] 34)).alloc (.cells #[.slice none 0 0, .int .i64 0, .int .i64 0, .slice none 0 0, .int .i64 0, .string ⟨#[]⟩, .slice none 0 0] 34)).alloc (.cells #[.slice none 0 0, .int .i64 Q.mode, .int .i64 Q.after, .slice none 0 0, .int .i64 Q.within, .string Q.by_, .slice none 0 0] 34)).heap.size = w.heap.size + 3 := by simp
  simp only [World.size_alloc] at b1 b2
  have Y0 := Lib.hid (blk_alloc (blk_new w #[.slice aI Q.n cI, .int .i64 Q.mode, .int .i64 Q.after, .slice aW Q.wn cW, .int .i64 Q.within, .string Q.by_, .slice aR Q.m cR] 34) (.cells #[.slice none 0 0, .int .i64 0, .int .i64 0, .slice none 0 0, .int .i64 0, .string ⟨#[]⟩, .slice none 0 0] 34))
  have C0 := Lib.hid b0
  have C1 := Lib.hid b1
  have C2 := Lib.hid b2
  have RI := Lib.hid rI
  have RW := Lib.hid rW
  have RR := Lib.hid rR
  have ZW := Lib.hid zW
  clear b0 b1 b2 rI rW rR zI zW zR
  have e2 : w.heap.size + 1 + 1 ≠ w.heap.size := by omega
  have e3 : w.heap.size + 1 + 1 ≠ w.heap.size + 1 := by omega
  obtain ⟨i0, hi0, hz0, hz1, hz2⟩ := info_parts infoTxt
  obtain ⟨i1, hi1, hy0, hy1, hy2⟩ := info_parts infoItm
  obtain ⟨i2, hi2, hx0, hx1, hx2⟩ := info_parts infoTree
  go_enter Tryd.func14, Tryd.ntmps14
  go_upto_region 2 with fail
  generalize ((w.alloc _).alloc _).alloc _ = w4 at *
  obtain ⟨B, hB⟩ : ∃ B, B = w.heap.size + 3 := ⟨_, rfl⟩
  have hz4' : B ≤ w4.heap.size := by omega
  go_wp2_with fail
  go_loopw [4] (fun i wr => ∃ (k : Nat) (ov : Value), k ≤ Q.n ∧ i = .int .i64 k ∧ Below w.heap.size w wr ∧ B ≤ wr.heap.size ∧ Hid (TwI wr B Q.it k ov) ∧
    Hid (wr.heap[w.heap.size]? = some (.cells #[.slice aI Q.n cI, .int .i64 Q.mode, .int .i64 Q.after, .slice aW Q.wn cW, .int .i64 Q.within, .string Q.by_, .slice aR Q.m cR] 34 (0, 0))) ∧
    Hid (wr.heap[w.heap.size + 1]? = some (.cells #[.slice none 0 0, .int .i64 0, .int .i64 0, .slice none 0 0, .int .i64 0, .string ⟨#[]⟩, .slice none 0 0] 34 (0, 0))) ∧
    Hid (wr.heap[w.heap.size + 1 + 1]? = some (.cells #[ov, .int .i64 Q.mode, .int .i64 Q.after, .slice none 0 0, .int .i64 Q.within, .string Q.by_, .slice none 0 0] 34 (0, 0)))) (fun i _ => Q.n - (intOf i).toNat)
  case atStart => exact ⟨0, .slice none 0 0, Nat.zero_le _, rfl, hb4, hz4', Lib.hid ⟨fun _ => .slice none 0 0, by rw [flat_zero]; exact World.ownsRow_nil _ _ _ _, fun j hj => absurd hj (Nat.not_lt_zero _)⟩, C0, C1, C2⟩
  case round =>
    clear C0 C1 C2 Y0
    obtain ⟨k, ov, hk, rfl, hb, hz, HS, B0, B1, B2⟩ := hrel
    obtain ⟨W1, e1⟩ : ∃ W1 : World, W1 = wr := ⟨_, rfl⟩
    subst e1
    have x0 := blk_cell B0.out (j := 0) rfl
    by_cases hlt : k < Q.n
    · obtain ⟨b, off, eA, hbl, hcs⟩ := RI.out.spot (by omega)
      have eJ : aI = some ⟨b, off, none⟩ := eA
      rw [eJ] at x0
      clear eA eJ
      obtain ⟨d0, ⟨aa, ac, d1, hl2, hz2', hrow⟩, d2, d3, d4⟩ := hcs k hlt
      have g0 := (hb.cell (p := ⟨b, off + k * 5, none⟩) hbl).trans d0
      have g1 := (hb.cell (p := ⟨b, off + k * 5 + 1, none⟩) hbl).trans d1
      have g2 := (hb.cell (p := ⟨b, off + k * 5 + 2, none⟩) hbl).trans d2
      have g3 := (hb.cell (p := ⟨b, off + k * 5 + 3, none⟩) hbl).trans d3
      have g4 := (hb.cell (p := ⟨b, off + k * 5 + 4, none⟩) hbl).trans d4
      have htn := hrow.1
      have hb5 := bnew (bnew (Below.refl W1.heap.size W1) (.cells #[.bool (Q.it k).neg, .slice aa (Q.it k).tn ac, .string (Q.it k).vr, .int .i64 (Q.it k).lo, .int .i64 (Q.it k).hi] 41)) (.cells #[.bool (Q.it k).neg, .slice none 0 0, .string (Q.it k).vr, .int .i64 (Q.it k).lo, .int .i64 (Q.it k).hi] 41)
      have HROW := Lib.hid hrow
      have J0 := Lib.hid (blk_below (blk_new W1 #[.bool (Q.it k).neg, .slice aa (Q.it k).tn ac, .string (Q.it k).vr, .int .i64 (Q.it k).lo, .int .i64 (Q.it k).hi] 41) (bnew (Below.refl _ _) (.cells #[.bool (Q.it k).neg, .slice none 0 0, .string (Q.it k).vr, .int .i64 (Q.it k).lo, .int .i64 (Q.it k).hi] 41)))
      have J1 := Lib.hid (blk_new2 W1 (.cells #[.bool (Q.it k).neg, .slice aa (Q.it k).tn ac, .string (Q.it k).vr, .int .i64 (Q.it k).lo, .int .i64 (Q.it k).hi] 41) #[.bool (Q.it k).neg, .slice none 0 0, .string (Q.it k).vr, .int .i64 (Q.it k).lo, .int .i64 (Q.it k).hi] 41)
      have hz5 : ((W1.alloc (.cells #[.bool (Q.it k).neg, .slice aa (Q.it k).tn ac, .string (Q.it k).vr, .int .i64 (Q.it k).lo, .int .i64 (Q.it k).hi] 41)).alloc (.cells #[.bool (Q.it k).neg, .slice none 0 0, .string (Q.it k).vr, .int .i64 (Q.it k).lo, .int .i64 (Q.it k).hi] 41)).heap.size = W1.heap.size + 2 := by simp
      clear hcs d0 d1 d2 d3 d4 hrow
      go_upto_region 7 with fail
      generalize (W1.alloc _).alloc _ = w5 at *
      clear g0 g1 g2 g3 g4 x0
      obtain ⟨ib, hib⟩ : ∃ b, W1.heap.size = b := ⟨_, rfl⟩
      obtain ⟨cb, hcb⟩ : ∃ b, W1.heap.size + 1 = b := ⟨_, rfl⟩
      try rw [hcb]
      try rw [hib]
      rw [hcb] at J1
      rw [hib] at J0
      have HIB := Lib.hid hib
      have HCB := Lib.hid hcb
      have hic : cb ≠ ib := by omega
      have hic2 : cb + 1 ≤ w5.heap.size := by omega
      clear hib hcb
      go_wp2_with fail
      go_loopw [7] (fun i wi => ∃ (m : Nat) (tv : Value), m ≤ (Q.it k).tn ∧ i = .int .i64 m ∧ Below W1.heap.size W1 wi ∧ cb + 1 ≤ wi.heap.size ∧ Hid (wi.heap[ib]? = some (.cells #[.bool (Q.it k).neg, .slice aa (Q.it k).tn ac, .string (Q.it k).vr, .int .i64 (Q.it k).lo, .int .i64 (Q.it k).hi] 41 (0, 0))) ∧ Hid (wi.heap[cb]? = some (.cells #[.bool (Q.it k).neg, tv, .string (Q.it k).vr, .int .i64 (Q.it k).lo, .int .i64 (Q.it k).hi] 41 (0, 0))) ∧
        Hid (wi.ownsRow (cb + 1) 9 1 tv m (flat (txtC (Q.it k).ty) 1 m))) (fun i _ => (Q.it k).tn - (intOf i).toNat)
      case atStart => exact ⟨0, .slice none 0 0, Nat.zero_le _, rfl, hb5, hic2, J0, J1, Lib.hid (by rw [flat_zero]; exact World.ownsRow_nil _ _ _ _)⟩
      case round =>
        clear J0 J1 hz5
        obtain ⟨m, tv, hm, rfl, hbi, hsi, I0, I1, HW⟩ := hrel
        obtain ⟨W2, e1⟩ : ∃ W2 : World, W2 = wr := ⟨_, rfl⟩
        subst e1
        have t0 := blk_cell I0.out (j := 1) rfl
        have t1 := blk_cell I1.out (j := 1) rfl
        have t2 := blk_free I1.out 1
        by_cases hlm : m < (Q.it k).tn
        · obtain ⟨b2, off2, eA2, hbl2, hcs2⟩ := RowRd.spot1 HROW.out (by omega)
          have eJ2 : aa = some ⟨b2, off2, none⟩ := eA2
          rw [eJ2] at t0
          clear eA2 eJ2
          have f3 := (hbi.cell (p := ⟨b2, off2 + m, none⟩) (by have := hb.size; show b2 < W1.heap.size; omega)).trans ((hb.cell (p := ⟨b2, off2 + m, none⟩) hbl2).trans (hcs2 m hlm))
          clear hcs2
          have hcl : cb < W2.heap.size := by omega
          have hil : ib < W2.heap.size := blk_lt I0.out
          go_upto_region 10 with fail
          go_region_law
            ((refine step_append_lies _ (by rfl) _ _ _ (by rfl) (cb + 1) 9 i0 _ 1 16 Tryd.underlying39 hi0 hz0 hz1 hz2 rfl (by omega) tv m (flat (txtC (Q.it k).ty) 1 m) (by rfl) ((HW.out.drew).alloc _)
                ⟨W2.heap.size, 0, none⟩ 1 1 [.string ((Q.it k).ty m)] (by rfl) (by rfl) (World.news_of_block (cs := #[.string ((Q.it k).ty m)]) (t := 9) (fr := (0, 0)) (heap_alloc_new W2.drew _)) (by simp [Value.oneCell'])
                (by omega) (by unfold maxLen; omega) (by omega) (by simp; omega) (W2.heap.size + 1) (by simp) ?_; intro gg gcap w6 hown6 hgrow hat hlt6; have K1 := Lib.hid (blk_grown (blk_alloc (w := W2.drew) I1.out (.cells #[.string ((Q.it k).ty m)] 9)) hgrow (rowown_ne HW.out (Nat.lt_succ_self cb))); have u1 := blk_cell K1.out (j := 1) rfl; have u2 := blk_free K1.out 1))
          all_goals
            go_wp2_with fail
            have hb6 : Below W1.heap.size W1 w6 := (bnew (bdrew hbi) (.cells #[.string ((Q.it k).ty m)] 9)).grown hgrow (by have := hbi.size; simp; omega) (fun x hx => by have := (HW.out.lt x hx).1; have := HCB.out; omega)
            have K0 := Lib.hid (blk_grown (blk_alloc (w := W2.drew) I0.out (.cells #[.string ((Q.it k).ty m)] 9)) hgrow (rowown_ne HW.out (show ib < cb + 1 by have := HIB.out; have := HCB.out; omega)))
            have hs6 : cb + 1 ≤ w6.heap.size := by have := hgrow.size; simp at this; omega
            go_roundw
            case rel =>
              exact ⟨m + 1, .slice (some ⟨gg, 0, none⟩) (m + 1) gcap, by omega, by go_num, bset hb6 (p := ⟨cb, 1, none⟩) (by have := HCB.out; show W1.heap.size ≤ cb; omega) _, by simpa using hs6, Lib.hid (blk_other K0.out (p := ⟨cb, 1, none⟩) hic _), Lib.hid (blk_set K1.out 1 _),
                Lib.hid (by rw [txt_succ]; exact own_blk hown6 K1.out (by decide) 1 _)⟩
            case measure => simp [intOf]; omega
        · have hmn : m = (Q.it k).tn := by omega
          have HMN := Lib.hid hmn
          subst hmn
          obtain ⟨ta, tc, rfl, _⟩ := rowown_shape HW.out
          obtain ⟨rv, hr1, hr2⟩ := HS.out.below hbi
          have HO1 := Lib.hid hr1
          have HO2 := Lib.hid hr2
          have HO7 := HW
          have R0 := Lib.hid (blk_below B0.out hbi)
          have R1 := Lib.hid (blk_below B1.out hbi)
          have R2 := Lib.hid (blk_below B2.out hbi)
          have hb7 := bcall hb hbi
          have hz7 : B ≤ W2.heap.size := by have := hbi.size; omega
          have hBc : B ≤ cb + 1 := by have := HCB.out; omega
          clear hr1 hr2 HS B0 B1 B2
          go_upto_region 11 with fail
          clear t1 t2 t0
          have y0 := blk_cell R2.out (j := 0) rfl
          go_wp2_with (first | (refine wpList_load_row rfl 41 _ rfl cb rfl 41 _ (0, 0) _ I1.out Tryd.underlying41 rfl (by kernel_rfl) ?_) | (at_builtin; go_loud (refine wpList_append_lies _ rfl _ _ _ rfl B 41 i1 _ 5 64 Tryd.underlying29 hi1 hy0 hy1 hy2 rfl (by omega) ov k (flat (fun j => itmCell (Q.it j) (rv j)) 5 k) rfl (HO1.out.alloc _) ⟨W2.heap.size, 0, none⟩ 1 1 [.bool (Q.it k).neg, .slice ta (Q.it k).tn tc, .string (Q.it k).vr, .int .i64 (Q.it k).lo, .int .i64 (Q.it k).hi] rfl rfl (World.news_of_block (cs := #[.bool (Q.it k).neg, .slice ta (Q.it k).tn tc, .string (Q.it k).vr, .int .i64 (Q.it k).lo, .int .i64 (Q.it k).hi]) (t := 41) (fr := (0, 0)) (heap_alloc_new W2 _)) (by simp [Value.oneCell']) (by omega) (by unfold maxLen; omega) (by omega) (by simp; omega) (W2.heap.size + 1) (by simp) ?_; intro gg gcap w9 hown9 hgrow hat hlt9; have S0 := Lib.hid (blk_grown (blk_alloc R0.out _) hgrow (rowown_ne HO1.out (show w.heap.size < B by omega))); have S1 := Lib.hid (blk_grown (blk_alloc R1.out _) hgrow (rowown_ne HO1.out (show w.heap.size + 1 < B by omega))); have S2 := Lib.hid (blk_grown (blk_alloc R2.out _) hgrow (rowown_ne HO1.out (show w.heap.size + 1 + 1 < B by omega))); have y09 := blk_cell S2.out (j := 0) rfl; have f09 := blk_free S2.out 0)))
          have hb9 := below_grown (bnew hb7 (.cells #[.bool (Q.it k).neg, .slice ta (Q.it k).tn tc, .string (Q.it k).vr, .int .i64 (Q.it k).lo, .int .i64 (Q.it k).hi] 41)) hgrow (by have := hb7.size; simp; omega) (fun x hx => by have := (HO1.out.lt x hx).1; omega)
          have hs9 := hgrow.size
          have hbf := bset hb9 (p := ⟨w.heap.size + 1 + 1, 0, none⟩) (show w.heap.size ≤ w.heap.size + 1 + 1 by omega) (.slice (some ⟨gg, 0, none⟩) (k + 1) gcap)
          have HT9 := Lib.hid (TwI.set (TwI.snoc HO1.out HO2.out HO7.out hBc hgrow hown9) S2.out (by decide) (by decide) 0 (.slice (some ⟨gg, 0, none⟩) (k + 1) gcap))
          have D0 := Lib.hid (blk_other S0.out (p := ⟨w.heap.size + 1 + 1, 0, none⟩) e2 (.slice (some ⟨gg, 0, none⟩) (k + 1) gcap))
          have D1 := Lib.hid (blk_other S1.out (p := ⟨w.heap.size + 1 + 1, 0, none⟩) e3 (.slice (some ⟨gg, 0, none⟩) (k + 1) gcap))
          have D2 := Lib.hid (blk_set S2.out 0 (.slice (some ⟨gg, 0, none⟩) (k + 1) gcap))
          have hzf : B ≤ (w9.setCell ⟨w.heap.size + 1 + 1, 0, none⟩ (.slice (some ⟨gg, 0, none⟩) (k + 1) gcap)).heap.size := by simp at hs9 ⊢; omega
          go_roundw
          case rel =>
            exact ⟨k + 1, (.slice (some ⟨gg, 0, none⟩) (k + 1) gcap), by omega, by go_num, hbf, hzf, HT9, D0, D1, D2⟩
          case measure => simp [intOf]; omega
    · obtain rfl : k = Q.n := by omega
      obtain ⟨A0, c0, rfl⟩ : ∃ A0 c0, ov = .slice A0 Q.n c0 := by
        obtain ⟨_, h4, _⟩ := HS.out
        obtain ⟨A0, c0, e, _⟩ := rowown_shape h4
        exact ⟨A0, c0, e⟩
      have x3 := blk_cell B0.out (j := 3) rfl
      have HRW := Lib.hid (NodRd.below RW.out hb)
      go_wp2_with fail
      refine (twinTree5_any aW Q.wn cW Q.wh _ (RowRd.more HRW.out hb.size)).mono ?_
      rintro e w6 ⟨tv, rfl, hb6, hown6⟩
      obtain ⟨A3, c3, rfl, _⟩ := rowown_shape hown6
      have hz6 := hb6.size
      have b2 := blk_below B2.out hb6
      have y3 := blk_cell b2 (j := 3) rfl
      have f3 := blk_free b2 3
      have hb7 := bset (bcall hb hb6) (p := ⟨w.heap.size + 1 + 1, 3, none⟩) (show w.heap.size ≤ w.heap.size + 1 + 1 by omega) (.slice A3 Q.wn c3)
      have C0 := Lib.hid (blk_other (blk_below B0.out hb6) (p := ⟨w.heap.size + 1 + 1, 3, none⟩) e2 (.slice A3 Q.wn c3))
      have C1 := Lib.hid (blk_other (blk_below B1.out hb6) (p := ⟨w.heap.size + 1 + 1, 3, none⟩) e3 (.slice A3 Q.wn c3))
      have C2 := Lib.hid (blk_set b2 3 (.slice A3 Q.wn c3))
      have HI := Lib.hid ((HS.out.below hb6).set b2 (by decide) (by decide) 3 (.slice A3 Q.wn c3))
      have HW := Lib.hid (own_blk (ownsRow_le hown6 hz) b2 (by decide) 3 (.slice A3 Q.wn c3))
      have hz7 : B ≤ (w6.setCell ⟨w.heap.size + 1 + 1, 3, none⟩ (.slice A3 Q.wn c3)).heap.size := by simp; omega
      clear b2 hown6
      go_upto_region 13 with fail
      generalize w6.setCell ⟨w.heap.size + 1 + 1, 3, none⟩ (.slice A3 Q.wn c3) = w7 at *
      clear y3 f3 x0 x3 B0 B1 B2 HS
      go_wp2_with fail
      go_loopw [8] (fun i wr => ∃ (k : Nat) (ov : Value), k ≤ Q.m ∧ i = .int .i64 k ∧ Below w.heap.size w wr ∧ B ≤ wr.heap.size ∧ Hid (TwI wr B Q.it Q.n (.slice A0 Q.n c0)) ∧ Hid (wr.ownsRow B 44 6 (.slice A3 Q.wn c3) Q.wn (flat (fun j => nodCell (Q.wh j)) 6 Q.wn)) ∧ Hid (TwT wr B Q.ln Q.rt k ov) ∧
        Hid (wr.heap[w.heap.size]? = some (.cells #[.slice aI Q.n cI, .int .i64 Q.mode, .int .i64 Q.after, .slice aW Q.wn cW, .int .i64 Q.within, .string Q.by_, .slice aR Q.m cR] 34 (0, 0))) ∧
        Hid (wr.heap[w.heap.size + 1]? = some (.cells #[.slice none 0 0, .int .i64 0, .int .i64 0, .slice none 0 0, .int .i64 0, .string ⟨#[]⟩, .slice none 0 0] 34 (0, 0))) ∧
        Hid (wr.heap[w.heap.size + 1 + 1]? = some (.cells #[.slice A0 Q.n c0, .int .i64 Q.mode, .int .i64 Q.after, .slice A3 Q.wn c3, .int .i64 Q.within, .string Q.by_, ov] 34 (0, 0)))) (fun i _ => Q.m - (intOf i).toNat)
      case atStart => exact ⟨0, .slice none 0 0, Nat.zero_le _, rfl, hb7, hz7, HI, HW, Lib.hid ⟨fun _ => .slice none 0 0, by rw [flat_zero]; exact World.ownsRow_nil _ _ _ _, fun j hj => absurd hj (Nat.not_lt_zero _)⟩, C0, C1, C2⟩
      case round =>
        clear C0 C1 C2 HI HW hb hz
        obtain ⟨k, ov, hk, rfl, hb, hz, HI, HW, HS, B0, B1, B2⟩ := hrel
        obtain ⟨W1, e1⟩ : ∃ W1 : World, W1 = wr := ⟨_, rfl⟩
        subst e1
        have x6 := blk_cell B0.out (j := 6) rfl
        by_cases hlt : k < Q.m
        · obtain ⟨b, off, eA, hbl, hcs⟩ := RR.out.spot (by omega)
          have eJ : aR = some ⟨b, off, none⟩ := eA
          rw [eJ] at x6
          clear eA eJ
          obtain ⟨aa, ac, d1, hl2, hz2', hrow⟩ := hcs k hlt
          have d2 := (hb.cell (p := ⟨b, off + k, none⟩) hbl).trans d1
          have hl8 := hrow.1
          have HR := Lib.hid (RowRd.more (NodRd.below hrow hb) hb.size)
          clear hcs d1 hrow hz2'
          go_wp2_with fail
          refine (twinTree5_any aa (Q.ln k) ac (Q.rt k) _ HR.out).mono ?_
          rintro e w8 ⟨tv, rfl, hb8, hown8⟩
          obtain ⟨ta, tc, rfl, _⟩ := rowown_shape hown8
          obtain ⟨rv, hr1, hr2⟩ := HS.out.below hb8
          have b2 := blk_below B2.out hb8
          have y6 := blk_cell b2 (j := 6) rfl
          have hz8 := hb8.size
          have HO1 := Lib.hid hr1
          have HO2 := Lib.hid hr2
          have HO7 := Lib.hid hown8
          have HI8 := Lib.hid (HI.out.below hb8)
          have HW8 := Lib.hid (rowown_below HW.out hb8)
          have R0 := Lib.hid (blk_below B0.out hb8)
          have R1 := Lib.hid (blk_below B1.out hb8)
          have R2 := Lib.hid b2
          clear hr1 hr2 hown8 b2
          go_wp2_with (at_builtin; go_loud (refine wpList_append_lies _ rfl _ _ _ rfl B 22 i2 _ 1 24 Tryd.underlying32 hi2 hx0 hx1 hx2 rfl (by omega) ov k (flat (fun j _ => rv j) 1 k) rfl (HO1.out.alloc _) ⟨w8.heap.size, 0, none⟩ 1 1 [.slice ta (Q.ln k) tc] rfl rfl (World.news_of_block (cs := #[.slice ta (Q.ln k) tc]) (t := 22) (fr := (0, 0)) (heap_alloc_new w8 _)) (by simp [Value.oneCell']) (by omega) (by unfold maxLen; omega) (by omega) (by simp; omega) (w8.heap.size + 1) (by simp) ?_; intro gg gcap w9 hown9 hgrow hat hlt9; have S0 := Lib.hid (blk_grown (blk_alloc R0.out _) hgrow (rowown_ne HO1.out (show w.heap.size < B by omega))); have S1 := Lib.hid (blk_grown (blk_alloc R1.out _) hgrow (rowown_ne HO1.out (show w.heap.size + 1 < B by omega))); have S2 := Lib.hid (blk_grown (blk_alloc R2.out _) hgrow (rowown_ne HO1.out (show w.heap.size + 1 + 1 < B by omega))); have y69 := blk_cell S2.out (j := 6) rfl; have f69 := blk_free S2.out 6))
          have hb9 := below_grown (bnew (bcall hb hb8) (.cells #[.slice ta (Q.ln k) tc] 22)) hgrow (by have := hb.size; simp; omega) (fun x hx => by have := (HO1.out.lt x hx).1; omega)
          have hs9 := hgrow.size
          have hbf := bset hb9 (p := ⟨w.heap.size + 1 + 1, 6, none⟩) (show w.heap.size ≤ w.heap.size + 1 + 1 by omega) (.slice (some ⟨gg, 0, none⟩) (k + 1) gcap)
          have HT9 := Lib.hid (TwT.set (TwT.snoc HO1.out HO2.out HO7.out (by omega) hgrow hown9) S2.out (by decide) (by decide) 6 (.slice (some ⟨gg, 0, none⟩) (k + 1) gcap))
          have HI9 : Hid (TwI (w9.setCell ⟨w.heap.size + 1 + 1, 6, none⟩ (.slice (some ⟨gg, 0, none⟩) (k + 1) gcap)) B Q.it Q.n (.slice A0 Q.n c0)) := Lib.hid (by
            obtain ⟨rv2, i1', i2'⟩ := HI8.out
            exact TwI.set ⟨rv2, rowown_kept (i1'.alloc _) hgrow (fun g hg => rowown_type HO1.out i1' (by decide) hg), fun j hj => rowown_kept ((i2' j hj).alloc _) hgrow (fun g hg => rowown_type HO1.out (i2' j hj) (by decide) hg)⟩ S2.out (by decide) (by decide) 6 _)
          have HW9 := Lib.hid (own_blk (rowown_kept (HW8.out.alloc _) hgrow (fun g hg => rowown_type HO1.out HW8.out (by decide) hg)) S2.out (by decide) 6 (.slice (some ⟨gg, 0, none⟩) (k + 1) gcap))
          have D0 := Lib.hid (blk_other S0.out (p := ⟨w.heap.size + 1 + 1, 6, none⟩) e2 (.slice (some ⟨gg, 0, none⟩) (k + 1) gcap))
          have D1 := Lib.hid (blk_other S1.out (p := ⟨w.heap.size + 1 + 1, 6, none⟩) e3 (.slice (some ⟨gg, 0, none⟩) (k + 1) gcap))
          have D2 := Lib.hid (blk_set S2.out 6 (.slice (some ⟨gg, 0, none⟩) (k + 1) gcap))
          have hzf : B ≤ (w9.setCell ⟨w.heap.size + 1 + 1, 6, none⟩ (.slice (some ⟨gg, 0, none⟩) (k + 1) gcap)).heap.size := by simp at hs9 ⊢; omega
          go_roundw
          case rel => exact ⟨k + 1, (.slice (some ⟨gg, 0, none⟩) (k + 1) gcap), by omega, by go_num, hbf, hzf, HI9, HW9, HT9, D0, D1, D2⟩
          case measure => simp [intOf]; omega
        · obtain rfl : k = Q.m := by omega
          obtain ⟨A6, c6, rfl, l6, z6⟩ : ∃ A6 c6, ov = .slice A6 Q.m c6 ∧ Q.m ≤ c6 ∧ (A6 = none → c6 = 0) := by
            obtain ⟨_, h4, _⟩ := HS.out
            exact rowown_shape h4
          have HF : Hid (QryOwn (W1.setRow (w.heap.size + 1) #[.slice A0 Q.n c0, .int .i64 Q.mode, .int .i64 Q.after, .slice A3 Q.wn c3, .int .i64 Q.within, .string Q.by_, .slice A6 Q.m c6]) w.heap.size ⟨A0, c0, A3, c3, A6, c6⟩ Q) := Lib.hid (by
            have q1 := TwI.row HI.out B1.out (by decide) (by decide) #[.slice A0 Q.n c0, .int .i64 Q.mode, .int .i64 Q.after, .slice A3 Q.wn c3, .int .i64 Q.within, .string Q.by_, .slice A6 Q.m c6]
            have q2 := own_row HW.out B1.out (by decide) #[.slice A0 Q.n c0, .int .i64 Q.mode, .int .i64 Q.after, .slice A3 Q.wn c3, .int .i64 Q.within, .string Q.by_, .slice A6 Q.m c6]
            have q3 := TwT.row HS.out B1.out (by decide) (by decide) #[.slice A0 Q.n c0, .int .i64 Q.mode, .int .i64 Q.after, .slice A3 Q.wn c3, .int .i64 Q.within, .string Q.by_, .slice A6 Q.m c6]
            obtain ⟨r1, a1, a2⟩ := q1
            obtain ⟨r3, a3, a4⟩ := q3
            exact ⟨⟨r1, ownsRow_le a1 (by omega), fun j hj => ownsRow_le (a2 j hj) (by omega)⟩, ownsRow_le q2 (by omega), ⟨r3, ownsRow_le a3 (by omega), fun j hj => ownsRow_le (a4 j hj) (by omega)⟩⟩)
          have BF := Lib.hid (row_set B1.out #[.slice A0 Q.n c0, .int .i64 Q.mode, .int .i64 Q.after, .slice A3 Q.wn c3, .int .i64 Q.within, .string Q.by_, .slice A6 Q.m c6])
          have hbf := below_setRow (cs := #[.slice A0 Q.n c0, .int .i64 Q.mode, .int .i64 Q.after, .slice A3 Q.wn c3, .int .i64 Q.within, .string Q.by_, .slice A6 Q.m c6]) hb (Nat.le_succ w.heap.size)
          go_wp2_with (first | (refine wpList_load_row rfl 34 _ rfl (w.heap.size + 1 + 1) rfl 34 _ (0, 0) _ B2.out Tryd.underlying34 rfl (by kernel_rfl) ?_) | (refine wpList_store_row rfl 34 _ _ rfl (w.heap.size + 1) #[.slice A0 Q.n c0, .int .i64 Q.mode, .int .i64 Q.after, .slice A3 Q.wn c3, .int .i64 Q.within, .string Q.by_, .slice A6 Q.m c6] rfl rfl 34 _ B1.out (by kernel_rfl) rfl (by simp [Value.oneCell']) ?_))
          (try simp only [Exit.inBlock, Exit.then])
          generalize W1.setRow (w.heap.size + 1) #[.slice A0 Q.n c0, .int .i64 Q.mode, .int .i64 Q.after, .slice A3 Q.wn c3, .int .i64 Q.within, .string Q.by_, .slice A6 Q.m c6] = wf at *
          refine bodyPost_ret (v := .agg #[.slice A0 Q.n c0, .int .i64 Q.mode, .int .i64 Q.after, .slice A3 Q.wn c3, .int .i64 Q.within, .string Q.by_, .slice A6 Q.m c6]) ?_ rfl ?_
          · exact results_cell_row Tryd.results14 _ _ (w.heap.size + 1) 34 _ (0, 0) _ rfl BF.out Tryd.underlying34 rfl (by kernel_rfl)
          · exact ⟨⟨A0, c0, A3, c3, A6, c6⟩, rfl, hbf, HF.out⟩
end Go.Proofs.YtfcdkadblagijaaDoor

/-! ### Two queries that read alike are the same, by the law of layer 5; whether a query is nested too deep. -/
namespace Go.Proofs.YtfcdkadblagijaaDoor
open Go.RowKit Go.ChangeShapes Go.WideShapes Go.ChangeAt Go.Deep Go.Joins
theorem blk7 {w : World} {b : Nat} {v0 v1 v2 v3 v4 v5 v6 : Value} {T : TypeId} (h : w.heap[b]? = some (.cells #[v0, v1, v2, v3, v4, v5, v6] T (0, 0))) :
    w.cell? ⟨b, 0, none⟩ = some v0 ∧ w.cell? ⟨b, 1, none⟩ = some v1 ∧ w.cell? ⟨b, 2, none⟩ = some v2 ∧ w.cell? ⟨b, 3, none⟩ = some v3 ∧ w.cell? ⟨b, 4, none⟩ = some v4 ∧ w.cell? ⟨b, 5, none⟩ = some v5 ∧ w.cell? ⟨b, 6, none⟩ = some v6 :=
  ⟨blk_cell h rfl, blk_cell h rfl, blk_cell h rfl, blk_cell h rfl, blk_cell h rfl, blk_cell h rfl, blk_cell h rfl⟩
theorem blk5' {w : World} {b : Nat} {v0 v1 v2 v3 v4 : Value} {T : TypeId} (h : w.heap[b]? = some (.cells #[v0, v1, v2, v3, v4] T (0, 0))) :
    w.cell? ⟨b, 0, none⟩ = some v0 ∧ w.cell? ⟨b, 1, none⟩ = some v1 ∧ w.cell? ⟨b, 2, none⟩ = some v2 ∧ w.cell? ⟨b, 3, none⟩ = some v3 ∧ w.cell? ⟨b, 4, none⟩ = some v4 :=
  ⟨blk_cell h rfl, blk_cell h rfl, blk_cell h rfl, blk_cell h rfl, blk_cell h rfl⟩
theorem bc8 {w w' : World} {a : Addr} {v : Value} (hb : Below w.heap.size w w') (h : w.cell? a = some v) : w'.cell? a = some v := (hb.cell (cell_lt h)).trans h
set_option maxRecDepth 100000 in
set_option maxHeartbeats 4000000 in
theorem sameItem_same (neg : Bool) (tn : Nat) (ty : Nat → ByteArray) (vr : ByteArray) (lo hi : Int) (aa aa' : Option Addr) (ac ac' : Nat) (w : World) (h : TxtRd w w.heap.size aa tn ty) (h' : TxtRd w w.heap.size aa' tn ty) :
    Calls Tryd.prog 37 #[.agg #[.bool neg, .slice aa tn ac, .string vr, .int .i64 lo, .int .i64 hi], .agg #[.bool neg, .slice aa' tn ac', .string vr, .int .i64 lo, .int .i64 hi]] w fun e w' => e = .returned (.bool true) ∧ Below w.heap.size w w' := by
  have hn := h.1
  have hb2 := bnew (bnew (Below.refl w.heap.size w) (.cells #[.bool neg, .slice aa tn ac, .string vr, .int .i64 lo, .int .i64 hi] 41)) (.cells #[.bool neg, .slice aa' tn ac', .string vr, .int .i64 lo, .int .i64 hi] 41)
  have b0 := Lib.hid (blk_below (blk_new w #[.bool neg, .slice aa tn ac, .string vr, .int .i64 lo, .int .i64 hi] 41) (bnew (Below.refl _ _) (.cells #[.bool neg, .slice aa' tn ac', .string vr, .int .i64 lo, .int .i64 hi] 41)))
  have b1 := Lib.hid (blk_new2 w (.cells #[.bool neg, .slice aa tn ac, .string vr, .int .i64 lo, .int .i64 hi] 41) #[.bool neg, .slice aa' tn ac', .string vr, .int .i64 lo, .int .i64 hi] 41)
  have HT := Lib.hid (RowRd.later h hb2)
  have HT' := Lib.hid (RowRd.later h' hb2)
  clear h h'
  go_enter Tryd.func37, Tryd.ntmps37
  go_upto_region 1 with fail
  generalize (w.alloc _).alloc _ = w2 at *
  obtain ⟨r0, r1, r2, r3, r4⟩ := blk5' b0.out
  obtain ⟨s0, s1, s2, s3, s4⟩ := blk5' b1.out
  go_wp2_with fail
  clear r0 r2 r3 r4 s0 s2 s3 s4 r1 s1
  go_loopw [5] (fun i wr => ∃ k : Nat, k ≤ tn ∧ i = .int .i64 k ∧ Below w2.heap.size w2 wr) (fun i _ => tn - (intOf i).toNat)
  case atStart => exact ⟨0, Nat.zero_le _, rfl, Below.refl _ _⟩
  case round =>
    obtain ⟨k, hk, rfl, hbq⟩ := hrel
    obtain ⟨W1, e1⟩ : ∃ W1 : World, W1 = wr := ⟨_, rfl⟩
    subst e1
    have t0 := blk_cell (blk_below b0.out hbq) (j := 1) rfl
    have t1 := blk_cell (blk_below b1.out hbq) (j := 1) rfl
    by_cases hlt : k < tn
    · obtain ⟨b, off, e1, hbl, hcs⟩ := RowRd.spot1 (RowRd.later HT.out hbq) (by omega)
      obtain ⟨b', off', e2, hbl', hcs'⟩ := RowRd.spot1 (RowRd.later HT'.out hbq) (by omega)
      rw [e1] at t0
      rw [e2] at t1
      clear e1 e2
      have c1 := hcs k hlt
      have c1' := hcs' k hlt
      clear hcs hcs'
      go_wp2_with fail
      go_quiet (fail)
      go_wp2_with fail
      go_roundw
      case rel => exact ⟨k + 1, by omega, by go_num, bdrewN hbq _⟩
      case measure => simp [intOf]; omega
    · go_wp2_with fail
      go_ret
      exact ⟨rfl, bcall hb2 hbq⟩
set_option maxRecDepth 100000 in
set_option maxHeartbeats 8000000 in
theorem sameQuery5_same (V V' : QryV) (Q : Qry) (w : World) (h : QryRd w w.heap.size V Q) (h' : QryRd w w.heap.size V' Q) :
    Calls Tryd.prog 17 #[.agg (qryArr V Q), .agg (qryArr V' Q)] w fun e w' => e = .returned (.bool true) ∧ Below w.heap.size w w' := by
  obtain ⟨aI, cI, aW, cW, aR, cR⟩ := V
  obtain ⟨aI', cI', aW', cW', aR', cR'⟩ := V'
  show Calls _ _ #[.agg #[.slice aI Q.n cI, .int .i64 Q.mode, .int .i64 Q.after, .slice aW Q.wn cW, .int .i64 Q.within, .string Q.by_, .slice aR Q.m cR], .agg #[.slice aI' Q.n cI', .int .i64 Q.mode, .int .i64 Q.after, .slice aW' Q.wn cW', .int .i64 Q.within, .string Q.by_, .slice aR' Q.m cR']] w _
  have hnI := h.rI.small
  have hnR := h.rR.small
  have HB := bnew (bnew (Below.refl w.heap.size w) (.cells #[.slice aI Q.n cI, .int .i64 Q.mode, .int .i64 Q.after, .slice aW Q.wn cW, .int .i64 Q.within, .string Q.by_, .slice aR Q.m cR] 34)) (.cells #[.slice aI' Q.n cI', .int .i64 Q.mode, .int .i64 Q.after, .slice aW' Q.wn cW', .int .i64 Q.within, .string Q.by_, .slice aR' Q.m cR'] 34)
  have B0 := Lib.hid (blk_below (blk_new w #[.slice aI Q.n cI, .int .i64 Q.mode, .int .i64 Q.after, .slice aW Q.wn cW, .int .i64 Q.within, .string Q.by_, .slice aR Q.m cR] 34) (bnew (Below.refl _ _) (.cells #[.slice aI' Q.n cI', .int .i64 Q.mode, .int .i64 Q.after, .slice aW' Q.wn cW', .int .i64 Q.within, .string Q.by_, .slice aR' Q.m cR'] 34)))
  have B1 := Lib.hid (blk_new2 w (.cells #[.slice aI Q.n cI, .int .i64 Q.mode, .int .i64 Q.after, .slice aW Q.wn cW, .int .i64 Q.within, .string Q.by_, .slice aR Q.m cR] 34) #[.slice aI' Q.n cI', .int .i64 Q.mode, .int .i64 Q.after, .slice aW' Q.wn cW', .int .i64 Q.within, .string Q.by_, .slice aR' Q.m cR'] 34)
  have HT2 := Lib.hid (h.later HB)
  have HT2' := Lib.hid (h'.later HB)
  clear h h'
  have hzw := blk_lt B1.out
  go_enter Tryd.func17, Tryd.ntmps17
  go_upto_region 1 with fail
  generalize (w.alloc _).alloc _ = w2 at *
  obtain ⟨x0, x1, x2, x3, x4, x5, x6⟩ := blk7 B0.out
  obtain ⟨y0, y1, y2, y3, y4, y5, y6⟩ := blk7 B1.out
  go_wp2_with fail
  clear x0 x1 x2 x3 x4 x5 x6 y0 y1 y2 y3 y4 y5 y6
  go_loopw [5] (fun i wr => ∃ (k : Nat), k ≤ Q.n ∧ i = .int .i64 k ∧ Below w2.heap.size w2 wr) (fun i _ => Q.n - (intOf i).toNat)
  case atStart => exact ⟨0, Nat.zero_le _, rfl, Below.refl _ _⟩
  case round =>
    obtain ⟨k, hk, rfl, hb⟩ := hrel
    obtain ⟨W1, e1⟩ : ∃ W1 : World, W1 = wr := ⟨_, rfl⟩
    subst e1
    have x0 := blk_cell (blk_below B0.out hb) (j := 0) rfl
    have y0 := blk_cell (blk_below B1.out hb) (j := 0) rfl
    by_cases hlt : k < Q.n
    · obtain ⟨b, off, eA, hbl, hcs⟩ := (HT2.out.later hb).rI.spot (by omega)
      obtain ⟨b', off', eA', hbl', hcs'⟩ := (HT2'.out.later hb).rI.spot (by omega)
      have eJ : aI = some ⟨b, off, none⟩ := eA
      have eJ' : aI' = some ⟨b', off', none⟩ := eA'
      rw [eJ] at x0
      rw [eJ'] at y0
      clear eA eA' eJ eJ'
      obtain ⟨d0, ⟨aa, ac, d1, _, _, hrow⟩, d2, d3, d4⟩ := hcs k hlt
      obtain ⟨f0, ⟨aa', ac', f1, _, _, hrow'⟩, f2, f3, f4⟩ := hcs' k hlt
      obtain ⟨x, hx⟩ : ∃ x, Q.it k = x := ⟨_, rfl⟩
      rw [hx] at d0 d1 d2 d3 d4 f0 f1 f2 f3 f4 hrow hrow'
      obtain ⟨neg, tn, ty, vr, lo, hi⟩ := x
      dsimp only at d0 d1 d2 d3 d4 f0 f1 f2 f3 f4
      have HR := Lib.hid hrow
      have HR' := Lib.hid hrow'
      clear hcs hcs' hrow hrow' hx
      go_upto_region 6 with fail
      go_region_held3 (fun w' => w'.cell? ⟨w.heap.size, 0, none⟩ = some (.slice (some ⟨b, off, none⟩) Q.n cI) ∧ w'.cell? ⟨w.heap.size + 1, 0, none⟩ = some (.slice (some ⟨b', off', none⟩) Q.n cI') ∧ w'.cell? ⟨b, off + k * 5, none⟩ = some (.bool neg) ∧ w'.cell? ⟨b, off + k * 5 + 1, none⟩ = some (.slice aa tn ac) ∧ w'.cell? ⟨b, off + k * 5 + 2, none⟩ = some (.string vr) ∧ w'.cell? ⟨b, off + k * 5 + 3, none⟩ = some (.int .i64 lo) ∧ w'.cell? ⟨b, off + k * 5 + 4, none⟩ = some (.int .i64 hi) ∧ w'.cell? ⟨b', off' + k * 5, none⟩ = some (.bool neg) ∧ w'.cell? ⟨b', off' + k * 5 + 1, none⟩ = some (.slice aa' tn ac') ∧ w'.cell? ⟨b', off' + k * 5 + 2, none⟩ = some (.string vr) ∧ w'.cell? ⟨b', off' + k * 5 + 3, none⟩ = some (.int .i64 lo) ∧ w'.cell? ⟨b', off' + k * 5 + 4, none⟩ = some (.int .i64 hi))
        (first
          | exact ⟨bc8 (Below.refl _ _).drew x0, bc8 (Below.refl _ _).drew y0, bc8 (Below.refl _ _).drew d0, bc8 (Below.refl _ _).drew d1, bc8 (Below.refl _ _).drew d2, bc8 (Below.refl _ _).drew d3, bc8 (Below.refl _ _).drew d4, bc8 (Below.refl _ _).drew f0, bc8 (Below.refl _ _).drew f1, bc8 (Below.refl _ _).drew f2, bc8 (Below.refl _ _).drew f3, bc8 (Below.refl _ _).drew f4⟩
          | (go_split_ands; exact ⟨bc8 hbz (by assumption), bc8 hbz (by assumption), bc8 hbz (by assumption), bc8 hbz (by assumption), bc8 hbz (by assumption), bc8 hbz (by assumption), bc8 hbz (by assumption), bc8 hbz (by assumption), bc8 hbz (by assumption), bc8 hbz (by assumption), bc8 hbz (by assumption), bc8 hbz (by assumption)⟩)
          | (go_split_ands; exact ⟨by assumption, by assumption, by assumption, by assumption, by assumption, by assumption, by assumption, by assumption, by assumption, by assumption, by assumption, by assumption⟩))
        (first
          | (go_at_call 37; have hbd := (Below.refl W1.heap.size W1).drew; refine (sameItem_same neg tn ty vr lo hi aa aa' ac ac' _ (RowRd.later HR.out hbd) (RowRd.later HR'.out hbd)).mono ?_; rintro e wz ⟨rfl, hbz⟩; have hbr := bcall hbd hbz))
      go_split_ands
      have hb9 := bcall hb hbr
      go_wp2_with fail
      go_roundw
      case rel => exact ⟨k + 1, by omega, by go_num, hb9⟩
      case measure => simp [intOf]; omega
    · go_wp2_with fail
      go_loopw [6] (fun i wr => ∃ (k : Nat), k ≤ Q.m ∧ i = .int .i64 k ∧ Below w2.heap.size w2 wr) (fun i _ => Q.m - (intOf i).toNat)
      case atStart => exact ⟨0, Nat.zero_le _, rfl, hb⟩
      case round =>
        clear x0 y0 hb
        obtain ⟨k, hk, rfl, hb⟩ := hrel
        obtain ⟨W1, e1⟩ : ∃ W1 : World, W1 = wr := ⟨_, rfl⟩
        subst e1
        have x6 := blk_cell (blk_below B0.out hb) (j := 6) rfl
        have y6 := blk_cell (blk_below B1.out hb) (j := 6) rfl
        by_cases hlt : k < Q.m
        · obtain ⟨b, off, eA, hbl, hcs⟩ := (HT2.out.later hb).rR.spot (by omega)
          obtain ⟨b', off', eA', hbl', hcs'⟩ := (HT2'.out.later hb).rR.spot (by omega)
          have eJ : aR = some ⟨b, off, none⟩ := eA
          have eJ' : aR' = some ⟨b', off', none⟩ := eA'
          rw [eJ] at x6
          rw [eJ'] at y6
          clear eA eA' eJ eJ'
          obtain ⟨aa, ac, d1, _, _, hrow⟩ := hcs k hlt
          obtain ⟨aa', ac', d1', _, _, hrow'⟩ := hcs' k hlt
          have HR := Lib.hid hrow
          have HR' := Lib.hid hrow'
          clear hcs hcs' hrow hrow'
          go_wp2_with fail
          go_quiet (first | (go_at_call 10; exact Calls.quiet_of (sameTree5_same aa aa' (Q.ln k) ac ac' (Q.rt k) _ HR.out HR'.out)))
          go_wp2_with fail
          go_roundw
          case rel => exact ⟨k + 1, by omega, by go_num, bdrewN hb _⟩
          case measure => simp [intOf]; omega
        · have HT3 := Lib.hid (HT2.out.later hb)
          have HT3' := Lib.hid (HT2'.out.later hb)
          have x3 := blk_cell (blk_below B0.out hb) (j := 3) rfl
          have y3 := blk_cell (blk_below B1.out hb) (j := 3) rfl
          go_wp2_with fail
          refine (sameTree5_same aW aW' Q.wn cW cW' Q.wh _ HT3.out.rW HT3'.out.rW).mono ?_
          rintro e w5 ⟨rfl, q, rfl⟩
          go_wp2_with fail
          go_ret
          exact ⟨rfl, bcall HB (bdrewN hb q)⟩
/-- Whatever it is, a truth is told. -/
theorem queryBeyond_any (V : QryV) (Q : Qry) (w : World) (h : QryRd w w.heap.size V Q) :
    Calls Tryd.prog 13 #[.agg (qryArr V Q)] w fun e w' => IsBool e ∧ Below w.heap.size w w' := by
  obtain ⟨aI, cI, aW, cW, aR, cR⟩ := V
  show Calls _ _ #[.agg #[.slice aI Q.n cI, .int .i64 Q.mode, .int .i64 Q.after, .slice aW Q.wn cW, .int .i64 Q.within, .string Q.by_, .slice aR Q.m cR]] w _
  have hnR := h.rR.small
  have HB := bnew (Below.refl w.heap.size w) (.cells #[.slice aI Q.n cI, .int .i64 Q.mode, .int .i64 Q.after, .slice aW Q.wn cW, .int .i64 Q.within, .string Q.by_, .slice aR Q.m cR] 34)
  have B0 := Lib.hid (blk_new w #[.slice aI Q.n cI, .int .i64 Q.mode, .int .i64 Q.after, .slice aW Q.wn cW, .int .i64 Q.within, .string Q.by_, .slice aR Q.m cR] 34)
  have HT2 := Lib.hid (h.later HB)
  clear h
  go_enter Tryd.func13, Tryd.ntmps13
  go_wp2_with fail
  generalize w.alloc _ = w2 at *
  refine (beyond_any aW Q.wn cW Q.wh _ HT2.out.rW).mono ?_
  rintro e w3 ⟨⟨b0, rfl⟩, hb3⟩
  go_wp2_with fail
  go_loopw [3, 4] (fun d i wr => ∃ (k : Nat) (b : Bool), k ≤ Q.m ∧ i = .int .i64 k ∧ d = .bool b ∧ Below w2.heap.size w2 wr) (fun _ i _ => Q.m - (intOf i).toNat)
  case atStart => exact ⟨0, b0, Nat.zero_le _, rfl, rfl, hb3⟩
  case round =>
    obtain ⟨k, b1, hk, rfl, rfl, hb⟩ := hrel
    obtain ⟨W1, e1⟩ : ∃ W1 : World, W1 = wr := ⟨_, rfl⟩
    subst e1
    have x6 := blk_cell (blk_below B0.out hb) (j := 6) rfl
    by_cases hlt : k < Q.m
    · obtain ⟨b, off, eA, hbl, hcs⟩ := (HT2.out.later hb).rR.spot (by omega)
      have eA : aR = _ := eA
      subst eA
      obtain ⟨aa, ac, d1, _, _, hrow⟩ := hcs k hlt
      have HR := Lib.hid hrow
      clear hcs hrow
      go_wp2_with fail
      refine (beyond_any aa (Q.ln k) ac (Q.rt k) _ HR.out).mono ?_
      rintro e w4 ⟨⟨b2, rfl⟩, hb4⟩
      cases b1
      all_goals
        go_wp2_with fail
        go_roundw
        case rel => exact ⟨k + 1, _, by omega, by go_num, rfl, bcall hb hb4⟩
        case measure => simp [intOf]; omega
    · go_wp2_with fail
      go_ret
      exact ⟨⟨_, rfl⟩, bcall HB hb⟩
end Go.Proofs.YtfcdkadblagijaaDoor

/-! ### A query of the call's own, written over: it stays a query. -/
namespace Go.Proofs.YtfcdkadblagijaaDoor
open Go.RowKit Go.ChangeShapes Go.WideShapes Go.ChangeAt Go.Deep Go.Joins
/-- A store: a row stays a row. -/
theorem row_store {w : World} {B sz n : Nat} {e : TypeId} {v : Value} {xs : List Value} (h : w.ownsRow B e sz v n xs) (g j : Nat) (u : Value) :
    ∃ xs', (w.setCell ⟨g, j, none⟩ u).ownsRow B e sz v n xs' ∧ (xs' = xs ∨ xs' = xs.set j u) := by
  by_cases hv : v.ownBlock = some g
  · rcases h.2 with ⟨h', _⟩ | ⟨g', cap', cur, h', _⟩
    · rw [h'] at hv
      cases hv
    · have hg : g' = g := by rw [h'] at hv; exact Option.some.inj hv
      rw [hg] at h'
      subst h'
      exact ⟨_, (World.ownsRow.stored h j u).1, Or.inr rfl⟩
  · exact ⟨xs, rowown_far h hv u, Or.inl rfl⟩
theorem ne_kind {w : World} {B sz n b : Nat} {e T : TypeId} {v : Value} {xs : List Value} {cs : Array Value} {fr : Nat × Nat} (h : w.ownsRow B e sz v n xs) (hb : w.heap[b]? = some (.cells cs T fr)) (hT : T ≠ e) : v.ownBlock ≠ some b := fun hv => by
  obtain ⟨c, fz, h1⟩ := Lib.ownsRow_kind h b hv
  rw [h1] at hb
  injection hb with hb
  injection hb with _ hb
  exact hT hb.symm
theorem flat_neg {f : Nat → Itm} {rv : Nat → Value} {n k : Nat} : (flat (fun j => itmCell (f j) (rv j)) 5 n).set (k * 5) (.bool false) = flat (fun j => itmCell (upd1 f k { f k with neg := false } j) (rv j)) 5 n := by
  refine flat_ext (by simp [flat_length]) fun i hi q hq => ?_
  have hl := flat_length (fun j => itmCell (f j) (rv j)) 5 n
  have h0 := flat_at (fun j => itmCell (f j) (rv j)) (sz := 5) hi hq
  simp only [List.getElem?_set, hl]
  by_cases e : i = k
  · subst e
    obtain rfl | rfl | rfl | rfl | rfl : q = 0 ∨ q = 1 ∨ q = 2 ∨ q = 3 ∨ q = 4 := by omega
    · rw [if_pos (by omega), if_pos (by omega)]
      simp [upd1, itmCell]
    all_goals
      rw [if_neg (by omega), h0]
      simp [upd1, itmCell]
  · rw [if_neg (by omega), h0]
    simp [upd1, e]
theorem flat_txt {f : Nat → ByteArray} {n k : Nat} (s : ByteArray) : (flat (txtC f) 1 n).set k (.string s) = flat (txtC (upd1 f k s)) 1 n := by
  refine flat_ext (by simp [flat_length]) fun i hi q hq => ?_
  obtain rfl : q = 0 := by omega
  have hl := flat_length (txtC f) 1 n
  have h0 := flat_at (txtC f) (sz := 1) hi hq
  simp only [List.getElem?_set, hl]
  by_cases e : i = k
  · subst e
    rw [if_pos (by omega), if_pos (by omega)]
    simp [txtC, upd1]
  · rw [if_neg (by omega), h0]
    simp [txtC, upd1, e]
theorem flat_nod {f : Nat → Nod} {n k : Nat} : (flat (fun j => nodCell (f j)) 6 n).set (k * 6 + 1) (.int .i64 7) = flat (fun j => nodCell (upd1 f k { f k with n := 7 } j)) 6 n := by
  refine flat_ext (by simp [flat_length]) fun i hi q hq => ?_
  have hl := flat_length (fun j => nodCell (f j)) 6 n
  have h0 := flat_at (fun j => nodCell (f j)) (sz := 6) hi hq
  simp only [List.getElem?_set, hl]
  by_cases e : i = k
  · subst e
    obtain rfl | rfl | rfl | rfl | rfl | rfl : q = 0 ∨ q = 1 ∨ q = 2 ∨ q = 3 ∨ q = 4 ∨ q = 5 := by omega
    · rw [if_neg (by omega), h0]; simp [upd1, nodCell]
    · rw [if_pos (by omega), if_pos (by omega)]; simp [upd1, nodCell]
    all_goals
      rw [if_neg (by omega), h0]
      simp [upd1, nodCell]
  · rw [if_neg (by omega), h0]
    simp [upd1, e]
/-- A query with other items, other nodes. -/
def spQ (Q : Qry) (f : Nat → Itm) (g : Nat → Nod) (r : Nat → Nat → Nod) : Qry := ⟨Q.n, f, Q.mode, Q.after, Q.wn, g, Q.within, Q.by_, Q.m, Q.ln, r⟩
/-- The call's own query, perhaps written over. -/
structure Spoilt (w : World) (B : Nat) (V : QryV) (Q : Qry) (f : Nat → Itm) (g : Nat → Nod) (r : Nat → Nat → Nod) : Prop where
  own : QryOwn w B V (spQ Q f g r)
  tn : ∀ j, (f j).tn = (Q.it j).tn
  wf : QryWf (spQ Q f g r)
section
variable {w : World} {B : Nat} {V : QryV} {Q : Qry} {f : Nat → Itm} {g : Nat → Nod} {r : Nat → Nat → Nod}
theorem Spoilt.start (h : QryOwn w B V Q) (hw : QryWf Q) : Spoilt w B V Q Q.it Q.wh Q.rt := ⟨h, fun _ => rfl, hw⟩
theorem Spoilt.sm (h : Spoilt w B V Q f g r) (hs : QrySm Q) : QrySm (spQ Q f g r) := ⟨hs.n, fun j hj => by rw [show ((spQ Q f g r).it j).tn = (Q.it j).tn from h.tn j]; exact hs.tn j hj, hs.wn, hs.m, hs.ln⟩
/-- The first thing that is written: an item's sign. -/
theorem Spoilt.neg (h : Spoilt w B V Q f g r) {b c : Nat} (hv : Value.slice V.aI Q.n V.cI = .slice (some ⟨b, 0, none⟩) Q.n c) (k : Nat) : Spoilt (w.setCell ⟨b, k * 5, none⟩ (.bool false)) B V Q (upd1 f k { f k with neg := false }) g r := by
  obtain ⟨⟨⟨rv, i1, i2⟩, hW, ⟨rt, t1, t2⟩⟩, htn, hwf⟩ := h
  have i1 : w.ownsRow B 41 5 (.slice V.aI Q.n V.cI) Q.n (flat (fun j => itmCell (f j) (rv j)) 5 Q.n) := i1
  have hob : (Value.slice V.aI Q.n V.cI).ownBlock = some b := by rw [hv]; rfl
  have hxtn : ∀ j, (upd1 f k { f k with neg := false } j).tn = (f j).tn ∧ (upd1 f k { f k with neg := false } j).ty = (f j).ty ∧ (upd1 f k { f k with neg := false } j).lo = (f j).lo ∧ (upd1 f k { f k with neg := false } j).hi = (f j).hi ∧ (upd1 f k { f k with neg := false } j).vr = (f j).vr := fun j => by
    unfold upd1
    split
    · rename_i e; subst e; exact ⟨rfl, rfl, rfl, rfl, rfl⟩
    · exact ⟨rfl, rfl, rfl, rfl, rfl⟩
  refine ⟨⟨⟨rv, ?_, fun j hj => ?_⟩, ?_, ⟨rt, ?_, fun j hj => ?_⟩⟩, fun j => (hxtn j).1.trans (htn j), ⟨fun j hj => ?_, hwf.wh, hwf.rt, hwf.within, hwf.by_⟩⟩
  · have h1 := i1
    rw [hv] at h1
    have h2 := (World.ownsRow.stored h1 (k * 5) (.bool false)).1
    rw [flat_neg, ← hv] at h2
    exact h2
  · have h1 := rowown_far (i2 j hj) (rowown_type i1 (i2 j hj) (by decide) hob) (i := k * 5) (.bool false)
    obtain ⟨e1, e2, _⟩ := hxtn j
    show World.ownsRow _ _ _ _ _ (upd1 f k { f k with neg := false } j).tn (flat (txtC (upd1 f k { f k with neg := false } j).ty) 1 (upd1 f k { f k with neg := false } j).tn)
    rw [e1, e2]
    exact h1
  · exact rowown_far hW (rowown_type i1 hW (by decide) hob) _
  · exact rowown_far t1 (rowown_type i1 t1 (by decide) hob) _
  · exact rowown_far (t2 j hj) (rowown_type i1 (t2 j hj) (by decide) hob) _
  · obtain ⟨_, _, e3, e4, e5⟩ := hxtn j
    have := hwf.it j hj
    show ItmWf (upd1 f k { f k with neg := false } j)
    exact ⟨by rw [e3]; exact this.lo, by rw [e4]; exact this.hi, by rw [e5]; exact this.vr⟩
/-- What an item's types are, as the walk comes to them. -/
theorem Spoilt.types (h : Spoilt w B V Q f g r) {k : Nat} (hk : k < Q.n) {b c : Nat} (hv : Value.slice V.aI Q.n V.cI = .slice (some ⟨b, 0, none⟩) Q.n c) :
    ∃ rv, w.cell? ⟨b, k * 5, none⟩ = some (.bool (f k).neg) ∧ w.cell? ⟨b, k * 5 + 1, none⟩ = some rv ∧ w.frozen? ⟨b, k * 5, none⟩ = false ∧ w.ownsRow B 9 1 rv (Q.it k).tn (flat (txtC (f k).ty) 1 (Q.it k).tn) ∧ B ≤ b ∧ b < w.heap.size := by
  obtain ⟨⟨⟨rv, i1, i2⟩, hW, _⟩, htn, hwf⟩ := h
  have i1 : w.ownsRow B 41 5 (.slice V.aI Q.n V.cI) Q.n (flat (fun j => itmCell (f j) (rv j)) 5 Q.n) := i1
  rw [hv] at i1
  have hc : ∀ i, i < 5 → w.cell? ⟨b, k * 5 + i, none⟩ = some (itmCell (f k) (rv k) i) := fun i hi => by
    rw [i1.cellAt (k * 5 + i) (by omega)]
    exact flat_at (fun j => itmCell (f j) (rv j)) hk hi
  have h2 := i2 k hk
  have e : ((spQ Q f g r).it k).tn = (Q.it k).tn := htn k
  rw [e] at h2
  have hlt := i1.lt b rfl
  exact ⟨rv k, hc 0 (by omega), hc 1 (by omega), World.ownsRow.frozenAt i1 _, h2, hlt.1, hlt.2⟩
/-- The second: a type. -/
theorem Spoilt.typ (h : Spoilt w B V Q f g r) {b : Nat} {x : Value} {n0 c0 : Nat} {xs : List Value} (hx : w.ownsRow B 9 1 x n0 xs) (hb : x.ownBlock = some b) (k : Nat) (s : ByteArray) : ∃ f', Spoilt (w.setCell ⟨b, k, none⟩ (.string s)) B V Q f' g r := by
  obtain ⟨⟨⟨rv, i1, i2⟩, hW, ⟨rt, t1, t2⟩⟩, htn, hwf⟩ := h
  have i1 : w.ownsRow B 41 5 (.slice V.aI Q.n V.cI) Q.n (flat (fun j => itmCell (f j) (rv j)) 5 Q.n) := i1
  have i2 : ∀ j, j < Q.n → w.ownsRow B 9 1 (rv j) (f j).tn (flat (txtC (f j).ty) 1 (f j).tn) := i2
  have key : ∀ j, ∃ ty' : Nat → ByteArray, j < Q.n → (w.setCell ⟨b, k, none⟩ (.string s)).ownsRow B 9 1 (rv j) (f j).tn (flat (txtC ty') 1 (f j).tn) := fun j => by
    by_cases hj : j < Q.n
    · obtain ⟨xs', h1, h2⟩ := row_store (i2 j hj) b k (.string s)
      rcases h2 with rfl | rfl
      · exact ⟨(f j).ty, fun _ => h1⟩
      · rw [flat_txt] at h1
        exact ⟨_, fun _ => h1⟩
    · exact ⟨(f j).ty, fun h => absurd h hj⟩
  obtain ⟨ty', hty⟩ := Classical.axiomOfChoice key
  have e1 : (fun j => itmCell ({ f j with ty := ty' j } : Itm) (rv j)) = fun j => itmCell (f j) (rv j) := by
    funext j i
    match i with
    | 0 => rfl
    | 1 => rfl
    | 2 => rfl
    | 3 => rfl
    | _ + 4 => rfl
  refine ⟨fun j => { f j with ty := ty' j }, ⟨⟨rv, ?_, fun j hj => hty j hj⟩, ?_, ⟨rt, ?_, fun j hj => ?_⟩⟩, fun j => htn j, ⟨fun j hj => ?_, hwf.wh, hwf.rt, hwf.within, hwf.by_⟩⟩
  · show World.ownsRow _ _ _ _ _ Q.n (flat (fun j => itmCell ({ f j with ty := ty' j } : Itm) (rv j)) 5 Q.n)
    rw [e1]
    exact rowown_far i1 (rowown_type hx i1 (by decide) hb) _
  · exact rowown_far hW (rowown_type hx hW (by decide) hb) _
  · exact rowown_far t1 (rowown_type hx t1 (by decide) hb) _
  · exact rowown_far (t2 j hj) (rowown_type hx (t2 j hj) (by decide) hb) _
  · have := hwf.it j hj
    exact ⟨this.lo, this.hi, this.vr⟩
/-- The nodes of the condition, as the walk comes to them. -/
theorem Spoilt.nodes (h : Spoilt w B V Q f g r) {k : Nat} (hk : k < Q.wn) {b c : Nat} (hv : Value.slice V.aW Q.wn V.cW = .slice (some ⟨b, 0, none⟩) Q.wn c) :
    w.cell? ⟨b, k * 6 + 1, none⟩ = some (.int .i64 (g k).n) ∧ w.frozen? ⟨b, k * 6 + 1, none⟩ = false ∧ B ≤ b ∧ b < w.heap.size := by
  have hW : w.ownsRow B 44 6 (.slice V.aW Q.wn V.cW) Q.wn (flat (fun j => nodCell (g j)) 6 Q.wn) := h.own.W
  rw [hv] at hW
  have hlt := hW.lt b rfl
  refine ⟨?_, World.ownsRow.frozenAt hW _, hlt.1, hlt.2⟩
  rw [hW.cellAt (k * 6 + 1) (by omega)]
  exact flat_at (fun j => nodCell (g j)) hk (by omega)
theorem nodWf7 {x : Nod} (h : NodWf x) : NodWf { x with n := 7 } := by
  obtain ⟨h1, h2, h3, h4, h5, h6⟩ := h
  exact ⟨h1, ⟨by show _ ≤ (7 : Int); omega, by show (7 : Int) ≤ _; omega⟩, h3, h4, h5, h6⟩
/-- The third: a node's number. -/
theorem Spoilt.nod (h : Spoilt w B V Q f g r) {b c : Nat} (hv : Value.slice V.aW Q.wn V.cW = .slice (some ⟨b, 0, none⟩) Q.wn c) (k : Nat) : ∃ g' r', Spoilt (w.setCell ⟨b, k * 6 + 1, none⟩ (.int .i64 7)) B V Q f g' r' := by
  obtain ⟨⟨⟨rv, i1, i2⟩, hW, ⟨rt, t1, t2⟩⟩, htn, hwf⟩ := h
  have hW : w.ownsRow B 44 6 (.slice V.aW Q.wn V.cW) Q.wn (flat (fun j => nodCell (g j)) 6 Q.wn) := hW
  have hob : (Value.slice V.aW Q.wn V.cW).ownBlock = some b := by rw [hv]; rfl
  have t2 : ∀ j, j < Q.m → w.ownsRow B 44 6 (rt j) (Q.ln j) (flat (fun i => nodCell (r j i)) 6 (Q.ln j)) := t2
  have key : ∀ j, ∃ r' : Nat → Nod, j < Q.m → (w.setCell ⟨b, k * 6 + 1, none⟩ (.int .i64 7)).ownsRow B 44 6 (rt j) (Q.ln j) (flat (fun i => nodCell (r' i)) 6 (Q.ln j)) ∧ ∀ i, r' i = r j i ∨ r' i = { r j i with n := 7 } := fun j => by
    by_cases hj : j < Q.m
    · obtain ⟨xs', h1, h2⟩ := row_store (t2 j hj) b (k * 6 + 1) (.int .i64 7)
      rcases h2 with rfl | rfl
      · exact ⟨r j, fun _ => ⟨h1, fun i => Or.inl rfl⟩⟩
      · rw [flat_nod] at h1
        refine ⟨_, fun _ => ⟨h1, fun i => ?_⟩⟩
        unfold upd1
        split
        · rename_i e; subst e; exact Or.inr rfl
        · exact Or.inl rfl
    · exact ⟨r j, fun h => absurd h hj⟩
  obtain ⟨r', hr⟩ := Classical.axiomOfChoice key
  refine ⟨upd1 g k { g k with n := 7 }, r', ⟨⟨rv, ?_, fun j hj => ?_⟩, ?_, ⟨rt, ?_, fun j hj => (hr j hj).1⟩⟩, htn, ⟨hwf.it, fun j hj => ?_, fun j hj i hi => ?_, hwf.within, hwf.by_⟩⟩
  · exact rowown_far i1 (rowown_type hW i1 (by decide) hob) _
  · exact rowown_far (i2 j hj) (rowown_type hW (i2 j hj) (by decide) hob) _
  · have h1 := hW
    rw [hv] at h1
    have h2 := (World.ownsRow.stored h1 (k * 6 + 1) (.int .i64 7)).1
    rw [flat_nod, ← hv] at h2
    exact h2
  · exact rowown_far t1 (rowown_type hW t1 (by decide) hob) _
  · have h1 := hwf.wh j hj
    have h1 : NodWf (g j) := h1
    show NodWf (upd1 g k { g k with n := 7 } j)
    unfold upd1
    split
    · rename_i e; subst e; exact nodWf7 h1
    · exact h1
  · have h1 : NodWf (r j i) := hwf.rt j hj i hi
    show NodWf (r' j i)
    rcases (hr j hj).2 i with e | e
    · rw [e]; exact h1
    · rw [e]; exact nodWf7 h1
end
end Go.Proofs.YtfcdkadblagijaaDoor

/-! ### What a listed table's cells are: for the witness' world. -/
namespace Go.Proofs.YtfcdkadblagijaaDoor
def tabCells (d : DataW Unit) : Array Value :=
  match d with
  | .agg l => (l.map fun x => match x with | .lit (.int k z) => Value.int k z | .lit (.string s) => Value.string ⟨s.toArray⟩ | _ => undef).toArray
  | _ => #[]
end Go.Proofs.YtfcdkadblagijaaDoor

/-! ### The walk of the law ShowPrints, and its arguments opened. -/
namespace Go.Proofs.YtfcdkadblagijaaDoor
open Go.RowKit Go.ChangeShapes Go.WideShapes Go.ChangeAt Go.Deep Go.Joins
/-- Where the spoiling has come to. -/
def SpAt (w : World) (B mb : Nat) (V : QryV) (Q : Qry) (wx : World) : Prop :=
  Below w.heap.size w wx ∧ w.heap.size ≤ B ∧ wx.heap[mb]? = some (.cells (qryArr V Q) 34 (0, 0)) ∧ ∃ f g r, Spoilt wx B V Q f g r
theorem SpAt.items {w wx : World} {B mb : Nat} {V : QryV} {Q : Qry} (h : SpAt w B mb V Q wx) {k : Nat} (hk : k < Q.n) :
    ∃ b c rv ng, Value.slice V.aI Q.n V.cI = .slice (some ⟨b, 0, none⟩) Q.n c ∧ wx.cell? ⟨b, k * 5, none⟩ = some (.bool ng) ∧ wx.cell? ⟨b, k * 5 + 1, none⟩ = some rv ∧ wx.frozen? ⟨b, k * 5, none⟩ = false ∧
      SpAt w B mb V Q (wx.setCell ⟨b, k * 5, none⟩ (.bool false)) ∧
      ∃ xs, wx.ownsRow B 9 1 rv (Q.it k).tn xs ∧ ∀ gT m s, rv.ownBlock = some gT → SpAt w B mb V Q (wx.setCell ⟨gT, m, none⟩ (.string s)) := by
  obtain ⟨hb, hBw, hmb, f, g, r, hsp⟩ := h
  obtain ⟨rv0, i1, _⟩ := hsp.own.I
  have i1 : wx.ownsRow B 41 5 (.slice V.aI Q.n V.cI) Q.n (flat (fun j => itmCell (f j) (rv0 j)) 5 Q.n) := i1
  obtain ⟨b, c, hv, hB, hlt⟩ := i1.form (by omega)
  obtain ⟨rv, c0, c1, f0, hown, _, _⟩ := hsp.types hk hv
  have hne := ne_kind i1 hmb (by decide)
  rw [hv] at hne
  have hbm : b ≠ mb := fun e => hne (by rw [e]; rfl)
  refine ⟨b, c, rv, _, hv, c0, c1, f0, ⟨bset hb (p := ⟨b, k * 5, none⟩) (by show w.heap.size ≤ b; omega) _, hBw, blk_other hmb (p := ⟨b, k * 5, none⟩) hbm _, _, _, _, hsp.neg hv k⟩, _, hown, fun gT m s hg => ?_⟩
  have hlt2 := hown.lt gT hg
  have hne2 := ne_kind hown hmb (by decide)
  obtain ⟨f', hf'⟩ := hsp.typ (c0 := 0) hown hg m s
  exact ⟨bset hb (p := ⟨gT, m, none⟩) (by show w.heap.size ≤ gT; omega) _, hBw, blk_other hmb (p := ⟨gT, m, none⟩) (fun e => hne2 (by rw [hg]; exact congrArg some e)) _, _, _, _, hf'⟩
theorem SpAt.where_ {w wx : World} {B mb : Nat} {V : QryV} {Q : Qry} (h : SpAt w B mb V Q wx) {k : Nat} (hk : k < Q.wn) :
    ∃ b c x, Value.slice V.aW Q.wn V.cW = .slice (some ⟨b, 0, none⟩) Q.wn c ∧ wx.cell? ⟨b, k * 6 + 1, none⟩ = some (.int .i64 x) ∧ wx.frozen? ⟨b, k * 6 + 1, none⟩ = false ∧ SpAt w B mb V Q (wx.setCell ⟨b, k * 6 + 1, none⟩ (.int .i64 7)) := by
  obtain ⟨hb, hBw, hmb, f, g, r, hsp⟩ := h
  have hW : wx.ownsRow B 44 6 (.slice V.aW Q.wn V.cW) Q.wn (flat (fun j => nodCell (g j)) 6 Q.wn) := hsp.own.W
  obtain ⟨b, c, hv, hB, hlt⟩ := hW.form (by omega)
  obtain ⟨c1, f1, _, _⟩ := hsp.nodes hk hv
  have hne := ne_kind hW hmb (by decide)
  rw [hv] at hne
  have hbm : b ≠ mb := fun e => hne (by rw [e]; rfl)
  obtain ⟨g', r', h'⟩ := hsp.nod hv k
  exact ⟨b, c, _, hv, c1, f1, bset hb (p := ⟨b, k * 6 + 1, none⟩) (by show w.heap.size ≤ b; omega) _, hBw, blk_other hmb (p := ⟨b, k * 6 + 1, none⟩) hbm _, _, _, _, h'⟩
set_option maxRecDepth 100000 in
set_option maxHeartbeats 16000000 in
theorem showPrints_walk (V : QryV) (Q : Qry) (w : World) (h : QryRd w w.heap.size V Q) (hw : QryWf Q) (ht : Tabs5 w) (ht2 : TabsR w) :
    Calls Tryd.prog 5 #[.agg (qryArr V Q)] w fun e w' => e = .returned (.bool true) ∧ Below w.heap.size w w' := by
  obtain ⟨aI, cI, aW, cW, aR, cR⟩ := V
  obtain ⟨tw, TT, hT⟩ := qtrees Q
  have HT := Lib.hid hT
  have hsm := h.sm
  have HSM := Lib.hid hsm
  have hnI := h.rI.small
  have hnW := h.rW.small
  have hnR := h.rR.small
  have HQ := Lib.hid h
  have HW := Lib.hid hw
  have HTB := Lib.hid ht
  have HTR := Lib.hid ht2
  have hb0 := bnew (Below.refl w.heap.size w) (.cells #[.slice aI Q.n cI, .int .i64 Q.mode, .int .i64 Q.after, .slice aW Q.wn cW, .int .i64 Q.within, .string Q.by_, .slice aR Q.m cR] 34)
  have Q0 := Lib.hid (blk_new w #[.slice aI Q.n cI, .int .i64 Q.mode, .int .i64 Q.after, .slice aW Q.wn cW, .int .i64 Q.within, .string Q.by_, .slice aR Q.m cR] 34)
  clear h hw ht ht2 hT hsm
  show Calls _ _ #[.agg #[.slice aI Q.n cI, .int .i64 Q.mode, .int .i64 Q.after, .slice aW Q.wn cW, .int .i64 Q.within, .string Q.by_, .slice aR Q.m cR]] w _
  obtain ⟨qb, hqb⟩ : ∃ q, w.heap.size = q := ⟨_, rfl⟩
  rw [hqb] at Q0
  go_enter Tryd.func5, Tryd.ntmps5
  go_upto_region 1 with fail
  try rw [hqb]
  clear hqb
  generalize w.alloc _ = w0 at *
  go_wp2_with (refine wpList_load_row rfl 34 _ rfl qb rfl 34 _ (0, 0) _ Q0.out Tryd.underlying34 rfl (by kernel_rfl) ?_)
  refine (queryBeyond_any ⟨aI, cI, aW, cW, aR, cR⟩ Q _ (HQ.out.later hb0)).mono ?_
  rintro e w1 ⟨⟨bb, rfl⟩, hb1⟩
  have hb01 := bcall hb0 hb1
  cases bb
  rotate_left
  · go_wp2_with fail
    go_ret
    exact ⟨rfl, hb01⟩
  have Q1 := Lib.hid (blk_below Q0.out hb1)
  go_wp2_with (refine wpList_load_row rfl 34 _ rfl qb rfl 34 _ (0, 0) _ Q1.out Tryd.underlying34 rfl (by kernel_rfl) ?_)
  refine (twin5_any ⟨aI, cI, aW, cW, aR, cR⟩ Q _ (HQ.out.later hb01)).mono ?_
  rintro e w2 ⟨⟨aI2, cI2, aW2, cW2, aR2, cR2⟩, rfl, hb2, hown2⟩
  unfold qryArr
  have hb02 := bcall hb01 hb2
  have hb23 := bnew (Below.refl w2.heap.size w2) (.cells #[.slice aI2 Q.n cI2, .int .i64 Q.mode, .int .i64 Q.after, .slice aW2 Q.wn cW2, .int .i64 Q.within, .string Q.by_, .slice aR2 Q.m cR2] 34)
  have hb03 := bcall hb02 hb23
  have P0 := Lib.hid (blk_new w2 #[.slice aI2 Q.n cI2, .int .i64 Q.mode, .int .i64 Q.after, .slice aW2 Q.wn cW2, .int .i64 Q.within, .string Q.by_, .slice aR2 Q.m cR2] 34)
  have HP3 := Lib.hid ((hown2.below hb23).rd HSM.out)
  have Q3 := Lib.hid (blk_below Q1.out (bcall hb2 hb23))
  obtain ⟨ab, hab⟩ : ∃ b, w2.heap.size = b := ⟨_, rfl⟩
  rw [hab] at P0
  clear hown2
  go_upto_region 4 with fail
  try rw [hab]
  clear hab
  generalize w2.alloc _ = w3 at *
  clear hb23 hb02 hb2
  go_wp2_with (refine wpList_load_row rfl 34 _ rfl qb rfl 34 _ (0, 0) _ Q3.out Tryd.underlying34 rfl (by kernel_rfl) ?_)
  refine (showPrint_any ⟨aI, cI, aW, cW, aR, cR⟩ Q tw TT HT.out _ (HQ.out.later hb03) HW.out (HTB.out.later hb03)).mono ?_
  obtain ⟨pr, hpr⟩ : ∃ r, printOf Q tw TT = r := ⟨_, rfl⟩
  have HPR := Lib.hid hpr
  rw [hpr]
  clear hpr
  obtain ⟨s, k0⟩ := pr
  dsimp only
  rintro e w4 ⟨rfl, hb34⟩
  have hb04 := bcall hb03 hb34
  have P4 := Lib.hid (blk_below P0.out hb34)
  have Q4 := Lib.hid (blk_below Q3.out hb34)
  have HP4 := Lib.hid (HP3.out.later hb34)
  go_wp2_with (refine wpList_load_row rfl 34 _ rfl ab rfl 34 _ (0, 0) _ P4.out Tryd.underlying34 rfl (by kernel_rfl) ?_)
  refine (refPrint_any ⟨aI2, cI2, aW2, cW2, aR2, cR2⟩ Q tw TT HT.out _ HP4.out HW.out (HTR.out.later hb04)).mono ?_
  rw [HPR.out]
  dsimp only
  rintro e w5 ⟨rfl, hb45⟩
  have hb05 := bcall hb04 hb45
  have P5 := Lib.hid (blk_below P4.out hb45)
  have Q5 := Lib.hid (blk_below Q4.out hb45)
  have HP5 := Lib.hid (HP4.out.later hb45)
  have q1 : (s.toList == s.toList) = true := beq_self_eq_true _
  have q2 : (k0 == k0) = true := beq_self_eq_true _
  obtain ⟨x0, x1, x2, x3, x4, x5, x6⟩ := blk7 Q5.out
  obtain ⟨y0, y1, y2, y3, y4, y5, y6⟩ := blk7 P5.out
  go_wp2_with fail
  clear x0 x1 x2 x3 x4 x5 x6 y0 y1 y2 y3 y4 y5 y6
  refine (sameQuery5_same ⟨aI, cI, aW, cW, aR, cR⟩ ⟨aI2, cI2, aW2, cW2, aR2, cR2⟩ Q _ (HQ.out.later hb05) HP5.out).mono ?_
  rintro e w6 ⟨rfl, hb56⟩
  have hb06 := bcall hb05 hb56
  have Q6 := Lib.hid (blk_below Q5.out hb56)
  clear q1 q2 P4 P5 HP3 HP4 HP5 P0 Q4 Q3 Q1 HPR
  go_wp2_with (refine wpList_load_row rfl 34 _ rfl qb rfl 34 _ (0, 0) _ Q6.out Tryd.underlying34 rfl (by kernel_rfl) ?_)
  refine (twin5_any ⟨aI, cI, aW, cW, aR, cR⟩ Q _ (HQ.out.later hb06)).mono ?_
  rintro e w7 ⟨⟨aI3, cI3, aW3, cW3, aR3, cR3⟩, rfl, hb67, hown7⟩
  unfold qryArr
  have hb07 := bcall hb06 hb67
  have hb78 := bnew (Below.refl w7.heap.size w7) (.cells #[.slice aI3 Q.n cI3, .int .i64 Q.mode, .int .i64 Q.after, .slice aW3 Q.wn cW3, .int .i64 Q.within, .string Q.by_, .slice aR3 Q.m cR3] 34)
  have hb08 := bcall hb07 hb78
  have M0 := Lib.hid (blk_new w7 #[.slice aI3 Q.n cI3, .int .i64 Q.mode, .int .i64 Q.after, .slice aW3 Q.wn cW3, .int .i64 Q.within, .string Q.by_, .slice aR3 Q.m cR3] 34)
  obtain ⟨B, hB⟩ : ∃ b, w6.heap.size = b := ⟨_, rfl⟩
  have hBw : w.heap.size ≤ B := by rw [← hB]; exact hb06.size
  rw [hB] at hown7
  have HO8 := Lib.hid (hown7.below hb78)
  obtain ⟨mb, hmb⟩ : ∃ b, w7.heap.size = b := ⟨_, rfl⟩
  rw [hmb] at M0
  clear hown7 hB
  go_upto_region 9 with fail
  try rw [hmb]
  clear hmb
  generalize w7.alloc _ = w8 at *
  clear hb78 hb07 hb67
  go_wp2_with (refine wpList_load_row rfl 34 _ rfl mb rfl 34 _ (0, 0) _ M0.out Tryd.underlying34 rfl (by kernel_rfl) ?_)
  refine (showPrint_any ⟨aI3, cI3, aW3, cW3, aR3, cR3⟩ Q tw TT HT.out _ (HO8.out.rd HSM.out) HW.out (HTB.out.later hb08)).mono ?_
  obtain ⟨pr, hpr⟩ : ∃ r, printOf Q tw TT = r := ⟨_, rfl⟩
  rw [hpr]
  clear hpr
  obtain ⟨s', k0'⟩ := pr
  dsimp only
  rintro e w9 ⟨rfl, hb89⟩
  have SP := Lib.hid (show SpAt w B mb ⟨aI3, cI3, aW3, cW3, aR3, cR3⟩ Q w9 from ⟨bcall hb08 hb89, hBw, blk_below M0.out hb89, _, _, _, Spoilt.start (HO8.out.below hb89) HW.out⟩)
  clear hb89 hb08 hb34 hb03 hb45 hb04 hb56 hb05 hb06 HO8 M0 Q6 Q5
  go_wp2_with fail
  go_loopw [9] (fun i wr => ∃ k : Nat, k ≤ Q.n ∧ i = .int .i64 k ∧ Hid (SpAt w B mb ⟨aI3, cI3, aW3, cW3, aR3, cR3⟩ Q wr)) (fun i _ => Q.n - (intOf i).toNat)
  case atStart => exact ⟨0, Nat.zero_le _, rfl, SP⟩
  case round =>
    clear SP
    obtain ⟨k, hk, rfl, HA⟩ := hrel
    obtain ⟨W1, e1⟩ : ∃ W1 : World, W1 = wr := ⟨_, rfl⟩
    subst e1
    have x0 : W1.cell? ⟨mb, 0, none⟩ = some (.slice aI3 Q.n cI3) := blk_cell HA.out.2.2.1 rfl
    by_cases hlt : k < Q.n
    · obtain ⟨b, c, rv, ng, hv, c0, c1, f0, hA2, _⟩ := HA.out.items hlt
      have hv2 : Value.slice aI3 Q.n cI3 = .slice (some ⟨b, 0, none⟩) Q.n c := hv
      rw [hv2] at x0
      have A2 := Lib.hid hA2
      clear hA2 hv hv2 c1
      go_upto_region 14 with fail
      generalize W1.setCell _ _ = W2 at *
      clear x0 c0 f0
      go_wp2_with fail
      go_loopw [10] (fun i wr => ∃ m : Nat, m ≤ (Q.it k).tn ∧ i = .int .i64 m ∧ Hid (SpAt w B mb ⟨aI3, cI3, aW3, cW3, aR3, cR3⟩ Q wr)) (fun i _ => (Q.it k).tn - (intOf i).toNat)
      case atStart => exact ⟨0, Nat.zero_le _, rfl, A2⟩
      case round =>
        clear A2 HA
        obtain ⟨m, hm, rfl, HA⟩ := hrel
        obtain ⟨W3, e1⟩ : ∃ W1 : World, W1 = wr := ⟨_, rfl⟩
        subst e1
        have x0 : W3.cell? ⟨mb, 0, none⟩ = some (.slice aI3 Q.n cI3) := blk_cell HA.out.2.2.1 rfl
        obtain ⟨b', c', rv', ng', hv', c0, c1, f0, hA2, xs, hown, hst⟩ := HA.out.items hlt
        have hv2 : Value.slice aI3 Q.n cI3 = .slice (some ⟨b', 0, none⟩) Q.n c' := hv'
        rw [hv2] at x0
        clear hv' hv2 hA2 f0 c0
        have htn3 : (Q.it k).tn * 16 ≤ 140737488351232 := HSM.out.tn k hlt
        by_cases hlm : m < (Q.it k).tn
        · obtain ⟨gT, cT, hvT, hBT, hltT⟩ := hown.form (by omega)
          rw [hvT] at c1 hown hst
          have A3 := Lib.hid (hst gT m ⟨#[90]⟩ rfl)
          have f1 := World.ownsRow.frozenAt hown m
          have c2 : ∃ y, W3.cell? ⟨gT, m, none⟩ = some y := by
            have h1 := hown.cellAt m (by omega)
            have hl := hown.1
            rw [h1]
            exact ⟨_, List.getElem?_eq_getElem (by omega)⟩
          obtain ⟨y, c2⟩ := c2
          clear hst hvT hown
          go_wp2_with fail
          go_roundw
          case rel => exact ⟨m + 1, by omega, by go_num, A3⟩
          case measure => simp [intOf]; omega
        · have hmn : m = (Q.it k).tn := by omega
          obtain ⟨AT, cT, hvT, _⟩ := rowown_shape hown
          rw [hvT] at c1
          have HMN := Lib.hid hmn
          clear hst hown hvT hmn
          go_wp2_with fail
          go_roundw
          case rel => exact ⟨k + 1, by omega, by go_num, HA⟩
          case measure => simp [intOf]; omega
    · have hkn : ¬ k < Q.n := hlt
      go_wp2_with fail
      clear x0
      go_loopw [11] (fun i wr => ∃ k : Nat, k ≤ Q.wn ∧ i = .int .i64 k ∧ Hid (SpAt w B mb ⟨aI3, cI3, aW3, cW3, aR3, cR3⟩ Q wr)) (fun i _ => Q.wn - (intOf i).toNat)
      case atStart => exact ⟨0, Nat.zero_le _, rfl, HA⟩
      case round =>
        clear HA hkn hlt hk
        obtain ⟨k, hk, rfl, HA⟩ := hrel
        obtain ⟨W4, e1⟩ : ∃ W1 : World, W1 = wr := ⟨_, rfl⟩
        subst e1
        have x3 : W4.cell? ⟨mb, 3, none⟩ = some (.slice aW3 Q.wn cW3) := blk_cell HA.out.2.2.1 rfl
        by_cases hlt : k < Q.wn
        · obtain ⟨b, c, x, hv, c1, f1, hA2⟩ := HA.out.where_ hlt
          have hv2 : Value.slice aW3 Q.wn cW3 = .slice (some ⟨b, 0, none⟩) Q.wn c := hv
          rw [hv2] at x3
          have A2 := Lib.hid hA2
          clear hA2 hv hv2
          go_wp2_with fail
          go_roundw
          case rel => exact ⟨k + 1, by omega, by go_num, A2⟩
          case measure => simp [intOf]; omega
        · obtain ⟨hbz, _, hmz, f, g, r, hsp⟩ := HA.out
          obtain ⟨tw2, TT2, hT2⟩ := qtrees (spQ Q f g r)
          have HT2 := Lib.hid hT2
          have HSP := Lib.hid hsp
          have MZ := Lib.hid hmz
          have HSM2 := Lib.hid (hsp.sm HSM.out)
          have HWF2 := Lib.hid hsp.wf
          have HRD := Lib.hid (hsp.own.rd HSM2.out)
          clear hT2 hsp hmz
          have MZ' : Hid (W4.heap[mb]? = some (.cells #[.slice aI3 Q.n cI3, .int .i64 Q.mode, .int .i64 Q.after, .slice aW3 Q.wn cW3, .int .i64 Q.within, .string Q.by_, .slice aR3 Q.m cR3] 34 (0, 0))) := MZ
          go_wp2_with (refine wpList_load_row rfl 34 _ rfl mb rfl 34 _ (0, 0) _ MZ'.out Tryd.underlying34 rfl (by kernel_rfl) ?_)
          refine (showPrint_any ⟨aI3, cI3, aW3, cW3, aR3, cR3⟩ (spQ Q f g r) tw2 TT2 HT2.out _ HRD.out HWF2.out (HTB.out.later hbz)).mono ?_
          obtain ⟨pr, hpr⟩ : ∃ r', printOf (spQ Q f g r) tw2 TT2 = r' := ⟨_, rfl⟩
          have HPR := Lib.hid hpr
          rw [hpr]
          clear hpr
          obtain ⟨s2, k2⟩ := pr
          dsimp only
          rintro e wA ⟨rfl, hbA⟩
          have hbzA := bcall hbz hbA
          have MA : Hid (wA.heap[mb]? = some (.cells #[.slice aI3 Q.n cI3, .int .i64 Q.mode, .int .i64 Q.after, .slice aW3 Q.wn cW3, .int .i64 Q.within, .string Q.by_, .slice aR3 Q.m cR3] 34 (0, 0))) := Lib.hid (blk_below MZ'.out hbA)
          go_wp2_with (refine wpList_load_row rfl 34 _ rfl mb rfl 34 _ (0, 0) _ MA.out Tryd.underlying34 rfl (by kernel_rfl) ?_)
          refine (twin5_any ⟨aI3, cI3, aW3, cW3, aR3, cR3⟩ (spQ Q f g r) _ (HRD.out.later hbA)).mono ?_
          rintro e wB ⟨⟨aI4, cI4, aW4, cW4, aR4, cR4⟩, rfl, hbB, hownB⟩
          have hbzB := bcall hbzA hbB
          have HRB := Lib.hid (hownB.rd HSM2.out)
          clear hownB
          go_wp2_with fail
          refine (refPrint_any ⟨aI4, cI4, aW4, cW4, aR4, cR4⟩ (spQ Q f g r) tw2 TT2 HT2.out _ HRB.out HWF2.out (HTR.out.later hbzB)).mono ?_
          rw [HPR.out]
          dsimp only
          rintro e wC ⟨rfl, hbC⟩
          have hbzC := bcall hbzB hbC
          have q1 : (s2.toList == s2.toList) = true := beq_self_eq_true _
          have q2 : (k2 == k2) = true := beq_self_eq_true _
          go_wp2_with fail
          go_ret
          exact ⟨rfl, hbzC⟩
theorem gAft : Tryd.prog.globalNamed "sluice/show.afters" = some 0 := by kernel_rfl
theorem tAft : (Tryd.prog.globals[0]?).map (·.type) = some 66 := by kernel_rfl
theorem aftVar {W : World} {laid : List (String × DataW Unit)} (h : laidMet Tryd.prog laid W) (i : Nat) (hi : laid[i]? = some ("sluice/show.afters", Rows.laid_sluice_show_afters)) : AftV W := by
  obtain ⟨cs, fuel, p, hv, hd⟩ := laid_at h i hi gAft tAft
  have hc := Lib.cells_of_tab (zs := aftL) (k := .i64) Tryd.underlying66 Tryd.underlying60 (by kernel_rfl) (by kernel_rfl) hd
  obtain ⟨t, fr, hb⟩ := var_block gAft hv
  refine ⟨t, fr, ?_⟩
  rw [hb]
  congr 2
  apply Array.ext'
  rw [List.toList_toArray]
  exact hc
set_option maxRecDepth 8000 in
set_option maxHeartbeats 1000000 in
theorem showPrints_main {H : Type} {enc : TypeId × Value → H} (W : World) (base : Nat) {v0 : Value} {d0 : DataW H} {p0 : List MemPlace} {X C S : Prop}
    (o0 : Value.okWide Tryd.prog W .any base 34 v0) (h0 : DataW.Trod enc Tryd.prog W 0 (fun _ => true) true 34 v0 d0 p0)
    (_ : X) (hz : ReachedAll Tryd.prog ([34] ++ (OpenSpec.ofChange Rows.showPrintsSpec).bare.plain.varTypes Tryd.prog) ([d0] ++ [])) (_ : C)
    (h : laidMetH Tryd.prog Rows.showPrintsRow.laid W) (_ : S) :
    Calls Tryd.prog 5 #[v0] W fun e W' => e = .returned (.bool true) ∧ Below W.heap.size W W' := by
  have hv0 := kwVar (laid := Rows.showPrintsRow.laid) h 3 rfl
  obtain ⟨t0, f0, g0⟩ := var_block gKeywords hv0
  obtain ⟨V, Q, rfl, hQ, hwf⟩ := open_query o0 h0 (reach_cons hz).1
  exact showPrints_walk V Q W hQ hwf
    ⟨levVar (laid := Rows.showPrintsRow.laid) h 7 rfl, sgnVar (laid := Rows.showPrintsRow.laid) h 8 rfl, aftVar (laid := Rows.showPrintsRow.laid) h 9 rfl, powVar (laid := Rows.showPrintsRow.laid) h 2 rfl, splVar (laid := Rows.showPrintsRow.laid) h 4 rfl, ⟨_, _, g0⟩⟩
    ⟨powVar (laid := Rows.showPrintsRow.laid) h 2 rfl, calVar (laid := Rows.showPrintsRow.laid) h 6 rfl, sgrVar (laid := Rows.showPrintsRow.laid) h 5 rfl, ⟨_, _, g0⟩⟩
end Go.Proofs.YtfcdkadblagijaaDoor

/-
  The walk of show.Print.
-/
import Derived.Test.YtfcdkadblagijaaDoorTree5
import Derived.Test.YtfcdkadblagijaaDoorShaped
import Derived.Deep.CutBlock
set_option linter.unusedSimpArgs false
set_option linter.unusedVariables false
namespace Go.Proofs.YtfcdkadblagijaaDoor
open Go.RowKit Go.ChangeShapes Go.WideShapes Go.ChangeAt Go.Deep Go.Joins
/-- The table of keywords behind AFTER. -/
def AftV (w : World) : Prop := ∃ t fr, w.heap[0]? = some (.cells (aftL.map fun n => Value.int .i64 n).toArray t fr)
theorem AftV.later {w w' : World} (h : AftV w) (hb : Below w.heap.size w w') : AftV w' := by obtain ⟨t, fr, h⟩ := h; exact ⟨t, fr, blk_below h hb⟩
theorem AftV.cell {w : World} (h : AftV w) {j : Nat} (hj : j < 4) : w.cell? ⟨0, j, none⟩ = some (.int .i64 (aftL.getD j 0)) := by
  obtain ⟨t, fr, h⟩ := h
  refine blk_cell h ?_
  have : j < aftL.length := hj
  simp [List.getD_eq_getElem?_getD, this]
/-- The tables that Print reads. -/
structure Tabs5 (w : World) : Prop where
  lev : LevV w
  sgn : SgnV w
  aft : AftV w
  pow : Pow w
  spl : SplV w
  kw : ∃ tt fr, w.heap[2]? = some (.cells kwArr tt fr)
theorem Tabs5.later {w w' : World} (h : Tabs5 w) (hb : Below w.heap.size w w') : Tabs5 w' :=
  ⟨h.lev.later hb, h.sgn.later hb, h.aft.later hb, h.pow.later hb, h.spl.later hb, by obtain ⟨tt, fr, h⟩ := h.kw; exact ⟨tt, fr, blk_below h hb⟩⟩
/-- What has been written since w: P, p deep, at most m tokens; the query lies at qb. -/
def PrAt (w : World) (R qb : Nat) (V : QryV) (Q : Qry) (P : List Tk) (p m : Nat) (wx : World) : Prop :=
  ∃ L d v, Stw w.heap.size w wx ∧ WrS wx w.heap.size R L 0 d v ∧ Wrote [] L 0 d 0 P p ∧ L.length ≤ m ∧ d ≤ 802 ∧ wx.heap[qb]? = some (.cells (qryArr V Q) 34 (0, 0))
section
variable {w wm wx w3 : World} {R qb : Nat} {V : QryV} {Q : Qry} {P P' M L L1 : List Tk} {p p' m m' d : Nat}
theorem PrAt.add (hs : Stw w.heap.size w wm) (hw : Wrote [] L1 0 d 0 P p) (hl : L1.length ≤ m) (hd : d ≤ 802) (hi : wm.heap[qb]? = some (.cells (qryArr V Q) 34 (0, 0))) (h3 : Stw w.heap.size wm w3) (hv : ∃ v, WrS w3 w.heap.size R (L1 ++ M) 0 d v) (e1 : 34 ≠ 62) (e2 : 34 ≠ 53) :
    PrAt w R qb V Q (P ++ M) p (m + M.length) w3 := by
  obtain ⟨v, hv⟩ := hv
  exact ⟨L1 ++ M, d, v, hs.trans h3, hv, hw.put (Nat.zero_le _) M, by rw [List.length_append]; omega, hd, h3.keep _ _ _ _ hi e1 e2⟩
theorem PrAt.more (h : PrAt w R qb V Q P p m wx) (hm : m ≤ m') (e : P = P') (ep : p = p') : PrAt w R qb V Q P' p' m' wx := by
  subst e ep
  obtain ⟨L, d, v, h1, h2, h3, h4, h5⟩ := h
  exact ⟨L, d, v, h1, h2, h3, by omega, h5⟩
theorem PrAt.at (h : PrAt w R qb V Q P p m wx) {j : Nat} {v : Value} (hj : (qryArr V Q)[j]? = some v) : wx.cell? ⟨qb, j, none⟩ = some v := by
  obtain ⟨L, d, v, h1, h2, h3, h4, h5, h6⟩ := h
  exact blk_cell h6 hj
theorem PrAt.below (h : PrAt w R qb V Q P p m wx) : Below w.heap.size w wx := by
  obtain ⟨L, d, v, h1, _⟩ := h
  exact h1.below
theorem prS1 {T : TypeId} (h : wx.heap[qb]? = some (.cells (qryArr V Q) T (0, 0))) : wx.cell? ⟨qb, 1, none⟩ = some (.int .i64 Q.mode) := blk_cell h rfl
theorem prS2 {T : TypeId} (h : wx.heap[qb]? = some (.cells (qryArr V Q) T (0, 0))) : wx.cell? ⟨qb, 2, none⟩ = some (.int .i64 Q.after) := blk_cell h rfl
theorem prS2j {T : TypeId} {j : Nat} (e : Q.after = (j : Int)) (h : wx.heap[qb]? = some (.cells (qryArr V Q) T (0, 0))) : wx.cell? ⟨qb, 2, none⟩ = some (.int .i64 (j : Int)) := by rw [← e]; exact blk_cell h rfl
theorem prS4 {T : TypeId} (h : wx.heap[qb]? = some (.cells (qryArr V Q) T (0, 0))) : wx.cell? ⟨qb, 4, none⟩ = some (.int .i64 Q.within) := blk_cell h rfl
theorem prS5 {T : TypeId} (h : wx.heap[qb]? = some (.cells (qryArr V Q) T (0, 0))) : wx.cell? ⟨qb, 5, none⟩ = some (.string Q.by_) := blk_cell h rfl
end
theorem itemsT_split (f : Nat → Itm) {k n : Nat} (hk : 0 < k) : k < n → ∃ r, itemsT f n = itemsT f k ++ r := by
  induction n with
  | zero => intro h; omega
  | succ n ih =>
    intro h
    by_cases e : k = n
    · subst e
      exact ⟨_, itemsT_succ f k hk⟩
    · obtain ⟨r, hr⟩ := ih (by omega)
      exact ⟨r ++ (mkT 7 :: itemT (f n)), by rw [itemsT_succ f n (by omega), hr]; simp⟩
theorem retsT_split (T : Nat → Tr) {k n : Nat} : k ≤ n → ∃ r q, retsT T n = retsT T k ++ r ∧ retsD T n = max (retsD T k) q := by
  induction n with
  | zero =>
    intro h
    obtain rfl : k = 0 := by omega
    exact ⟨[], 0, rfl, rfl⟩
  | succ n ih =>
    intro h
    by_cases e : k = n + 1
    · subst e
      exact ⟨[], 0, by simp, by simp⟩
    · obtain ⟨r, q, hr, hq⟩ := ih (by omega)
      exact ⟨r ++ (mkT (if n = 0 then 40 else 7) :: (T n).toks), max q (T n).dp, by rw [retsT, hr]; simp, by rw [retsD, hq, Nat.max_assoc]⟩
/-- The trees of a query's lists. -/
structure QTrees (Q : Qry) (tw : Nat → Tr) (TT : Nat → Nat → Tr) : Prop where
  wh : 0 < Q.wn → TreesOk2 Q.wn Q.wh tw
  rt : ∀ k, k < Q.m → TreesOk2 (Q.ln k) (Q.rt k) (TT k)
theorem qtrees (Q : Qry) : ∃ tw TT, QTrees Q tw TT := by
  obtain ⟨tw, h1⟩ := trees_ok2 Q.wn Q.wh
  obtain ⟨TT, h2⟩ := Classical.axiomOfChoice fun k => trees_ok2 (Q.ln k) (Q.rt k)
  exact ⟨tw, TT, fun _ => h1, fun k _ => h2 k⟩
/-- What Print answers. -/
def printOf (Q : Qry) (tw : Nat → Tr) (TT : Nat → Nat → Tr) : ByteArray × Int :=
  if shapedB Q = true then textRes (printT Q (tw (Q.wn - 1)) fun k => TT k (Q.ln k - 1)) (printD Q (tw (Q.wn - 1)) fun k => TT k (Q.ln k - 1)) else (⟨#[]⟩, 50)
structure ShQ (Q : Qry) : Prop where
  n0 : 0 < Q.n
  m0 : 0 ≤ Q.mode
  m2 : Q.mode ≤ 2
  a0 : 0 ≤ Q.after
  a3 : Q.after ≤ 3
  w0 : 0 ≤ Q.within
  it : ∀ k, k < Q.n → itemShB (Q.it k) = true
  wh : 0 < Q.wn → treeB Q.wn Q.wh = true
  by_ : Q.by_.toList.isEmpty = false → nameB Q.by_ = true
  rt : ∀ k, k < Q.m → treeB (Q.ln k) (Q.rt k) = true
theorem shq {Q : Qry} (h : shapedB Q = true) : ShQ Q := by
  simp only [shapedB, Bool.and_eq_true, Bool.or_eq_true, decide_eq_true_eq] at h
  obtain ⟨⟨⟨⟨⟨⟨⟨h1, h2, h3⟩, h4, h5⟩, h6⟩, h7⟩, h8⟩, h9⟩, h10⟩ := h
  exact ⟨h1, h2, h3, h4, h5, h6, fun k hk => of_all (p := fun i => itemShB (Q.it i)) h7 hk, fun h0 => h8.resolve_left (by omega), fun h0 => h9.resolve_left (by rw [h0]; decide), fun k hk => of_all (p := fun k => treeB (Q.ln k) (Q.rt k)) h10 hk⟩
theorem itemSh {x : Itm} (h : itemShB x = true) : 0 < x.tn ∧ nameB x.vr = true ∧ 0 ≤ x.lo ∧ 0 ≤ x.hi ∧ ∀ j, j < x.tn → nameB (x.ty j) = true := by
  simp only [itemShB, Bool.and_eq_true, decide_eq_true_eq] at h
  obtain ⟨⟨⟨⟨⟨h1, h2⟩, h3⟩, h4⟩, h5⟩, _⟩ := h
  exact ⟨h1, h2, h3, h4, fun j hj => of_all (p := fun j => nameB (x.ty j)) h5 hj⟩
theorem typesT_ok {ty : Nat → ByteArray} : ∀ n, (∀ j, j < n → nameB (ty j) = true) → ∀ t ∈ typesT ty n, TkOk t
  | 0, _ => by intro t ht; cases ht
  | 1, h => by
    intro t ht
    obtain rfl := List.mem_singleton.1 ht
    exact tkOk_name (h 0 (by omega))
  | n + 2, h => by
    intro t ht
    rw [typesT_succ ty (n + 1) (by omega)] at ht
    rcases List.mem_append.1 ht with ht | ht
    · exact typesT_ok (n + 1) (fun j hj => h j (by omega)) t ht
    · simp only [List.mem_cons, List.not_mem_nil, or_false] at ht
      rcases ht with rfl | rfl
      · exact tkOk_mk (by omega)
      · exact tkOk_name (h (n + 1) (by omega))
theorem itemT_ok {x : Itm} (h : itemShB x = true) (hw : ItmWf x) : ∀ t ∈ itemT x, TkOk t := by
  obtain ⟨_, hv, _, _, ht⟩ := itemSh h
  intro t hm
  simp only [itemT, typedT, negT, repT] at hm
  rcases List.mem_append.1 hm with hm | hm
  · split at hm
    · obtain rfl := List.mem_singleton.1 hm
      exact tkOk_mk (by omega)
    · cases hm
  rcases List.mem_append.1 hm with hm | hm
  · split at hm
    · rcases List.mem_cons.1 hm with rfl | hm
      · exact tkOk_mk (by omega)
      rcases List.mem_append.1 hm with hm | hm
      · exact typesT_ok _ ht t hm
      · obtain rfl := List.mem_singleton.1 hm
        exact tkOk_mk (by omega)
    · exact typesT_ok _ ht t hm
  · split at hm
    · obtain rfl := List.mem_singleton.1 hm
      exact tkOk_name hv
    · split at hm
      · simp only [List.mem_cons, List.not_mem_nil, or_false] at hm
        rcases hm with rfl | rfl
        · exact tkOk_mk (by omega)
        · exact tkOk_name hv
      · simp only [List.mem_cons, List.not_mem_nil, or_false] at hm
        rcases hm with rfl | rfl | rfl | rfl | rfl | rfl
        · exact tkOk_name hv
        · exact tkOk_mk (by omega)
        · exact tkOk_num hw.lo
        · exact tkOk_mk (by omega)
        · exact tkOk_num hw.hi
        · exact tkOk_mk (by omega)
theorem itemsT_ok {f : Nat → Itm} : ∀ n, (∀ j, j < n → itemShB (f j) = true ∧ ItmWf (f j)) → ∀ t ∈ itemsT f n, TkOk t
  | 0, _ => by intro t ht; cases ht
  | 1, h => itemT_ok (h 0 (by omega)).1 (h 0 (by omega)).2
  | n + 2, h => by
    intro t ht
    rw [itemsT_succ f (n + 1) (by omega)] at ht
    rcases List.mem_append.1 ht with ht | ht
    · exact itemsT_ok (n + 1) (fun j hj => h j (by omega)) t ht
    · rcases List.mem_cons.1 ht with rfl | ht
      · exact tkOk_mk (by omega)
      · exact itemT_ok (h (n + 1) (by omega)).1 (h (n + 1) (by omega)).2 t ht
theorem retsT_ok {T : Nat → Tr} : ∀ n, (∀ j, j < n → ∀ t ∈ (T j).toks, TkOk t) → ∀ t ∈ retsT T n, TkOk t
  | 0, _ => by intro t ht; cases ht
  | n + 1, h => by
    intro t ht
    rw [retsT] at ht
    rcases List.mem_append.1 ht with ht | ht
    · exact retsT_ok n (fun j hj => h j (by omega)) t ht
    · rcases List.mem_cons.1 ht with rfl | ht
      · exact tkOk_mk (by split <;> omega)
      · exact h n (by omega) t ht
theorem printT_ok {Q : Qry} {tw : Nat → Tr} {TT : Nat → Nat → Tr} (h : ShQ Q) (hw : QryWf Q) (hT : QTrees Q tw TT) : ∀ t ∈ printT Q (tw (Q.wn - 1)) (fun k => TT k (Q.ln k - 1)), TkOk t := by
  intro t ht
  simp only [printT, headT] at ht
  rcases List.mem_append.1 ht with ht | ht
  rotate_left
  · refine retsT_ok _ (fun j hj => ?_) t ht
    obtain ⟨h0, h1, _⟩ := hT.rt j hj (h.rt j hj)
    exact toks_ok (fun i hi => (h1 i hi).1) (hw.rt j hj) (Q.ln j - 1) (by omega)
  rcases List.mem_append.1 ht with ht | ht
  rotate_left
  · unfold byT at ht
    split at ht
    · cases ht
    · rename_i hb
      simp only [List.mem_cons, List.not_mem_nil, or_false] at ht
      rcases ht with rfl | rfl | rfl
      · exact tkOk_mk (by omega)
      · exact tkOk_mk (by omega)
      · exact tkOk_name (h.by_ (by simpa using hb))
  rcases List.mem_append.1 ht with ht | ht
  rotate_left
  · simp only [List.mem_cons, List.not_mem_nil, or_false] at ht
    rcases ht with rfl | rfl
    · exact tkOk_mk (by omega)
    · exact tkOk_num hw.within
  rcases List.mem_append.1 ht with ht | ht
  rotate_left
  · unfold whereT at ht
    split at ht
    · cases ht
    · rename_i h0
      rcases List.mem_cons.1 ht with rfl | ht
      · exact tkOk_mk (by omega)
      · obtain ⟨h0, h1, _⟩ := hT.wh (by omega) (h.wh (by omega))
        exact toks_ok (fun i hi => (h1 i hi).1) hw.wh (Q.wn - 1) (by omega) t ht
  rcases List.mem_append.1 ht with ht | ht
  rotate_left
  · unfold afterT at ht
    split at ht
    · cases ht
    · simp only [List.mem_cons, List.not_mem_nil, or_false] at ht
      have h0 := h.a0
      have h3 := h.a3
      rcases ht with rfl | rfl
      · exact tkOk_mk (by omega)
      · refine tkOk_mk ?_
        have hj : Q.after.toNat < 4 := by omega
        generalize Q.after.toNat = j at hj
        have : ∀ j, j < 4 → 30 ≤ aftL.getD j 0 ∧ aftL.getD j 0 ≤ 56 := by decide
        exact Or.inr (this j hj)
  rcases List.mem_append.1 ht with ht | ht
  rotate_left
  · unfold usingT at ht
    split at ht
    · cases ht
    · simp only [List.mem_cons, List.not_mem_nil, or_false] at ht
      have h0 := h.m0
      have h3 := h.m2
      rcases ht with rfl | rfl
      · exact tkOk_mk (by omega)
      · exact tkOk_mk (by omega)
  rcases List.mem_append.1 ht with ht | ht
  rotate_left
  · obtain rfl := List.mem_singleton.1 ht
    exact tkOk_mk (by omega)
  rcases List.mem_append.1 ht with ht | ht
  rotate_left
  · exact itemsT_ok _ (fun j hj => ⟨h.it j hj, hw.it j hj⟩) t ht
  · simp only [List.mem_cons, List.not_mem_nil, or_false] at ht
    rcases ht with rfl | rfl | rfl
    · exact tkOk_mk (by omega)
    · exact tkOk_mk (by omega)
    · exact tkOk_mk (by omega)
/-- What has been written ahead of each part. -/
def hdA (Q : Qry) (k : Nat) : List Tk := [mkT 30, mkT 31, mkT 3] ++ itemsT Q.it k
def hdB (Q : Qry) : List Tk := hdA Q Q.n ++ [mkT 4]
def hdC (Q : Qry) : List Tk := hdB Q ++ usingT Q.mode
def hdD (Q : Qry) : List Tk := hdC Q ++ afterT Q.after
def hdE (Q : Qry) (t : Tr) : List Tk := hdD Q ++ whereT Q.wn t
def hdF (Q : Qry) (t : Tr) : List Tk := hdE Q t ++ [mkT 37, nuT Q.within]
theorem headT_eq (Q : Qry) (t : Tr) : headT Q t = hdF Q t ++ byT Q.by_ := rfl
set_option maxRecDepth 100000 in
set_option maxHeartbeats 16000000 in
theorem showPrint_any (V : QryV) (Q : Qry) (tw : Nat → Tr) (TT : Nat → Nat → Tr) (hT : QTrees Q tw TT) (w : World) (h : QryRd w w.heap.size V Q) (hw : QryWf Q) (ht : Tabs5 w) :
    Calls Tryd.prog 15 #[.agg (qryArr V Q)] w fun e w' => e = .returned (.tuple #[.string (printOf Q tw TT).1, .int .i64 (printOf Q tw TT).2]) ∧ Below w.heap.size w w' := by
  obtain ⟨aI, cI, aW, cW, aR, cR⟩ := V
  have hnI := h.rI.small
  have hnW := h.rW.small
  have hnR := h.rR.small
  have hb0 := bnew (Below.refl w.heap.size w) (.cells (qryArr ⟨aI, cI, aW, cW, aR, cR⟩ Q) 34)
  have Q0 := Lib.hid (blk_new w (qryArr ⟨aI, cI, aW, cW, aR, cR⟩ Q) 34)
  have HQ := Lib.hid h
  have HW := Lib.hid hw
  have HT := Lib.hid hT
  have HTB := Lib.hid ht
  clear h hw hT ht
  show Calls _ _ #[.agg #[.slice aI Q.n cI, .int .i64 Q.mode, .int .i64 Q.after, .slice aW Q.wn cW, .int .i64 Q.within, .string Q.by_, .slice aR Q.m cR]] w _
  unfold qryArr at hb0 Q0
  dsimp only at hb0 Q0
  obtain ⟨qb, hqb⟩ : ∃ q, w.heap.size = q := ⟨_, rfl⟩
  have HQB := Lib.hid hqb
  have q0s : (w.alloc (.cells #[.slice aI Q.n cI, .int .i64 Q.mode, .int .i64 Q.after, .slice aW Q.wn cW, .int .i64 Q.within, .string Q.by_, .slice aR Q.m cR] 34)).heap[qb]? = some (.cells #[.slice aI Q.n cI, .int .i64 Q.mode, .int .i64 Q.after, .slice aW Q.wn cW, .int .i64 Q.within, .string Q.by_, .slice aR Q.m cR] 34 (0, 0)) := by rw [← hqb]; exact Q0.out
  have Q1 := Lib.hid q0s
  clear Q0 q0s
  go_enter Tryd.func15, Tryd.ntmps15
  go_upto_region 1 with fail
  try rw [hqb]
  clear hqb
  generalize w.alloc _ = w0 at *
  go_wp2_with (refine wpList_load_row rfl 34 _ rfl qb rfl 34 _ (0, 0) _ Q1.out Tryd.underlying34 rfl (by kernel_rfl) ?_)
  have HKW := HTB.out.kw
  obtain ⟨tt, fr, hkw⟩ := HKW
  have HK := Lib.hid hkw
  clear hkw
  have HQ0 := Lib.hid (HQ.out.later hb0)
  have HK0 := Lib.hid (block_below HK.out hb0)
  refine (showShaped_any ⟨aI, cI, aW, cW, aR, cR⟩ Q _ HQ0.out HK0.out).mono ?_
  rintro e w2 ⟨rfl, hb2⟩
  have hb02 := bcall hb0 hb2
  cases hq : shapedB Q
  · have HE := Lib.hid (show printOf Q tw TT = (⟨#[]⟩, 50) from if_neg (by rw [hq]; simp))
    clear hq
    go_wp2_with fail
    go_ret2
    exact ⟨by rw [HE.out]; rfl, hb02⟩
  have HE := Lib.hid (show printOf Q tw TT = textRes (printT Q (tw (Q.wn - 1)) fun k => TT k (Q.ln k - 1)) (printD Q (tw (Q.wn - 1)) fun k => TT k (Q.ln k - 1)) from if_pos hq)
  have HS := Lib.hid (shq hq)
  clear hq
  have Q2 := Lib.hid (blk_below Q1.out hb2)
  have hb3 := bnew (Below.refl w2.heap.size w2) (.cells #[.slice none 0 0, .int .i64 0, .int .i64 0] 53)
  have A0 := Lib.hid (show PrAt w w2.heap.size qb ⟨aI, cI, aW, cW, aR, cR⟩ Q [] 0 0 (w2.alloc (.cells #[.slice none 0 0, .int .i64 0, .int .i64 0] 53)) from
    ⟨[], 0, .slice none 0 0, (Stw.of hb02 (Nat.le_refl _)).trans (Stw.of hb3 hb02.size), ⟨hb02.size, blk_new _ _ _, World.ownsRow_nil _ _ _ _⟩, Wrote.none (Nat.le_refl _), Nat.le_refl _, by omega, blk_below Q2.out hb3⟩)
  obtain ⟨R, hR⟩ : ∃ R, w2.heap.size = R := ⟨_, rfl⟩
  rw [hR] at A0
  clear hb3 Q2 hb0 hb2 Q1 HQ0 HK0
  go_upto_region 4 with fail
  try rw [hR]
  clear hR
  generalize w2.alloc _ = wa at *
  clear hb02 w2
  obtain ⟨L1, d1, v1, hs1, h1, hw1, hl1, hd1, hq1⟩ := A0.out
  have H1 := Lib.hid h1
  have S1 := Lib.hid hs1
  have WR1 := Lib.hid hw1
  have I1 := Lib.hid hq1
  have hBw1 : w.heap.size ≤ wa.heap.size := hs1.size
  clear h1 hs1 hw1 hq1
  go_wp2_with fail
  refine (mark_any 30 _).mono ?_
  rintro e y0 ⟨rfl, hy0⟩
  have hz0 := hy0
  go_wp2_with fail
  refine (mark_any 31 _).mono ?_
  rintro e y1 ⟨rfl, hy1⟩
  have hz1 := bcall hz0 hy1
  go_wp2_with fail
  refine (mark_any 3 _).mono ?_
  rintro e y2 ⟨rfl, hy2⟩
  have hz2 := bcall hz1 hy2
  have hb2 := bnew hz2 (.cells #[.int .i64 30, .string ⟨#[]⟩, .int .i64 0, .int .i64 0, .int .i64 31, .string ⟨#[]⟩, .int .i64 0, .int .i64 0, .int .i64 3, .string ⟨#[]⟩, .int .i64 0, .int .i64 0] 62)
  have T2 := Lib.hid (blk_new y2 #[.int .i64 30, .string ⟨#[]⟩, .int .i64 0, .int .i64 0, .int .i64 31, .string ⟨#[]⟩, .int .i64 0, .int .i64 0, .int .i64 3, .string ⟨#[]⟩, .int .i64 0, .int .i64 0] 62)
  have H2 := Lib.hid (H1.out.below hb2)
  have S2 := Lib.hid (S1.out.trans (Stw.of hb2 hBw1))
  have I2 := Lib.hid (blk_below I1.out hb2)
  clear H1 S1 I1
  go_wp2_with fail
  refine (add_any w.heap.size R L1 [mkT 30, mkT 31, mkT 3] 0 d1 v1 (some ⟨y2.heap.size, 0, none⟩) 3 _ H2.out (tkRd_blk T2.out rfl) (fun h => by cases h) (by simp only [List.length_cons, List.length_nil]; omega)).mono ?_
  rintro e w3 ⟨rfl, hs3, hv3⟩
  have A1 := Lib.hid (PrAt.add (Q := Q) (M := [mkT 30, mkT 31, mkT 3]) S2.out WR1.out hl1 hd1 I2.out hs3 hv3 (by decide) (by decide))
  clear hs3 hv3 H2 S2 I2 T2 WR1 hy2 hz2 hy1 hz1 hy0 hz0 hb2 hl1 hd1 hBw1
  go_upto_block 0 with fail
  go_cut [] from 5 to 42 (fun wx => Hid (PrAt w R qb ⟨aI, cI, aW, cW, aR, cR⟩ Q (hdA Q Q.n) 0 520 wx))
  case first =>
    go_wp2_with fail
    go_loopw [5] (fun i wr => ∃ k : Nat, k ≤ Q.n ∧ i = .int .i64 k ∧ Hid (PrAt w R qb ⟨aI, cI, aW, cW, aR, cR⟩ Q (hdA Q k) 0 520 wr)) (fun i _ => Q.n - (intOf i).toNat)
    case atStart => exact ⟨0, Nat.zero_le _, rfl, Lib.hid (A1.out.more (by simp) (by simp [hdA, itemsT]) rfl)⟩
    case round =>
      obtain ⟨k, hk, rfl, HA⟩ := hrel
      obtain ⟨W1, e1⟩ : ∃ W1 : World, W1 = wr := ⟨_, rfl⟩
      subst e1
      have x0 : W1.cell? ⟨qb, 0, none⟩ = some (.slice aI Q.n cI) := HA.out.at (j := 0) rfl
      by_cases hlt : k < Q.n
      · skip
        obtain ⟨L1, d1, v1, hs1, h1, hw1, hl1, hd1, hq1⟩ := HA.out
        have H1 := Lib.hid h1
        have S1 := Lib.hid hs1
        have WR1 := Lib.hid hw1
        have I1 := Lib.hid hq1
        have hBw1 : w.heap.size ≤ W1.heap.size := hs1.size
        clear h1 hs1 hw1 hq1
        go_wp2_with fail
        refine (full_any w.heap.size R L1 0 d1 v1 _ H1.out).mono ?_
        rintro e w7 ⟨rfl, rfl⟩
        by_cases hf : 400 < L1.length
        · rw [decide_eq_true hf]
          go_wp2_with fail
          go_meet
          refine Lib.hid ⟨L1, d1, v1, S1.out, H1.out, ?_, by omega, hd1, I1.out⟩
          obtain ⟨r, hr⟩ : ∃ r, hdA Q Q.n = hdA Q k ++ r := by
            rcases Nat.eq_zero_or_pos k with hk0 | hk0
            · exact ⟨itemsT Q.it Q.n, by rw [hk0]; simp [hdA, itemsT]⟩
            · obtain ⟨r, hr⟩ := itemsT_split Q.it hk0 hlt
              exact ⟨r, by unfold hdA; rw [hr, List.append_assoc]⟩
          have := WR1.out.more hf r 0
          rw [hr]
          rwa [Nat.max_zero] at this
        · rw [decide_eq_false hf]
          have A2 := Lib.hid (show PrAt w R qb ⟨aI, cI, aW, cW, aR, cR⟩ Q (hdA Q k) 0 400 w7 from ⟨L1, d1, v1, S1.out, H1.out, WR1.out, by omega, hd1, I1.out⟩)
          clear H1 S1 WR1 I1 HA hl1 hd1 hf
          go_upto_if 31 with fail
          go_cut [] from 28 to 42 (fun wx => Hid (PrAt w R qb ⟨aI, cI, aW, cW, aR, cR⟩ Q (hdA Q k ++ if k = 0 then [] else [mkT 7]) 0 401 wx))
          case first =>
            by_cases hk0 : 0 < k
            rotate_left
            · have HK0 := Lib.hid hk0
              go_wp2_with fail
              go_meet
              exact Lib.hid (A2.out.more (by omega) (by rw [if_pos (show k = 0 by have := HK0.out; omega), List.append_nil]) rfl)
            · clear x0
              obtain ⟨L1, d1, v1, hs1, h1, hw1, hl1, hd1, hq1⟩ := A2.out
              have H1 := Lib.hid h1
              have S1 := Lib.hid hs1
              have WR1 := Lib.hid hw1
              have I1 := Lib.hid hq1
              have hBw1 : w.heap.size ≤ w7.heap.size := hs1.size
              clear h1 hs1 hw1 hq1
              go_wp2_with fail
              refine (mark_any 7 _).mono ?_
              rintro e y0 ⟨rfl, hy0⟩
              have hz0 := hy0
              have hb2 := bnew hz0 (.cells #[.int .i64 7, .string ⟨#[]⟩, .int .i64 0, .int .i64 0] 62)
              have T2 := Lib.hid (blk_new y0 #[.int .i64 7, .string ⟨#[]⟩, .int .i64 0, .int .i64 0] 62)
              have H2 := Lib.hid (H1.out.below hb2)
              have S2 := Lib.hid (S1.out.trans (Stw.of hb2 hBw1))
              have I2 := Lib.hid (blk_below I1.out hb2)
              clear H1 S1 I1
              go_wp2_with fail
              refine (add_any w.heap.size R L1 [mkT 7] 0 d1 v1 (some ⟨y0.heap.size, 0, none⟩) 1 _ H2.out (tkRd_blk T2.out rfl) (fun h => by cases h) (by simp only [List.length_cons, List.length_nil]; omega)).mono ?_
              rintro e w3 ⟨rfl, hs3, hv3⟩
              have A3 := Lib.hid (PrAt.add (Q := Q) (M := [mkT 7]) S2.out WR1.out hl1 hd1 I2.out hs3 hv3 (by decide) (by decide))
              clear hs3 hv3 H2 S2 I2 T2 WR1 hy0 hb2 hl1 hd1 hBw1
              go_wp2_with fail
              go_meet
              exact Lib.hid (A3.out.more (by simp) (by rw [if_neg (show ¬ k = 0 by omega)]) rfl)
          case rest =>
          clear A2 x0 w7 hBw1
          have A3 := hcut
          clear hcut
          obtain ⟨wb, ewb⟩ : ∃ W1 : World, W1 = wc := ⟨_, rfl⟩
          subst ewb
          have x0 : wb.cell? ⟨qb, 0, none⟩ = some (.slice aI Q.n cI) := A3.out.at (j := 0) rfl
          obtain ⟨L1, d1, v1, hs1, h1, hw1, hl1, hd1, hq1⟩ := A3.out
          have H1 := Lib.hid h1
          have S1 := Lib.hid hs1
          have WR1 := Lib.hid hw1
          have I1 := Lib.hid hq1
          have hBw1 : w.heap.size ≤ wb.heap.size := hs1.size
          clear h1 hs1 hw1 hq1
          obtain ⟨b, off, eI, hbl, hcs⟩ := (HQ.out.rI.below S1.out.below).spot (by omega)
          have eJ : aI = some ⟨b, off, none⟩ := eI
          rw [eJ] at x0
          clear eI eJ
          obtain ⟨g0, ⟨ta, tc, g1, _, _, hty⟩, g2, g3, g4⟩ := hcs k hlt
          have HSH := Lib.hid (HS.out.it k hlt)
          have HEQ := Lib.hid (show hdA Q (k + 1) = hdA Q k ++ (if k = 0 then [] else [mkT 7]) ++ itemT (Q.it k) by
            rcases Nat.eq_zero_or_pos k with hk0 | hk0
            · rw [if_pos hk0, hk0]; simp [hdA, itemsT]
            · rw [if_neg (show ¬ k = 0 by omega)]
              unfold hdA
              rw [itemsT_succ Q.it k hk0]
              simp)
          obtain ⟨x, hx⟩ : ∃ x, Q.it k = x := ⟨_, rfl⟩
          rw [hx] at g0 g1 g2 g3 g4 hty HSH HEQ
          obtain ⟨ng, tn, ty, vr, lo, hi⟩ := x
          have HTY := Lib.hid hty
          clear hcs hx hty
          go_wp2_with fail
          refine (item_any w.heap.size R L1 d1 v1 ng tn ty vr lo hi ta tc _ H1.out HTY.out (itemSh HSH.out).1 (by omega)).mono ?_
          rintro e w9 ⟨rfl, hs9, L9, v9, h9, hw9, hl9⟩
          have A5 := Lib.hid (show PrAt w R qb ⟨aI, cI, aW, cW, aR, cR⟩ Q (hdA Q (k + 1)) 0 520 w9 from ⟨L9, d1, v9, S1.out.trans hs9, h9, by rw [HEQ.out]; exact WR1.out.trans hw9, hl9, hd1, hs9.keep _ _ _ _ I1.out (by decide) (by decide)⟩)
          clear hs9 h9 hw9 hl9
          go_wp2_with fail
          go_roundw
          case rel => exact ⟨k + 1, by omega, by go_num, A5⟩
          case measure => simp [intOf]; omega
      · obtain hkn : k = Q.n := by omega
        have HKN := Lib.hid hkn
        clear hkn
        go_wp2_with fail
        go_meet
        exact Lib.hid (by rw [← HKN.out]; exact HA.out)
  case rest =>
  clear A1
  have A1 := hcut
  clear hcut
  obtain ⟨wb, ewb⟩ : ∃ W1 : World, W1 = wc := ⟨_, rfl⟩
  subst ewb
  obtain ⟨L1, d1, v1, hs1, h1, hw1, hl1, hd1, hq1⟩ := A1.out
  have H1 := Lib.hid h1
  have S1 := Lib.hid hs1
  have WR1 := Lib.hid hw1
  have I1 := Lib.hid hq1
  have hBw1 : w.heap.size ≤ wb.heap.size := hs1.size
  clear h1 hs1 hw1 hq1
  go_wp2_with fail
  refine (mark_any 4 _).mono ?_
  rintro e y0 ⟨rfl, hy0⟩
  have hz0 := hy0
  have hb2 := bnew hz0 (.cells #[.int .i64 4, .string ⟨#[]⟩, .int .i64 0, .int .i64 0] 62)
  have T2 := Lib.hid (blk_new y0 #[.int .i64 4, .string ⟨#[]⟩, .int .i64 0, .int .i64 0] 62)
  have H2 := Lib.hid (H1.out.below hb2)
  have S2 := Lib.hid (S1.out.trans (Stw.of hb2 hBw1))
  have I2 := Lib.hid (blk_below I1.out hb2)
  clear H1 S1 I1
  go_wp2_with fail
  refine (add_any w.heap.size R L1 [mkT 4] 0 d1 v1 (some ⟨y0.heap.size, 0, none⟩) 1 _ H2.out (tkRd_blk T2.out rfl) (fun h => by cases h) (by simp only [List.length_cons, List.length_nil]; omega)).mono ?_
  rintro e w3 ⟨rfl, hs3, hv3⟩
  have A2 := Lib.hid (PrAt.add (Q := Q) (M := [mkT 4]) S2.out WR1.out hl1 hd1 I2.out hs3 hv3 (by decide) (by decide))
  clear hs3 hv3 H2 S2 I2 T2 WR1 hy0 hb2 hl1 hd1 hBw1
  clear A1
  have A2 := Lib.hid (show PrAt w R qb ⟨aI, cI, aW, cW, aR, cR⟩ Q (hdB Q) 0 521 w3 from A2.out.more (by simp) rfl rfl)
  have x1 : w3.cell? ⟨qb, 1, none⟩ = some (.int .i64 Q.mode) := A2.out.at (j := 1) rfl
  have hm0 := HS.out.m0
  have hm2 := HS.out.m2
  go_upto_if 49 with fail
  go_cut [] from 43 to 57 (fun wx => Hid (PrAt w R qb ⟨aI, cI, aW, cW, aR, cR⟩ Q (hdC Q) 0 523 wx))
  case first =>
    by_cases hm : Q.mode = 0
    · have hz : (Q.mode == 0) = true := by rw [beq_iff_eq]; exact hm
      have HM := Lib.hid hm
      clear hm
      go_wp2_with fail
      go_meet
      exact Lib.hid (A2.out.more (by omega) (by unfold hdC usingT; rw [if_pos HM.out, List.append_nil]) rfl)
    · have hz : (Q.mode == 0) = false := by rw [beq_eq_false_iff_ne]; exact hm
      have HM := Lib.hid hm
      clear hm
      have hwr : IntKind.i64.wrap (33 + Q.mode) = 33 + Q.mode := by rw [IntKind.wrap_i64]; omega
      obtain ⟨L1, d1, v1, hs1, h1, hw1, hl1, hd1, hq1⟩ := A2.out
      have H1 := Lib.hid h1
      have S1 := Lib.hid hs1
      have WR1 := Lib.hid hw1
      have I1 := Lib.hid hq1
      have hBw1 : w.heap.size ≤ w3.heap.size := hs1.size
      clear h1 hs1 hw1 hq1
      clear x1
      go_upto_region 13 with fail
      go_region_held3 (fun w' => w'.heap[qb]? = some (.cells (qryArr ⟨aI, cI, aW, cW, aR, cR⟩ Q) 34 (0, 0)) ∧ w'.cell? ⟨qb, 1, none⟩ = some (.int .i64 Q.mode))
        (first
          | exact ⟨blk_below I1.out (Below.refl _ _).drew, prS1 (blk_below I1.out (Below.refl _ _).drew)⟩
          | (go_split_ands; exact ⟨hsz.keep _ _ _ _ (by assumption) (by decide) (by decide), prS1 (hsz.keep _ _ _ _ (by assumption) (by decide) (by decide))⟩)
          | (go_split_ands; exact ⟨blk_below (by assumption) hbz, prS1 (blk_below (by assumption) hbz)⟩)
          | (go_split_ands; exact ⟨blk_below (by assumption) (bnew (Below.refl _ _) _), prS1 (blk_below (by assumption) (bnew (Below.refl _ _) _))⟩)
          | (go_split_ands; exact ⟨by assumption, prS1 (by assumption)⟩))
        (first
          | (go_at_call 26; refine (mark_any _ _).mono ?_; rintro e wz ⟨rfl, hbz⟩; first | (have hbr := bcall hbr hbz) | (have hbr := bcall (Below.refl w3.heap.size w3).drew hbz))
          | (go_at_call 31; refine (tokName_any _ _).mono ?_; rintro e wz ⟨rfl, hbz⟩; first | (have hbr := bcall hbr hbz) | (have hbr := bcall (Below.refl w3.heap.size w3).drew hbz))
          | (go_at_call 30; refine (tokNum_any _ _).mono ?_; rintro e wz ⟨rfl, hbz⟩; first | (have hbr := bcall hbr hbz) | (have hbr := bcall (Below.refl w3.heap.size w3).drew hbz))
          | (go_at_call 25; have hbq : Below w3.heap.size w3 (wz.alloc (.cells #[.int .i64 32, .string ⟨#[]⟩, .int .i64 0, .int .i64 0, .int .i64 (33 + Q.mode), .string ⟨#[]⟩, .int .i64 0, .int .i64 0] 62)) := bnew hbr _; refine (add_any w.heap.size R L1 [mkT 32, mkT (33 + Q.mode)] 0 d1 v1 (some ⟨_, 0, none⟩) 2 _ (H1.out.below hbq) (tkRd_blk (blk_new _ _ _) rfl) (fun h => by cases h) (by simp only [List.length_cons, List.length_nil]; omega)).mono ?_; rintro e wq ⟨rfl, hsz, hvq⟩; have A3 := Lib.hid (PrAt.add (Q := Q) (M := [mkT 32, mkT (33 + Q.mode)]) (S1.out.trans (Stw.of hbq hBw1)) WR1.out hl1 hd1 (blk_below I1.out hbq) hsz hvq (by decide) (by decide))))
      go_split_ands
      go_wp2_with fail
      go_meet
      exact Lib.hid (A3.out.more (by simp) (by unfold hdC usingT; rw [if_neg HM.out]) rfl)
  case rest =>
  clear A2 x1 hm0 hm2
  have A1 := hcut
  clear hcut
  obtain ⟨wd, ewd⟩ : ∃ W1 : World, W1 = wc := ⟨_, rfl⟩
  subst ewd
  have ha0 := HS.out.a0
  have ha3 := HS.out.a3
  have x2 : wd.cell? ⟨qb, 2, none⟩ = some (.int .i64 Q.after) := A1.out.at (j := 2) rfl
  go_upto_if 60 with fail
  go_cut [] from 43 to 69 (fun wx => Hid (PrAt w R qb ⟨aI, cI, aW, cW, aR, cR⟩ Q (hdD Q) 0 525 wx))
  case first =>
    by_cases hm : Q.after = 0
    · have hz : (Q.after == 0) = true := by rw [beq_iff_eq]; exact hm
      have HM := Lib.hid hm
      clear hm
      go_wp2_with fail
      go_meet
      exact Lib.hid (A1.out.more (by omega) (by unfold hdD afterT; rw [if_pos HM.out, List.append_nil]) rfl)
    · have hz : (Q.after == 0) = false := by rw [beq_eq_false_iff_ne]; exact hm
      have HM := Lib.hid hm
      obtain ⟨j, hj⟩ : ∃ j : Nat, Q.after = (j : Int) := ⟨Q.after.toNat, by omega⟩
      have HJ := Lib.hid hj
      have hj4 : j < 4 := by omega
      have hj4i : (j : Int) < 4 := by omega
      have t0 := HTB.out.aft.cell hj4
      have hgl := cell_lt t0
      have a0 := ((A1.out.below).cell (p := ⟨0, j, none⟩) hgl).trans t0
      obtain ⟨x, hx⟩ : ∃ x, aftL.getD j 0 = x := ⟨_, rfl⟩
      have HX := Lib.hid hx
      rw [hx] at a0
      clear hm hj hx t0 ha0 ha3
      obtain ⟨L1, d1, v1, hs1, h1, hw1, hl1, hd1, hq1⟩ := A1.out
      have H1 := Lib.hid h1
      have S1 := Lib.hid hs1
      have WR1 := Lib.hid hw1
      have I1 := Lib.hid hq1
      have hBw1 : w.heap.size ≤ wd.heap.size := hs1.size
      clear h1 hs1 hw1 hq1
      clear x2
      go_upto_region 15 with fail
      go_region_held3 (fun w' => w'.heap[qb]? = some (.cells (qryArr ⟨aI, cI, aW, cW, aR, cR⟩ Q) 34 (0, 0)) ∧ w'.cell? ⟨qb, 2, none⟩ = some (.int .i64 (j : Int)) ∧ w'.cell? ⟨0, j, none⟩ = some (.int .i64 x))
        (first
          | exact ⟨blk_below I1.out (Below.refl _ _).drew, prS2j HJ.out (blk_below I1.out (Below.refl _ _).drew), (((Below.refl wd.heap.size wd).drew).cell (p := ⟨0, j, none⟩) (cell_lt a0)).trans a0⟩
          | (go_split_ands; exact ⟨hsz.keep _ _ _ _ (by assumption) (by decide) (by decide), prS2j HJ.out (hsz.keep _ _ _ _ (by assumption) (by decide) (by decide)), (hsz.below.cell (p := ⟨0, j, none⟩) hgl).trans (by assumption)⟩)
          | (go_split_ands; exact ⟨blk_below (by assumption) hbz, prS2j HJ.out (blk_below (by assumption) hbz), (hbz.cell (p := ⟨0, j, none⟩) (cell_lt (v := .int .i64 x) (by assumption))).trans (by assumption)⟩)
          | (go_split_ands; exact ⟨blk_below (by assumption) (bnew (Below.refl _ _) _), prS2j HJ.out (blk_below (by assumption) (bnew (Below.refl _ _) _)), cell_alloc (by assumption) _⟩)
          | (go_split_ands; exact ⟨by assumption, prS2j HJ.out (by assumption), by assumption⟩))
        (first
          | (go_at_call 26; refine (mark_any _ _).mono ?_; rintro e wz ⟨rfl, hbz⟩; first | (have hbr := bcall hbr hbz) | (have hbr := bcall (Below.refl wd.heap.size wd).drew hbz))
          | (go_at_call 31; refine (tokName_any _ _).mono ?_; rintro e wz ⟨rfl, hbz⟩; first | (have hbr := bcall hbr hbz) | (have hbr := bcall (Below.refl wd.heap.size wd).drew hbz))
          | (go_at_call 30; refine (tokNum_any _ _).mono ?_; rintro e wz ⟨rfl, hbz⟩; first | (have hbr := bcall hbr hbz) | (have hbr := bcall (Below.refl wd.heap.size wd).drew hbz))
          | (go_at_call 25; have hbq : Below wd.heap.size wd (wz.alloc (.cells #[.int .i64 53, .string ⟨#[]⟩, .int .i64 0, .int .i64 0, .int .i64 x, .string ⟨#[]⟩, .int .i64 0, .int .i64 0] 62)) := bnew hbr _; refine (add_any w.heap.size R L1 [mkT 53, mkT x] 0 d1 v1 (some ⟨_, 0, none⟩) 2 _ (H1.out.below hbq) (tkRd_blk (blk_new _ _ _) rfl) (fun h => by cases h) (by simp only [List.length_cons, List.length_nil]; omega)).mono ?_; rintro e wq ⟨rfl, hsz, hvq⟩; have A3 := Lib.hid (PrAt.add (Q := Q) (M := [mkT 53, mkT x]) (S1.out.trans (Stw.of hbq hBw1)) WR1.out hl1 hd1 (blk_below I1.out hbq) hsz hvq (by decide) (by decide))))
      go_split_ands
      go_wp2_with fail
      go_meet
      exact Lib.hid (A3.out.more (by simp) (by unfold hdD afterT; rw [if_neg HM.out, HJ.out, ← HX.out]; rfl) rfl)
  case rest =>
  clear A1 x2 ha0 ha3
  have A1 := hcut
  clear hcut
  obtain ⟨we, ewe⟩ : ∃ W1 : World, W1 = wc := ⟨_, rfl⟩
  subst ewe
  obtain ⟨t, ht⟩ : ∃ t, tw (Q.wn - 1) = t := ⟨_, rfl⟩
  have HTT := Lib.hid ht
  clear ht
  have x3 : we.cell? ⟨qb, 3, none⟩ = some (.slice aW Q.wn cW) := A1.out.at (j := 3) rfl
  go_upto_if 73 with fail
  go_cut [] from 58 to 81 (fun wx => Hid (PrAt w R qb ⟨aI, cI, aW, cW, aR, cR⟩ Q (hdE Q t) (whereD Q.wn t) 3826 wx))
  case first =>
    by_cases hw0 : 0 < Q.wn
    rotate_left
    · have HW0 := Lib.hid (show Q.wn = 0 by omega)
      go_wp2_with fail
      go_meet
      exact Lib.hid (A1.out.more (by omega) (by unfold hdE whereT; rw [if_pos HW0.out, List.append_nil]) (by unfold whereD; rw [if_pos HW0.out]))
    · clear x3
      obtain ⟨L1, d1, v1, hs1, h1, hw1, hl1, hd1, hq1⟩ := A1.out
      have H1 := Lib.hid h1
      have S1 := Lib.hid hs1
      have WR1 := Lib.hid hw1
      have I1 := Lib.hid hq1
      have hBw1 : w.heap.size ≤ we.heap.size := hs1.size
      clear h1 hs1 hw1 hq1
      go_wp2_with fail
      refine (mark_any 36 _).mono ?_
      rintro e y0 ⟨rfl, hy0⟩
      have hz0 := hy0
      have hb2 := bnew hz0 (.cells #[.int .i64 36, .string ⟨#[]⟩, .int .i64 0, .int .i64 0] 62)
      have T2 := Lib.hid (blk_new y0 #[.int .i64 36, .string ⟨#[]⟩, .int .i64 0, .int .i64 0] 62)
      have H2 := Lib.hid (H1.out.below hb2)
      have S2 := Lib.hid (S1.out.trans (Stw.of hb2 hBw1))
      have I2 := Lib.hid (blk_below I1.out hb2)
      clear H1 S1 I1
      go_wp2_with fail
      refine (add_any w.heap.size R L1 [mkT 36] 0 d1 v1 (some ⟨y0.heap.size, 0, none⟩) 1 _ H2.out (tkRd_blk T2.out rfl) (fun h => by cases h) (by simp only [List.length_cons, List.length_nil]; omega)).mono ?_
      rintro e w3 ⟨rfl, hs3, hv3⟩
      have A2 := Lib.hid (PrAt.add (Q := Q) (M := [mkT 36]) S2.out WR1.out hl1 hd1 I2.out hs3 hv3 (by decide) (by decide))
      clear hs3 hv3 H2 S2 I2 T2 WR1 hy0 hb2 hl1 hd1 hBw1
      have x3 : w3.cell? ⟨qb, 3, none⟩ = some (.slice aW Q.wn cW) := A2.out.at (j := 3) rfl
      obtain ⟨L1, d1, v1, hs1, h1, hw1, hl1, hd1, hq1⟩ := A2.out
      have H1 := Lib.hid h1
      have S1 := Lib.hid hs1
      have WR1 := Lib.hid hw1
      have I1 := Lib.hid hq1
      have hBw1 : w.heap.size ≤ w3.heap.size := hs1.size
      clear h1 hs1 hw1 hq1
      obtain ⟨h0, h1, h2⟩ := HT.out.wh hw0 (HS.out.wh hw0)
      have HT1 := Lib.hid h1
      have HT2 := Lib.hid h2
      clear h1 h2
      go_wp2_with fail
      refine (tree_any w aW Q.wn cW Q.wh tw HQ.out.rW HTB.out.lev HTB.out.sgn h0 HT1.out HT2.out R _ L1 d1 v1 H1.out S1.out.below (by simp at hl1; omega) (by omega)).mono ?_
      rintro e w9 ⟨rfl, hs9, L9, d9, v9, h9, hw9, hl9, hd9⟩
      have A5 := Lib.hid (show PrAt w R qb ⟨aI, cI, aW, cW, aR, cR⟩ Q (hdE Q t) (whereD Q.wn t) 3826 w9 from ⟨L9, d9, v9, S1.out.trans hs9, h9, by
        have := WR1.out.trans hw9
        rw [HTT.out] at this
        unfold hdE whereT whereD
        rw [if_neg (show ¬ Q.wn = 0 by omega), if_neg (show ¬ Q.wn = 0 by omega)]
        rw [Nat.zero_max] at this
        simpa using this, by simp at hl1; omega, by omega, hs9.keep _ _ _ _ I1.out (by decide) (by decide)⟩)
      clear hs9 h9 hw9 hl9 hd9
      go_wp2_with fail
      go_meet
      exact A5
  case rest =>
  clear A1 x3
  have A1 := hcut
  clear hcut
  obtain ⟨wf, ewf⟩ : ∃ W1 : World, W1 = wc := ⟨_, rfl⟩
  subst ewf
  have x4 : wf.cell? ⟨qb, 4, none⟩ = some (.int .i64 Q.within) := A1.out.at (j := 4) rfl
  obtain ⟨L1, d1, v1, hs1, h1, hw1, hl1, hd1, hq1⟩ := A1.out
  have H1 := Lib.hid h1
  have S1 := Lib.hid hs1
  have WR1 := Lib.hid hw1
  have I1 := Lib.hid hq1
  have hBw1 : w.heap.size ≤ wf.heap.size := hs1.size
  clear h1 hs1 hw1 hq1
  clear x4
  go_upto_region 19 with fail
  go_region_held3 (fun w' => w'.heap[qb]? = some (.cells (qryArr ⟨aI, cI, aW, cW, aR, cR⟩ Q) 34 (0, 0)) ∧ w'.cell? ⟨qb, 4, none⟩ = some (.int .i64 Q.within))
    (first
      | exact ⟨blk_below I1.out (Below.refl _ _).drew, prS4 (blk_below I1.out (Below.refl _ _).drew)⟩
      | (go_split_ands; exact ⟨hsz.keep _ _ _ _ (by assumption) (by decide) (by decide), prS4 (hsz.keep _ _ _ _ (by assumption) (by decide) (by decide))⟩)
      | (go_split_ands; exact ⟨blk_below (by assumption) hbz, prS4 (blk_below (by assumption) hbz)⟩)
      | (go_split_ands; exact ⟨blk_below (by assumption) (bnew (Below.refl _ _) _), prS4 (blk_below (by assumption) (bnew (Below.refl _ _) _))⟩)
      | (go_split_ands; exact ⟨by assumption, prS4 (by assumption)⟩))
    (first
      | (go_at_call 26; refine (mark_any _ _).mono ?_; rintro e wz ⟨rfl, hbz⟩; first | (have hbr := bcall hbr hbz) | (have hbr := bcall (Below.refl wf.heap.size wf).drew hbz))
      | (go_at_call 31; refine (tokName_any _ _).mono ?_; rintro e wz ⟨rfl, hbz⟩; first | (have hbr := bcall hbr hbz) | (have hbr := bcall (Below.refl wf.heap.size wf).drew hbz))
      | (go_at_call 30; refine (tokNum_any _ _).mono ?_; rintro e wz ⟨rfl, hbz⟩; first | (have hbr := bcall hbr hbz) | (have hbr := bcall (Below.refl wf.heap.size wf).drew hbz))
      | (go_at_call 25; have hbq : Below wf.heap.size wf (wz.alloc (.cells #[.int .i64 37, .string ⟨#[]⟩, .int .i64 0, .int .i64 0, .int .i64 2, .string ⟨#[]⟩, .int .i64 Q.within, .int .i64 0] 62)) := bnew hbr _; refine (add_any w.heap.size R L1 [mkT 37, nuT Q.within] 0 d1 v1 (some ⟨_, 0, none⟩) 2 _ (H1.out.below hbq) (tkRd_blk (blk_new _ _ _) rfl) (fun h => by cases h) (by simp only [List.length_cons, List.length_nil]; omega)).mono ?_; rintro e wq ⟨rfl, hsz, hvq⟩; have A3 := Lib.hid (PrAt.add (Q := Q) (M := [mkT 37, nuT Q.within]) (S1.out.trans (Stw.of hbq hBw1)) WR1.out hl1 hd1 (blk_below I1.out hbq) hsz hvq (by decide) (by decide))))
  go_split_ands
  clear H1 S1 WR1 I1 hl1 hd1 hBw1 A1
  have A4 := Lib.hid (show PrAt w R qb ⟨aI, cI, aW, cW, aR, cR⟩ Q (hdF Q t) (whereD Q.wn t) 3828 wq from A3.out.more (by simp) rfl rfl)
  clear A3
  have x5 : wq.cell? ⟨qb, 5, none⟩ = some (.string Q.by_) := A4.out.at (j := 5) rfl
  have hbe : ∃ q, Q.by_.toList.isEmpty = q := ⟨_, rfl⟩
  go_upto_if 91 with fail
  go_cut [] from 70 to 99 (fun wx => Hid (PrAt w R qb ⟨aI, cI, aW, cW, aR, cR⟩ Q (headT Q t) (whereD Q.wn t) 3831 wx))
  case first =>
    clear hbe
    cases hby : Q.by_.toList.isEmpty
    · have HBY := Lib.hid hby
      obtain ⟨L1, d1, v1, hs1, h1, hw1, hl1, hd1, hq1⟩ := A4.out
      have H1 := Lib.hid h1
      have S1 := Lib.hid hs1
      have WR1 := Lib.hid hw1
      have I1 := Lib.hid hq1
      have hBw1 : w.heap.size ≤ wq.heap.size := hs1.size
      clear h1 hs1 hw1 hq1
      clear x5
      go_upto_region 21 with fail
      go_region_held3 (fun w' => w'.heap[qb]? = some (.cells (qryArr ⟨aI, cI, aW, cW, aR, cR⟩ Q) 34 (0, 0)) ∧ w'.cell? ⟨qb, 5, none⟩ = some (.string Q.by_))
        (first
          | exact ⟨blk_below I1.out (Below.refl _ _).drew, prS5 (blk_below I1.out (Below.refl _ _).drew)⟩
          | (go_split_ands; exact ⟨hsz.keep _ _ _ _ (by assumption) (by decide) (by decide), prS5 (hsz.keep _ _ _ _ (by assumption) (by decide) (by decide))⟩)
          | (go_split_ands; exact ⟨blk_below (by assumption) hbz, prS5 (blk_below (by assumption) hbz)⟩)
          | (go_split_ands; exact ⟨blk_below (by assumption) (bnew (Below.refl _ _) _), prS5 (blk_below (by assumption) (bnew (Below.refl _ _) _))⟩)
          | (go_split_ands; exact ⟨by assumption, prS5 (by assumption)⟩))
        (first
          | (go_at_call 26; refine (mark_any _ _).mono ?_; rintro e wz ⟨rfl, hbz⟩; first | (have hbr := bcall hbr hbz) | (have hbr := bcall (Below.refl wq.heap.size wq).drew hbz))
          | (go_at_call 31; refine (tokName_any _ _).mono ?_; rintro e wz ⟨rfl, hbz⟩; first | (have hbr := bcall hbr hbz) | (have hbr := bcall (Below.refl wq.heap.size wq).drew hbz))
          | (go_at_call 30; refine (tokNum_any _ _).mono ?_; rintro e wz ⟨rfl, hbz⟩; first | (have hbr := bcall hbr hbz) | (have hbr := bcall (Below.refl wq.heap.size wq).drew hbz))
          | (go_at_call 25; have hbq : Below wq.heap.size wq (wz.alloc (.cells #[.int .i64 38, .string ⟨#[]⟩, .int .i64 0, .int .i64 0, .int .i64 39, .string ⟨#[]⟩, .int .i64 0, .int .i64 0, .int .i64 1, .string Q.by_, .int .i64 0, .int .i64 0] 62)) := bnew hbr _; refine (add_any w.heap.size R L1 [mkT 38, mkT 39, nmT Q.by_] 0 d1 v1 (some ⟨_, 0, none⟩) 3 _ (H1.out.below hbq) (tkRd_blk (blk_new _ _ _) rfl) (fun h => by cases h) (by simp only [List.length_cons, List.length_nil]; omega)).mono ?_; rintro e wq ⟨rfl, hsz, hvq⟩; have A3 := Lib.hid (PrAt.add (Q := Q) (M := [mkT 38, mkT 39, nmT Q.by_]) (S1.out.trans (Stw.of hbq hBw1)) WR1.out hl1 hd1 (blk_below I1.out hbq) hsz hvq (by decide) (by decide))))
      go_split_ands
      go_wp2_with fail
      go_meet
      exact Lib.hid (A3.out.more (by simp) (by rw [headT_eq]; unfold byT; rw [if_neg (by rw [HBY.out]; decide)]) rfl)
    · have HBY := Lib.hid hby
      go_wp2_with fail
      go_meet
      exact Lib.hid (A4.out.more (by omega) (by rw [headT_eq]; unfold byT; rw [if_pos HBY.out, List.append_nil]) rfl)
  case rest =>
  clear A4 x5 hbe
  have A1 := hcut
  clear hcut
  obtain ⟨wg, ewg⟩ : ∃ W1 : World, W1 = wc := ⟨_, rfl⟩
  subst ewg
  obtain ⟨TR, hTR⟩ : ∃ TR : Nat → Tr, (fun k => TT k (Q.ln k - 1)) = TR := ⟨_, rfl⟩
  have HTR := Lib.hid hTR
  clear hTR
  go_upto_block 2 with fail
  go_cut [] from 6 to 128 (fun wx => Hid (PrAt w R qb ⟨aI, cI, aW, cW, aR, cR⟩ Q (headT Q t ++ retsT TR Q.m) (max (whereD Q.wn t) (retsD TR Q.m)) 3831 wx))
  case first =>
    go_wp2_with fail
    go_loopw [6] (fun i wr => ∃ k : Nat, k ≤ Q.m ∧ i = .int .i64 k ∧ Hid (PrAt w R qb ⟨aI, cI, aW, cW, aR, cR⟩ Q (headT Q t ++ retsT TR k) (max (whereD Q.wn t) (retsD TR k)) 3831 wr)) (fun i _ => Q.m - (intOf i).toNat)
    case atStart => exact ⟨0, Nat.zero_le _, rfl, Lib.hid (A1.out.more (by omega) (by simp [retsT]) (by simp [retsD]))⟩
    case round =>
      obtain ⟨k, hk, rfl, HA⟩ := hrel
      obtain ⟨W1, e1⟩ : ∃ W1 : World, W1 = wr := ⟨_, rfl⟩
      subst e1
      have x0 : W1.cell? ⟨qb, 6, none⟩ = some (.slice aR Q.m cR) := HA.out.at (j := 6) rfl
      by_cases hlt : k < Q.m
      · skip
        obtain ⟨L1, d1, v1, hs1, h1, hw1, hl1, hd1, hq1⟩ := HA.out
        have H1 := Lib.hid h1
        have S1 := Lib.hid hs1
        have WR1 := Lib.hid hw1
        have I1 := Lib.hid hq1
        have hBw1 : w.heap.size ≤ W1.heap.size := hs1.size
        clear h1 hs1 hw1 hq1
        go_wp2_with fail
        refine (full_any w.heap.size R L1 0 d1 v1 _ H1.out).mono ?_
        rintro e w7 ⟨rfl, rfl⟩
        by_cases hf : 400 < L1.length
        · rw [decide_eq_true hf]
          go_wp2_with fail
          go_meet
          refine Lib.hid ⟨L1, d1, v1, S1.out, H1.out, ?_, by omega, hd1, I1.out⟩
          obtain ⟨r, q, hr, hq⟩ := retsT_split TR hk
          have := WR1.out.more hf r q
          rw [hr, hq, ← List.append_assoc, ← Nat.max_assoc]
          exact this
        · rw [decide_eq_false hf]
          have A2 := Lib.hid (show PrAt w R qb ⟨aI, cI, aW, cW, aR, cR⟩ Q (headT Q t ++ retsT TR k) (max (whereD Q.wn t) (retsD TR k)) 400 w7 from ⟨L1, d1, v1, S1.out, H1.out, WR1.out, by omega, hd1, I1.out⟩)
          clear H1 S1 WR1 I1 HA hl1 hd1 hf
          go_upto_if 113 with fail
          go_cut [] from 112 to 128 (fun wx => Hid (PrAt w R qb ⟨aI, cI, aW, cW, aR, cR⟩ Q (headT Q t ++ retsT TR k ++ [mkT (if k = 0 then 40 else 7)]) (max (whereD Q.wn t) (retsD TR k)) 401 wx))
          case first =>
            clear x0
            by_cases hk0 : k = 0
            · have hz : ((k : Int) == 0) = true := by rw [beq_iff_eq]; omega
              have HK0 := Lib.hid hk0
              clear hk0
              obtain ⟨L1, d1, v1, hs1, h1, hw1, hl1, hd1, hq1⟩ := A2.out
              have H1 := Lib.hid h1
              have S1 := Lib.hid hs1
              have WR1 := Lib.hid hw1
              have I1 := Lib.hid hq1
              have hBw1 : w.heap.size ≤ w7.heap.size := hs1.size
              clear h1 hs1 hw1 hq1
              go_wp2_with fail
              refine (mark_any 40 _).mono ?_
              rintro e y0 ⟨rfl, hy0⟩
              have hz0 := hy0
              have hb2 := bnew hz0 (.cells #[.int .i64 40, .string ⟨#[]⟩, .int .i64 0, .int .i64 0] 62)
              have T2 := Lib.hid (blk_new y0 #[.int .i64 40, .string ⟨#[]⟩, .int .i64 0, .int .i64 0] 62)
              have H2 := Lib.hid (H1.out.below hb2)
              have S2 := Lib.hid (S1.out.trans (Stw.of hb2 hBw1))
              have I2 := Lib.hid (blk_below I1.out hb2)
              clear H1 S1 I1
              go_wp2_with fail
              refine (add_any w.heap.size R L1 [mkT 40] 0 d1 v1 (some ⟨y0.heap.size, 0, none⟩) 1 _ H2.out (tkRd_blk T2.out rfl) (fun h => by cases h) (by simp only [List.length_cons, List.length_nil]; omega)).mono ?_
              rintro e w3 ⟨rfl, hs3, hv3⟩
              have A3 := Lib.hid (PrAt.add (Q := Q) (M := [mkT 40]) S2.out WR1.out hl1 hd1 I2.out hs3 hv3 (by decide) (by decide))
              clear hs3 hv3 H2 S2 I2 T2 WR1 hy0 hb2 hl1 hd1 hBw1
              go_wp2_with fail
              go_meet
              exact Lib.hid (A3.out.more (by simp) (by rw [if_pos HK0.out]) rfl)
            · have hz : ((k : Int) == 0) = false := by rw [beq_eq_false_iff_ne]; omega
              have HK0 := Lib.hid hk0
              clear hk0
              obtain ⟨L1, d1, v1, hs1, h1, hw1, hl1, hd1, hq1⟩ := A2.out
              have H1 := Lib.hid h1
              have S1 := Lib.hid hs1
              have WR1 := Lib.hid hw1
              have I1 := Lib.hid hq1
              have hBw1 : w.heap.size ≤ w7.heap.size := hs1.size
              clear h1 hs1 hw1 hq1
              go_wp2_with fail
              refine (mark_any 7 _).mono ?_
              rintro e y0 ⟨rfl, hy0⟩
              have hz0 := hy0
              have hb2 := bnew hz0 (.cells #[.int .i64 7, .string ⟨#[]⟩, .int .i64 0, .int .i64 0] 62)
              have T2 := Lib.hid (blk_new y0 #[.int .i64 7, .string ⟨#[]⟩, .int .i64 0, .int .i64 0] 62)
              have H2 := Lib.hid (H1.out.below hb2)
              have S2 := Lib.hid (S1.out.trans (Stw.of hb2 hBw1))
              have I2 := Lib.hid (blk_below I1.out hb2)
              clear H1 S1 I1
              go_wp2_with fail
              refine (add_any w.heap.size R L1 [mkT 7] 0 d1 v1 (some ⟨y0.heap.size, 0, none⟩) 1 _ H2.out (tkRd_blk T2.out rfl) (fun h => by cases h) (by simp only [List.length_cons, List.length_nil]; omega)).mono ?_
              rintro e w3 ⟨rfl, hs3, hv3⟩
              have A3 := Lib.hid (PrAt.add (Q := Q) (M := [mkT 7]) S2.out WR1.out hl1 hd1 I2.out hs3 hv3 (by decide) (by decide))
              clear hs3 hv3 H2 S2 I2 T2 WR1 hy0 hb2 hl1 hd1 hBw1
              go_wp2_with fail
              go_meet
              exact Lib.hid (A3.out.more (by simp) (by rw [if_neg HK0.out]) rfl)
          case rest =>
          clear A2 x0 w7 hBw1
          have A3 := hcut
          clear hcut
          obtain ⟨wb, ewb⟩ : ∃ W1 : World, W1 = wc := ⟨_, rfl⟩
          subst ewb
          have x0 : wb.cell? ⟨qb, 6, none⟩ = some (.slice aR Q.m cR) := A3.out.at (j := 6) rfl
          obtain ⟨L1, d1, v1, hs1, h1, hw1, hl1, hd1, hq1⟩ := A3.out
          have H1 := Lib.hid h1
          have S1 := Lib.hid hs1
          have WR1 := Lib.hid hw1
          have I1 := Lib.hid hq1
          have hBw1 : w.heap.size ≤ wb.heap.size := hs1.size
          clear h1 hs1 hw1 hq1
          obtain ⟨b, off, eI, hbl, hcs⟩ := HQ.out.rR.spot (by omega)
          have eJ : aR = some ⟨b, off, none⟩ := eI
          rw [eJ] at x0
          clear eI eJ
          obtain ⟨ta, tc, g0, _, _, hnd⟩ := hcs k hlt
          have g1 := (S1.out.below.cell (p := ⟨b, off + k, none⟩) (cell_lt g0)).trans g0
          obtain ⟨h0, h1, h2⟩ := HT.out.rt k hlt (HS.out.rt k hlt)
          have HT1 := Lib.hid h1
          have HT2 := Lib.hid h2
          have HND := Lib.hid hnd
          have HTK := Lib.hid (show TT k (Q.ln k - 1) = TR k by rw [← HTR.out])
          clear hcs hnd h1 h2 g0
          go_wp2_with fail
          refine (tree_any w ta (Q.ln k) tc (Q.rt k) (TT k) HND.out HTB.out.lev HTB.out.sgn h0 HT1.out HT2.out R _ L1 d1 v1 H1.out S1.out.below (by omega) (by omega)).mono ?_
          rintro e w9 ⟨rfl, hs9, L9, d9, v9, h9, hw9, hl9, hd9⟩
          have A5 := Lib.hid (show PrAt w R qb ⟨aI, cI, aW, cW, aR, cR⟩ Q (headT Q t ++ retsT TR (k + 1)) (max (whereD Q.wn t) (retsD TR (k + 1))) 3831 w9 from ⟨L9, d9, v9, S1.out.trans hs9, h9, by
            have := WR1.out.trans hw9
            rw [HTK.out] at this
            rw [retsT, retsD, ← Nat.max_assoc]
            simpa using this, by omega, by omega, hs9.keep _ _ _ _ I1.out (by decide) (by decide)⟩)
          clear hs9 h9 hw9 hl9 hd9
          go_wp2_with fail
          go_roundw
          case rel => exact ⟨k + 1, by omega, by go_num, A5⟩
          case measure => simp [intOf]; omega
      · obtain hkn : k = Q.m := by omega
        have HKN := Lib.hid hkn
        clear hkn
        go_wp2_with fail
        go_meet
        exact Lib.hid (by rw [← HKN.out]; exact HA.out)
  case rest =>
  clear A1
  obtain ⟨L1, d1, v1, hs1, h1, hw1, hl1, hd1, hq1⟩ := hcut.out
  have H1 := Lib.hid h1
  have S1 := Lib.hid hs1
  have hbf := hs1.below
  have hpw := (HTB.out.later hbf)
  have HPW := Lib.hid hpw.pow
  have HSP := Lib.hid hpw.spl
  have HKX := Lib.hid (block_below HK.out hbf)
  have HTX := Lib.hid (show textRes L1 d1 = printOf Q tw TT by
    rw [HE.out, text_of hw1]
    unfold printT printD
    rw [HTT.out, HTR.out])
  have HOK := Lib.hid (show L1.length ≤ 400 → ∀ t ∈ L1, TkOk t from fun hle => by
    have hp := printT_ok HS.out HW.out HT.out
    unfold printT at hp
    rw [HTT.out, HTR.out] at hp
    obtain ⟨a1, a2, a3, a4, a5⟩ := hw1
    simp only [List.length_nil, Nat.zero_add, List.nil_append] at a1 a4 a5
    by_cases hx : (headT Q t ++ retsT TR Q.m).length ≤ 400
    · rw [(a4 hx).1]; exact hp
    · have := a5 (by omega)
      omega)
  clear hs1 h1 hw1 hq1 hpw hcut
  go_wp2_with fail
  refine (text_any w.heap.size R L1 0 d1 v1 _ H1.out HOK.out (by omega) (by omega) HPW.out HSP.out HKX.out).mono ?_
  rintro e w9 ⟨rfl, hb9⟩
  rw [HTX.out]
  have hb10 := bcall hbf hb9
  go_wp2_with fail
  go_ret2
  exact ⟨rfl, hb10⟩
end Go.Proofs.YtfcdkadblagijaaDoor

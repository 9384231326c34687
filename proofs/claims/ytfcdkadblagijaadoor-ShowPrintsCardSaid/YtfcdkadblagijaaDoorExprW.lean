/-
  The walks of the writer's text and of show.Expr.
-/
import Derived.Test.YtfcdkadblagijaaDoorNodeStep
import Derived.Test.YtfcdkadblagijaaDoorJoin
set_option linter.unusedSimpArgs false
set_option linter.unusedVariables false
namespace Go.Proofs.YtfcdkadblagijaaDoor
open Go.RowKit Go.ChangeShapes Go.WideShapes Go.ChangeAt Go.Deep Go.Joins
theorem leftL_range {o : Int} (h1 : 1 ≤ o) (h2 : o ≤ 26) : 1 ≤ leftL o ∧ leftL o ≤ 8 := by
  have := lev_range h1 h2
  unfold leftL
  split <;> omega
theorem node_weak {w0 : World} {A : Option Addr} {n c i : Nat} {least : Int} {sz bl bo bl' bo' : Nat} {P : List Tk} {p : Nat} (h : NodeAt w0 A n c i least sz bl bo P p) (h1 : bl' ≤ bl) (h2 : bo' ≤ bo) : NodeAt w0 A n c i least sz bl' bo' P p :=
  fun R w L o d v hW hb hL ho hd hod => h R w L o d v hW hb (by omega) (by omega) hd hod
theorem node_all (w0 : World) (A : Option Addr) (n c : Nat) (f : Nat → Nod) (T : Nat → Tr) (HT : NodRd w0 w0.heap.size A n f) (HV : LevV w0) (HG : SgnV w0) (hT : ∀ i, i < n → TrAt f T i) :
    ∀ i, i < n → ∀ least : Int, 0 ≤ least → least ≤ 9 → NodeAt w0 A n c i least (T i).sz 900000 900000 (wrapT (lev (f i).op) least (T i).toks) (wrapD (lev (f i).op) least (T i).dp) := by
  intro i
  induction i using Nat.strongRecOn with
  | _ i ih =>
    intro hi least hl0 hl9
    have ht := hT i hi
    obtain ⟨o1, o2⟩ := ht.op
    have hlr := lev_range o1 o2
    have hll := leftL_range o1 o2
    have hU : ∀ least : Int, least ≤ lev (f i).op → NodeAt w0 A n c i least (T i).sz 900002 900001 (T i).toks (T i).dp := by
      intro least hle
      rcases ht.2 with ⟨h1, h2, _, _, e⟩ | ⟨h1, j, hj, h2, _, e⟩ | ⟨h1, h2, j, k, hj, hk, h3, h4, e⟩
      · rw [e]
        exact node_leaf w0 A n c f HT HV HG i hi (f i) rfl h1 h2 least hle
      · rw [e]
        have hn := (hT j (by omega)).nod
        have k1 := toks_len (T j)
        have k2 := dp_len (T j)
        have k3 := wrapT_len (lev (T j).nod.op) (lev (f i).op) (T j).toks
        have k4 := wrapD_len (lev (T j).nod.op) (lev (f i).op) (T j).dp
        refine node_un w0 A n c f HT HV HG i hi (f i) rfl h1 j hj h2 least hle (T j).sz (wrapD (lev (T j).nod.op) (lev (f i).op) (T j).dp) (wrapT (lev (T j).nod.op) (lev (f i).op) (T j).toks) (by omega) (by omega) ?_
        rw [hn]
        exact ih j hj (by omega) (lev (f i).op) (by omega) (by omega)
      · rw [e]
        have hn := (hT j (by omega)).nod
        have hn' := (hT k (by omega)).nod
        have k1 := toks_len (T j)
        have k2 := dp_len (T j)
        have k3 := wrapT_len (lev (T j).nod.op) (leftL (f i).op) (T j).toks
        have k4 := wrapD_len (lev (T j).nod.op) (leftL (f i).op) (T j).dp
        have j1 := toks_len (T k)
        have j2 := dp_len (T k)
        have j3 := wrapT_len (lev (T k).nod.op) (lev (f i).op + 1) (T k).toks
        have j4 := wrapD_len (lev (T k).nod.op) (lev (f i).op + 1) (T k).dp
        refine node_bi w0 A n c f HT HV HG i hi (f i) rfl h1 h2 j k hj hk h3 h4 least hle (T j).sz (wrapD (lev (T j).nod.op) (leftL (f i).op) (T j).dp) (T k).sz (wrapD (lev (T k).nod.op) (lev (f i).op + 1) (T k).dp) (wrapT (lev (T j).nod.op) (leftL (f i).op) (T j).toks) (wrapT (lev (T k).nod.op) (lev (f i).op + 1) (T k).toks) (by omega) (by omega) (by omega) (by omega) ?_ ?_
        · rw [hn]
          exact ih j hj (by omega) (leftL (f i).op) (by omega) (by omega)
        · rw [hn']
          exact ih k hk (by omega) (lev (f i).op + 1) (by omega) (by omega)
    by_cases hc : lev (f i).op < least
    · have e1 : wrapT (lev (f i).op) least (T i).toks = mkT 3 :: ((T i).toks ++ [mkT 4]) := if_pos hc
      have e2 : wrapD (lev (f i).op) least (T i).dp = (T i).dp + 1 := if_pos hc
      have k1 := toks_len (T i)
      have k2 := dp_len (T i)
      rw [e1, e2]
      exact node_bracket w0 A n c f HT HV i hi o1 o2 least hc hl9 (T i).sz (T i).toks (T i).dp (by omega) (by omega) (hU 0 (by omega))
    · have e1 : wrapT (lev (f i).op) least (T i).toks = (T i).toks := if_neg hc
      have e2 : wrapD (lev (f i).op) least (T i).dp = (T i).dp := if_neg hc
      rw [e1, e2]
      exact node_weak (hU least (by omega)) (by omega) (by omega)
/-! ### The tokens of a tree are such as can be written -/
theorem tkOk_mk {k : Int} (h : (3 ≤ k ∧ k ≤ 21) ∨ (30 ≤ k ∧ k ≤ 56)) : TkOk (mkT k) := by
  refine ⟨by show k = 1 ∨ k = 2 ∨ (3 ≤ k ∧ k ≤ 21) ∨ (30 ≤ k ∧ k ≤ 56); omega, ⟨by show _ ≤ (0 : Int); omega, by show (0 : Int) ≤ _; omega⟩, ?_⟩
  show (if k = 1 then (⟨#[]⟩ : ByteArray) else if k = 2 then ⟨(Lib.itoa 0).toArray⟩ else if k ≤ 21 then spelAt k.toNat else kwAt (k - 30).toNat).size ≤ 21
  rw [if_neg (by omega), if_neg (by omega)]
  rcases h with h | h
  · rw [if_pos (by omega)]
    have : ∀ j, j < 22 → (spelAt j).size ≤ 21 := by decide
    exact this _ (by omega)
  · rw [if_neg (by omega)]
    have : ∀ j, j < 27 → (kwAt j).size ≤ 21 := by decide
    exact this _ (by omega)
theorem tkOk_name {s : ByteArray} (h : nameB s = true) : TkOk (nmT s) := by
  refine ⟨Or.inl rfl, ⟨by show _ ≤ (0 : Int); omega, by show (0 : Int) ≤ _; omega⟩, ?_⟩
  have : s.size ≤ 16 := by
    simp only [nameB, Bool.and_eq_true, decide_eq_true_eq] at h
    exact h.1.1.1.2
  show s.size ≤ 21
  omega
theorem tkOk_num {n : Int} (h : I64 n) : TkOk (nuT n) := by
  refine ⟨Or.inr (Or.inl rfl), h, ?_⟩
  have := Lib.itoa_length_le n h.1 h.2
  show (⟨(Lib.itoa n).toArray⟩ : ByteArray).size ≤ 21
  simpa [ByteArray.size] using this
theorem tkOk_wrap {l least : Int} {M : List Tk} (h : ∀ t ∈ M, TkOk t) : ∀ t ∈ wrapT l least M, TkOk t := by
  unfold wrapT
  split
  · intro t ht
    simp only [List.mem_cons, List.mem_append, List.not_mem_nil, or_false] at ht
    rcases ht with rfl | ht | rfl
    · exact tkOk_mk (by omega)
    · exact h t ht
    · exact tkOk_mk (by omega)
  · exact h
theorem sgn_ok {o : Int} (h1 : 12 ≤ o) (h2 : o ≤ 26) : (3 ≤ sgn o ∧ sgn o ≤ 21) ∨ (30 ≤ sgn o ∧ sgn o ≤ 56) := by
  unfold sgn
  have hj : (o - 12).toNat < 15 := by omega
  generalize (o - 12).toNat = j at hj
  have : ∀ j, j < 15 → (3 ≤ sgnL.getD j 0 ∧ sgnL.getD j 0 ≤ 21) ∨ (30 ≤ sgnL.getD j 0 ∧ sgnL.getD j 0 ≤ 56) := by decide
  exact this j hj
theorem leafT_ok {x : Nod} (hf : fieldsB x = true) (hw : NodWf x) (h1 : 1 ≤ x.op) (h2 : x.op ≤ 11) : ∀ t ∈ leafT x, TkOk t := by
  simp only [fieldsB, Bool.and_eq_true] at hf
  obtain ⟨⟨_, hv⟩, ha⟩ := hf
  have hv4 : 4 ≤ x.op → nameB x.vr = true := fun h => by rw [varB, if_pos ⟨h, h2⟩] at hv; exact hv
  have ha4 : 4 ≤ x.op → x.op ≠ 5 → nameB x.at_ = true := fun h h5 => by rw [attB, if_pos ⟨h, h2, h5⟩] at ha; exact ha
  unfold leafT
  split
  · intro t ht
    simp only [List.mem_cons, List.not_mem_nil, or_false] at ht
    subst ht
    exact tkOk_num hw.n
  · split
    · intro t ht
      simp only [List.mem_cons, List.not_mem_nil, or_false] at ht
      subst ht
      exact tkOk_mk (by omega)
    · split
      · intro t ht
        simp only [List.mem_cons, List.not_mem_nil, or_false] at ht
        subst ht
        exact tkOk_mk (by omega)
      · split
        · intro t ht
          simp only [List.mem_cons, List.not_mem_nil, or_false] at ht
          rcases ht with rfl | rfl | rfl
          · exact tkOk_name (hv4 (by omega))
          · exact tkOk_mk (by omega)
          · exact tkOk_name (ha4 (by omega) (by omega))
        · split
          · intro t ht
            simp only [List.mem_cons, List.not_mem_nil, or_false] at ht
            rcases ht with rfl | rfl | rfl | rfl
            · exact tkOk_mk (by omega)
            · exact tkOk_mk (by omega)
            · exact tkOk_name (hv4 (by omega))
            · exact tkOk_mk (by omega)
          · intro t ht
            simp only [List.mem_cons, List.not_mem_nil, or_false] at ht
            rcases ht with rfl | rfl | rfl | rfl | rfl | rfl
            · exact tkOk_mk (by omega)
            · exact tkOk_mk (by omega)
            · exact tkOk_name (hv4 (by omega))
            · exact tkOk_mk (by omega)
            · exact tkOk_name (ha4 (by omega) (by omega))
            · exact tkOk_mk (by omega)
theorem toks_ok {f : Nat → Nod} {T : Nat → Tr} {n : Nat} (hT : ∀ i, i < n → TrAt f T i) (hw : ∀ i, i < n → NodWf (f i)) : ∀ i, i < n → ∀ t ∈ (T i).toks, TkOk t := by
  intro i
  induction i using Nat.strongRecOn with
  | _ i ih =>
    intro hi
    have ht := hT i hi
    rcases ht.2 with ⟨h1, h2, _, _, e⟩ | ⟨h1, j, hj, h2, _, e⟩ | ⟨h1, h2, j, k, hj, hk, h3, h4, e⟩
    · rw [e]
      exact leafT_ok ht.1 (hw i hi) h1 h2
    · rw [e]
      intro t ht
      rcases List.mem_cons.1 ht with rfl | ht
      · exact tkOk_mk (sgn_ok (by omega) (by omega))
      · exact tkOk_wrap (ih j hj (by omega)) t ht
    · rw [e]
      intro t ht
      rcases List.mem_append.1 ht with ht | ht
      · exact tkOk_wrap (ih j hj (by omega)) t ht
      · rcases List.mem_cons.1 ht with rfl | ht
        · exact tkOk_mk (sgn_ok (by omega) (by omega))
        · exact tkOk_wrap (ih k hk (by omega)) t ht
/-! ### The text -/
def textRes (L : List Tk) (d : Nat) : ByteArray × Int := if 400 < L.length then (⟨#[]⟩, 51) else if 32 < d then (⟨#[]⟩, 41) else (⟨(joinB L).toArray⟩, 0)
theorem text_of {L' : List Tk} {d' : Nat} {P : List Tk} {p : Nat} (h : Wrote [] L' 0 d' 0 P p) : textRes L' d' = textRes P p := by
  obtain ⟨a1, a2, a3, a4, a5⟩ := h
  simp only [List.length_nil, Nat.zero_add, List.nil_append, Nat.zero_max] at a1 a2 a4 a5
  by_cases hp : P.length ≤ 400
  · obtain ⟨rfl, rfl⟩ := a4 hp
    rfl
  · unfold textRes
    rw [if_pos (a5 (by omega)), if_pos (by omega)]
theorem WrS.list {w : World} {B R : Nat} {L : List Tk} {o d : Nat} {A : Option Addr} {c : Nat} (h : WrS w B R L o d (.slice A L.length c)) : TkList w A L := by
  intro j t ht
  have hj := (List.getElem?_eq_some_iff.1 ht).1
  obtain ⟨g, cap, hv, hB, hlt⟩ := h.own.form (by omega)
  injection hv with hA _ hc
  subst hA hc
  have hc : ∀ i, i < 4 → w.cell? ⟨g, j * 4 + i, none⟩ = (tkL t)[i]? := fun i hi => by rw [h.own.cellAt (j * 4 + i) (by omega), tkCells_at ht hi]
  refine ⟨g, 0, rfl, ?_, ?_, ?_, ?_⟩
  · rw [Nat.zero_add]; exact hc 0 (by omega)
  · rw [Nat.zero_add]; exact hc 1 (by omega)
  · rw [Nat.zero_add]; exact hc 2 (by omega)
  · rw [Nat.zero_add]; exact hc 3 (by omega)
set_option maxRecDepth 100000 in
set_option maxHeartbeats 2000000 in
theorem text_any (B R : Nat) (L : List Tk) (o d : Nat) (v : Value) (w : World) (h : WrS w B R L o d v) (hok : L.length ≤ 400 → ∀ t ∈ L, TkOk t) (hl : L.length ≤ 1000000) (hd : d ≤ 1000000) (hp : Pow w) (hs : SplV w) {tt : TypeId} {fr : Nat × Nat} (hkw : w.heap[2]? = some (.cells kwArr tt fr)) :
    Calls Tryd.prog 22 #[.pointer (some ⟨R, 0, none⟩)] w fun e w' => e = .returned (.tuple #[.string (textRes L d).1, .int .i64 (textRes L d).2]) ∧ Below w.heap.size w w' := by
  obtain ⟨A, c, rfl, _⟩ := rowown_shape h.own
  have HW := Lib.hid h
  have HP := Lib.hid hp
  have HS := Lib.hid hs
  have HK := Lib.hid hkw
  have HOK := Lib.hid hok
  obtain ⟨x0, x1, x2, f0, f1, f2⟩ := h.cells
  clear h hp hs hkw hok
  go_enter Tryd.func22, Tryd.ntmps22
  go_wp2_with fail
  refine (full_any B R L o d _ _ HW.out).mono ?_
  rintro e w1 ⟨rfl, e1⟩
  obtain rfl := e1.symm
  by_cases hf : 400 < L.length
  · have HE := Lib.hid (show textRes L d = (⟨#[]⟩, 51) from if_pos hf)
    rw [decide_eq_true hf]
    go_wp2_with fail
    go_ret2
    exact ⟨by rw [HE.out]; rfl, Below.refl _ _⟩
  · rw [decide_eq_false hf]
    by_cases hdp : 32 < d
    · have HE := Lib.hid (show textRes L d = (⟨#[]⟩, 41) by unfold textRes; rw [if_neg hf, if_pos hdp])
      have hdi : (32 : Int) < (d : Int) := by omega
      go_wp2_with fail
      go_ret2
      exact ⟨by rw [HE.out]; rfl, Below.refl _ _⟩
    · have HE := Lib.hid (show textRes L d = (⟨(joinB L).toArray⟩, 0) by unfold textRes; rw [if_neg hf, if_neg hdp])
      have hdi : (d : Int) ≤ 32 := by omega
      go_wp2_with fail
      refine (join_any L A c _ HW.out.list (HOK.out (by omega)) (by omega) HP.out HS.out HK.out).mono ?_
      rintro e w2 ⟨rfl, hb2⟩
      go_wp2_with fail
      go_ret2
      exact ⟨by rw [HE.out]; rfl, hb2⟩
/-- What Expr answers of a tree, of a list of nodes. -/
def exprOf (n : Nat) (f : Nat → Nod) (T : Nat → Tr) : ByteArray × Int := if treeB n f = true then (if 400 < n then (⟨#[]⟩, 51) else textRes (T (n - 1)).toks (T (n - 1)).dp) else (⟨#[]⟩, 50)
/-- The trees of a well shaped list of nodes. -/
def TreesOk (n : Nat) (f : Nat → Nod) (T : Nat → Tr) : Prop := treeB n f = true → 0 < n ∧ ∀ i, i < n → TrAt f T i ∧ (T i).sz ≤ i + 1
theorem trees_ok (n : Nat) (f : Nat → Nod) : ∃ T, TreesOk n f T := by
  cases h : treeB n f
  · exact ⟨fun i => .leaf (f i), fun h2 => by rw [h] at h2; cases h2⟩
  · have h0 := h
    unfold treeB at h
    split at h
    · cases h
    · rename_i l hl
      simp only [decide_eq_true_eq] at h
      obtain ⟨T, hT⟩ := trees_of hl
      exact ⟨T, fun _ => ⟨h.1, fun i hi => ⟨(hT i hi).1, by have := (hT i hi).2; omega⟩⟩⟩
set_option maxRecDepth 100000 in
set_option maxHeartbeats 2000000 in
theorem showExpr_any (A : Option Addr) (n c : Nat) (f : Nat → Nod) (T : Nat → Tr) (hT : TreesOk n f T) (w : World) (h : NodRd w w.heap.size A n f) (hw : ∀ i, i < n → NodWf (f i)) (hlv : LevV w) (hsg : SgnV w) (hp : Pow w) (hs : SplV w) {tt : TypeId} {fr : Nat × Nat} (hkw : w.heap[2]? = some (.cells kwArr tt fr)) :
    Calls Tryd.prog 11 #[.slice A n c] w fun e w' => e = .returned (.tuple #[.string (exprOf n f T).1, .int .i64 (exprOf n f T).2]) ∧ Below w.heap.size w w' := by
  have hn := h.small
  have HT := Lib.hid h
  have HTR := Lib.hid hT
  have HW := Lib.hid hw
  have LV := Lib.hid hlv
  have SG := Lib.hid hsg
  have PW := Lib.hid hp
  have SP := Lib.hid hs
  have HK := Lib.hid hkw
  clear h hT hw hlv hsg hp hs hkw
  go_enter Tryd.func11, Tryd.ntmps11
  go_wp2_with fail
  refine (showTree_any A n c f _ HT.out HK.out).mono ?_
  rintro e w1 ⟨rfl, hb1⟩
  cases htb : treeB n f
  · have HE := Lib.hid (show exprOf n f T = (⟨#[]⟩, 50) from if_neg (by rw [htb]; simp))
    clear htb
    go_wp2_with fail
    go_ret2
    exact ⟨by rw [HE.out]; rfl, hb1⟩
  · obtain ⟨h0, hall⟩ := HTR.out htb
    by_cases hbig : 400 < n
    · have HE := Lib.hid (show exprOf n f T = (⟨#[]⟩, 51) by unfold exprOf; rw [if_pos htb, if_pos hbig])
      have hbi : (400 : Int) < (n : Int) := by omega
      clear htb hall
      go_wp2_with fail
      go_ret2
      exact ⟨by rw [HE.out]; rfl, hb1⟩
    · have HE := Lib.hid (show exprOf n f T = textRes (T (n - 1)).toks (T (n - 1)).dp by unfold exprOf; rw [if_pos htb, if_neg hbig])
      have hbi : (n : Int) ≤ 400 := by omega
      have hszn := (hall (n - 1) (by omega)).2
      have hNA := node_all w1 A n c f T (HT.out.later hb1) (LV.out.later hb1) (SG.out.later hb1) (fun i hi => (hall i hi).1) (n - 1) (by omega) 0 (by omega) (by omega)
      have hlr := lev_range (hall (n - 1) (by omega)).1.op.1 (hall (n - 1) (by omega)).1.op.2
      rw [show wrapT (lev (f (n - 1)).op) 0 (T (n - 1)).toks = (T (n - 1)).toks from if_neg (by omega), show wrapD (lev (f (n - 1)).op) 0 (T (n - 1)).dp = (T (n - 1)).dp from if_neg (by omega)] at hNA
      have HOK := Lib.hid (toks_ok (fun i hi => (hall i hi).1) HW.out (n - 1) (by omega))
      have hkl := toks_len (T (n - 1))
      have hkd := dp_len (T (n - 1))
      have HNA := Lib.hid hNA
      obtain ⟨t, ht⟩ : ∃ t, T (n - 1) = t := ⟨_, rfl⟩
      rw [ht] at HE hszn HNA HOK hkl hkd
      have hW0 := Lib.hid (show WrS (w1.alloc (.cells #[.slice none 0 0, .int .i64 0, .int .i64 0] 53)) w1.heap.size w1.heap.size [] 0 0 (.slice none 0 0) from ⟨Nat.le_refl _, blk_new _ _ _, World.ownsRow_nil _ _ _ _⟩)
      have hb2 := bnew (Below.refl w1.heap.size w1) (.cells #[.slice none 0 0, .int .i64 0, .int .i64 0] 53)
      obtain ⟨m, hm⟩ : ∃ m, n - 1 = m := ⟨_, rfl⟩
      have hmi : (n : Int) - 1 = (m : Int) := by omega
      rw [hm] at HNA
      clear htb hall hlr ht hm
      obtain ⟨R, hR⟩ : ∃ R, w1.heap.size = R := ⟨_, rfl⟩
      have HRR := Lib.hid hR
      clear hR
      go_upto_region 6 with fail
      generalize hw2 : w1.alloc _ = w2 at *
      clear hw2
      go_wp2_with fail
      refine (HNA.out w1.heap.size w2 [] 0 0 _ hW0.out hb2 (by simp; omega) (by omega) (by omega) (by omega)).mono ?_
      rintro e w3 ⟨rfl, hs3, L3, d3, v3, h3, hw3⟩
      have hb3 := (hb2.trans hs3.below)
      have hbf := bcall hb1 hb3
      have H3 := Lib.hid h3
      have HW3 := Lib.hid hw3
      have hl3 : L3.length ≤ 0 + t.toks.length := hw3.1
      have hd3 : d3 ≤ max 0 (0 + t.dp) := hw3.2.1
      clear h3 hw3 hs3
      go_wp2_with fail
      have hokk : L3.length ≤ 400 → ∀ t ∈ L3, TkOk t := fun hle => by
        obtain ⟨a1, a2, a3, a4, a5⟩ := HW3.out
        by_cases hp : t.toks.length ≤ 400
        · obtain ⟨rfl, _⟩ := a4 (by simpa using hp)
          simpa using HOK.out
        · have := a5 (by simp; omega)
          omega
      refine (text_any w1.heap.size w1.heap.size L3 0 d3 v3 _ H3.out hokk (by omega) (by omega) (PW.out.later hbf) (SP.out.later hbf) (block_below HK.out hbf)).mono ?_
      rw [text_of HW3.out]
      rintro e w4 ⟨rfl, hb4⟩
      clear hokk
      go_wp2_with fail
      go_ret2
      exact ⟨by rw [HE.out]; rfl, bcall hbf hb4⟩
end Go.Proofs.YtfcdkadblagijaaDoor

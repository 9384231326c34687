/-
  Trees and their tokens, plain.
-/
import Derived.Test.YtfcdkadblagijaaDoorShowTree
import Derived.Test.YtfcdkadblagijaaDoorFmt5
set_option linter.unusedSimpArgs false
set_option linter.unusedVariables false
namespace Go.Proofs.YtfcdkadblagijaaDoor
open Go.RowKit
/-- A token. -/
structure Tk where
  k : Int
  s : ByteArray
  n : Int
def mkT (k : Int) : Tk := ⟨k, ⟨#[]⟩, 0⟩
def nmT (s : ByteArray) : Tk := ⟨1, s, 0⟩
def nuT (n : Int) : Tk := ⟨2, ⟨#[]⟩, n⟩
/-- A tree. -/
inductive Tr where
  | leaf (x : Nod) : Tr
  | un (x : Nod) (a : Tr) : Tr
  | bi (x : Nod) (a b : Tr) : Tr
def Tr.nod : Tr → Nod
  | .leaf x => x
  | .un x _ => x
  | .bi x _ _ => x
def Tr.sz : Tr → Nat
  | .leaf _ => 1
  | .un _ a => a.sz + 1
  | .bi _ a b => a.sz + b.sz + 1
def levL : List Int := [7, 3, 5, 5, 6, 6, 6, 4, 4, 4, 4, 4, 4, 2, 1]
def sgnL : List Int := [12, 43, 11, 12, 13, 14, 15, 16, 17, 18, 19, 20, 21, 41, 42]
def lev (o : Int) : Int := if o < 12 then 8 else levL.getD (o - 12).toNat 0
def sgn (o : Int) : Int := sgnL.getD (o - 12).toNat 0
def leftL (o : Int) : Int := if lev o = 4 then 5 else lev o
def leafT (x : Nod) : List Tk :=
  if x.op = 1 then [nuT x.n] else if x.op = 2 then [mkT 44] else if x.op = 3 then [mkT 45] else if x.op = 4 then [nmT x.vr, mkT 8, nmT x.at_]
  else if x.op = 5 then [mkT 46, mkT 3, nmT x.vr, mkT 4] else [mkT (47 + (x.op - 6)), mkT 3, nmT x.vr, mkT 8, nmT x.at_, mkT 4]
/-- In brackets, if the level l is below least. -/
def wrapT (l least : Int) (T : List Tk) : List Tk := if l < least then mkT 3 :: (T ++ [mkT 4]) else T
def wrapD (l least : Int) (d : Nat) : Nat := if l < least then d + 1 else d
def Tr.toks : Tr → List Tk
  | .leaf x => leafT x
  | .un x a => mkT (sgn x.op) :: wrapT (lev a.nod.op) (lev x.op) a.toks
  | .bi x a b => wrapT (lev a.nod.op) (leftL x.op) a.toks ++ mkT (sgn x.op) :: wrapT (lev b.nod.op) (lev x.op + 1) b.toks
def Tr.dp : Tr → Nat
  | .leaf _ => 0
  | .un x a => wrapD (lev a.nod.op) (lev x.op) a.dp + 1
  | .bi x a b => max (wrapD (lev a.nod.op) (leftL x.op) a.dp) (wrapD (lev b.nod.op) (lev x.op + 1) b.dp)
/-- The nodes' trees. -/
def TrAt (f : Nat → Nod) (T : Nat → Tr) (i : Nat) : Prop :=
  fieldsB (f i) = true ∧ ((1 ≤ (f i).op ∧ (f i).op ≤ 11 ∧ (f i).a = -1 ∧ (f i).b = -1 ∧ T i = .leaf (f i)) ∨
    (((f i).op = 12 ∨ (f i).op = 13) ∧ ∃ j, j < i ∧ (f i).a = (j : Int) ∧ (f i).b = -1 ∧ T i = .un (f i) (T j)) ∨
    (14 ≤ (f i).op ∧ (f i).op ≤ 26 ∧ ∃ j k, j < i ∧ k < i ∧ (f i).a = (j : Int) ∧ (f i).b = (k : Int) ∧ T i = .bi (f i) (T j) (T k)))
theorem TrAt.nod {f : Nat → Nod} {T : Nat → Tr} {i : Nat} (h : TrAt f T i) : (T i).nod = f i := by
  rcases h.2 with ⟨_, _, _, _, e⟩ | ⟨_, j, _, _, _, e⟩ | ⟨_, _, j, k, _, _, _, _, e⟩ <;> rw [e] <;> rfl
theorem TrAt.op {f : Nat → Nod} {T : Nat → Tr} {i : Nat} (h : TrAt f T i) : 1 ≤ (f i).op ∧ (f i).op ≤ 26 := by
  rcases h.2 with ⟨_, _, _⟩ | ⟨h1 | h1, _⟩ | ⟨_, _, _⟩ <;> omega
theorem arity_inv {o : Int} : (arity o = 0 → 1 ≤ o ∧ o ≤ 11) ∧ (arity o = 1 → o = 12 ∨ o = 13) ∧ (arity o = 2 → 14 ≤ o ∧ o ≤ 26) := by
  unfold arity
  split
  · rename_i h
    exact ⟨fun _ => h, fun h => by omega, fun h => by omega⟩
  · split
    · rename_i h
      exact ⟨fun h => by omega, fun _ => h, fun h => by omega⟩
    · split
      · rename_i h
        exact ⟨fun h => by omega, fun h => by omega, fun _ => h⟩
      · exact ⟨fun h => by omega, fun h => by omega, fun h => by omega⟩
/-- What a node's place says. -/
theorem res_says {x : Nod} {l : Nat → Nat} {i v : Nat} (h : nodeRes x l i = some v) :
    fieldsB x = true ∧ ((1 ≤ x.op ∧ x.op ≤ 11 ∧ x.a = -1 ∧ x.b = -1 ∧ v = i) ∨ ((x.op = 12 ∨ x.op = 13) ∧ 1 ≤ i ∧ x.a = (i : Int) - 1 ∧ x.b = -1 ∧ v = l (i - 1)) ∨
      (14 ≤ x.op ∧ x.op ≤ 26 ∧ 1 ≤ i ∧ x.b = (i : Int) - 1 ∧ 1 ≤ l (i - 1) ∧ x.a = (l (i - 1) : Int) - 1 ∧ v = l x.a.toNat)) := by
  unfold nodeRes at h
  obtain ⟨a0, a1, a2⟩ := arity_inv (o := x.op)
  split at h
  · rename_i hf
    refine ⟨hf, ?_⟩
    split at h
    · rename_i ha
      split at h
      · rename_i hc
        injection h with h
        exact Or.inl ⟨(a0 ha).1, (a0 ha).2, hc.1, hc.2, h.symm⟩
      · cases h
    · split at h
      · rename_i ha
        split at h
        · rename_i hc
          injection h with h
          exact Or.inr (Or.inl ⟨a1 ha, hc.1, hc.2.1, hc.2.2, h.symm⟩)
        · cases h
      · split at h
        · rename_i ha
          split at h
          · rename_i hc
            injection h with h
            exact Or.inr (Or.inr ⟨(a2 ha).1, (a2 ha).2, hc.1, hc.2.1, hc.2.2.1, hc.2.2.2, h.symm⟩)
          · cases h
        · cases h
  · cases h
theorem trAt_congr {f : Nat → Nod} {T T' : Nat → Tr} {i : Nat} (h : TrAt f T i) (he : ∀ j, j ≤ i → T' j = T j) : TrAt f T' i := by
  refine ⟨h.1, ?_⟩
  rcases h.2 with ⟨h1, h2, h3, h4, e⟩ | ⟨h1, j, hj, h2, h3, e⟩ | ⟨h1, h2, j, k, hj, hk, h3, h4, e⟩
  · exact Or.inl ⟨h1, h2, h3, h4, by rw [he i (Nat.le_refl _)]; exact e⟩
  · exact Or.inr (Or.inl ⟨h1, j, hj, h2, h3, by rw [he i (Nat.le_refl _), he j (by omega)]; exact e⟩)
  · exact Or.inr (Or.inr ⟨h1, h2, j, k, hj, hk, h3, h4, by rw [he i (Nat.le_refl _), he j (by omega), he k (by omega)]; exact e⟩)
/-- Of a list of nodes whose places are right: their trees. -/
theorem trees_of {f : Nat → Nod} : ∀ {n : Nat} {l : List Nat}, bg f n = some l → ∃ T : Nat → Tr, ∀ i, i < n → TrAt f T i ∧ (T i).sz + lget l i = i + 1
  | 0, _, _ => ⟨fun i => .leaf (f i), fun i hi => by omega⟩
  | n + 1, l, h => by
    cases hb : bg f n with
    | none => rw [bg_none hb (n + 1) (by omega)] at h; cases h
    | some l' =>
      cases hr : nodeRes (f n) (lget l') n with
      | none => rw [bg_stop hb hr] at h; cases h
      | some v =>
        rw [bg_next hb hr] at h
        injection h with h
        subst h
        have hl := bg_len hb
        obtain ⟨T, hT⟩ := trees_of hb
        obtain ⟨hf, hres⟩ := res_says hr
        have step : ∀ t : Tr, TrAt f (fun i => if i = n then t else T i) n → t.sz + v = n + 1 → ∃ T : Nat → Tr, ∀ i, i < n + 1 → TrAt f T i ∧ (T i).sz + lget (l' ++ [v]) i = i + 1 := fun t ht hs => by
          refine ⟨fun i => if i = n then t else T i, fun i hi => ?_⟩
          by_cases e : i = n
          · subst e
            refine ⟨ht, ?_⟩
            have e1 := lget_last l' v
            rw [hl] at e1
            show (if i = i then t else T i).sz + lget (l' ++ [v]) i = i + 1
            rw [if_pos rfl, e1]
            exact hs
          · refine ⟨trAt_congr (hT i (by omega)).1 (fun j hj => if_neg (by omega)), ?_⟩
            show (if i = n then t else T i).sz + lget (l' ++ [v]) i = i + 1
            rw [if_neg e, lget_left (by omega)]
            exact (hT i (by omega)).2
        rcases hres with ⟨h1, h2, h3, h4, hv⟩ | ⟨h1, h2, h3, h4, rfl⟩ | ⟨h1, h2, h3, h4, h5, h6, rfl⟩
        · obtain rfl := hv.symm
          exact step (.leaf (f n)) ⟨hf, Or.inl ⟨h1, h2, h3, h4, if_pos rfl⟩⟩ (by simp only [Tr.sz]; omega)
        · refine step (.un (f n) (T (n - 1))) ⟨hf, Or.inr (Or.inl ⟨h1, n - 1, by omega, by omega, h4, ?_⟩)⟩ ?_
          · show (if n = n then _ else _) = Tr.un (f n) (if n - 1 = n then _ else _)
            rw [if_pos rfl, if_neg (by omega)]
          · have := (hT (n - 1) (by omega)).2
            simp only [Tr.sz]
            omega
        · have h7 : (f n).a.toNat = lget l' (n - 1) - 1 := by omega
          have h8 := bg_le hb (n - 1) (by omega)
          refine step (.bi (f n) (T (lget l' (n - 1) - 1)) (T (n - 1))) ⟨hf, Or.inr (Or.inr ⟨h1, h2, lget l' (n - 1) - 1, n - 1, by omega, by omega, by omega, by omega, ?_⟩)⟩ ?_
          · show (if n = n then _ else _) = Tr.bi (f n) (if lget l' (n - 1) - 1 = n then _ else _) (if n - 1 = n then _ else _)
            rw [if_pos rfl, if_neg (by omega), if_neg (by omega)]
          · have k1 := (hT (n - 1) (by omega)).2
            have k2 := (hT (lget l' (n - 1) - 1) (by omega)).2
            rw [h7]
            simp only [Tr.sz]
            omega
/-! ### How many tokens there are -/
theorem leafT_len (x : Nod) : (leafT x).length ≤ 6 ∧ 0 < (leafT x).length := by
  unfold leafT
  repeat' split
  all_goals exact ⟨by simp, by simp⟩
theorem wrapT_len (l least : Int) (T : List Tk) : (wrapT l least T).length ≤ T.length + 2 ∧ T.length ≤ (wrapT l least T).length := by
  unfold wrapT
  split
  · simp only [List.length_cons, List.length_append, List.length_nil]
    omega
  · omega
theorem toks_len : ∀ t : Tr, t.toks.length + 2 ≤ 8 * t.sz ∧ t.sz ≤ t.toks.length
  | .leaf x => by have := leafT_len x; simp only [Tr.toks, Tr.sz]; omega
  | .un x a => by
    have := toks_len a
    have := wrapT_len (lev a.nod.op) (lev x.op) a.toks
    simp only [Tr.toks, Tr.sz, List.length_cons]
    omega
  | .bi x a b => by
    have := toks_len a
    have := toks_len b
    have := wrapT_len (lev a.nod.op) (leftL x.op) a.toks
    have := wrapT_len (lev b.nod.op) (lev x.op + 1) b.toks
    simp only [Tr.toks, Tr.sz, List.length_append, List.length_cons]
    omega
theorem wrapD_len (l least : Int) (d : Nat) : wrapD l least d ≤ d + 1 := by unfold wrapD; split <;> omega
theorem dp_len : ∀ t : Tr, t.dp + 1 ≤ 2 * t.sz
  | .leaf x => by simp only [Tr.dp, Tr.sz]; omega
  | .un x a => by
    have := dp_len a
    have := wrapD_len (lev a.nod.op) (lev x.op) a.dp
    simp only [Tr.dp, Tr.sz]
    omega
  | .bi x a b => by
    have := dp_len a
    have := dp_len b
    have := wrapD_len (lev a.nod.op) (leftL x.op) a.dp
    have := wrapD_len (lev b.nod.op) (lev x.op + 1) b.dp
    simp only [Tr.dp, Tr.sz]
    omega
/-! ### What a piece of the writer's work does -/
/-- Before: the tokens L, the depth d; behind: L', d'; at o open ones the piece P of depth p is written, as far as there is room. -/
def Wrote (L L' : List Tk) (d d' o : Nat) (P : List Tk) (p : Nat) : Prop :=
  L'.length ≤ L.length + P.length ∧ d' ≤ max d (o + p) ∧ d ≤ d' ∧ (L.length + P.length ≤ 400 → L' = L ++ P ∧ d' = max d (o + p)) ∧ (400 < L.length + P.length → 400 < L'.length)
section
variable {L L1 L2 P Q : List Tk} {d d1 d2 o p q : Nat}
theorem Wrote.full (h : 400 < L.length) (P : List Tk) (p : Nat) : Wrote L L d d o P p := ⟨by omega, by omega, by omega, fun h => by omega, fun _ => h⟩
theorem Wrote.add (h : o ≤ d) (P : List Tk) : Wrote L (L ++ P) d d o P 0 := ⟨by simp, by omega, by omega, fun _ => ⟨rfl, by omega⟩, fun h => by simpa using h⟩
theorem Wrote.none (h : o ≤ d) : Wrote L L d d o [] 0 := by simpa using Wrote.add (L := L) h []
theorem Wrote.trans (h : Wrote L L1 d d1 o P p) (h' : Wrote L1 L2 d1 d2 o Q q) : Wrote L L2 d d2 o (P ++ Q) (max p q) := by
  obtain ⟨a1, a2, a3, a4, a5⟩ := h
  obtain ⟨b1, b2, b3, b4, b5⟩ := h'
  refine ⟨by rw [List.length_append]; omega, by omega, by omega, fun h => ?_, fun h => ?_⟩
  · rw [List.length_append] at h
    obtain ⟨rfl, e1⟩ := a4 (by omega)
    rw [List.length_append] at b4
    obtain ⟨rfl, e2⟩ := b4 (by omega)
    exact ⟨by rw [List.append_assoc], by omega⟩
  · rw [List.length_append] at h
    by_cases hp : L.length + P.length ≤ 400
    · obtain ⟨rfl, _⟩ := a4 hp
      rw [List.length_append] at b5
      exact b5 (by omega)
    · exact b5 (by have := a5 (by omega); omega)
/-- A piece one deeper, behind x, ahead of y. -/
theorem Wrote.deep {x : Tk} {Y : List Tk} (h : Wrote (L ++ [x]) L1 (max d (o + 1)) d1 (o + 1) P p) (ho : o ≤ d) : Wrote L (L1 ++ Y) d d1 o (x :: (P ++ Y)) (p + 1) := by
  obtain ⟨a1, a2, a3, a4, a5⟩ := h
  simp only [List.length_append, List.length_cons, List.length_nil] at a1 a4 a5
  refine ⟨by simp only [List.length_append, List.length_cons]; omega, by omega, by omega, fun h => ?_, fun h => ?_⟩
  · simp only [List.length_append, List.length_cons] at h
    obtain ⟨rfl, e⟩ := a4 (by omega)
    exact ⟨by simp, by omega⟩
  · simp only [List.length_append, List.length_cons] at h ⊢
    by_cases hp : L.length + 1 + P.length ≤ 400
    · obtain ⟨rfl, _⟩ := a4 (by omega)
      simp only [List.length_append, List.length_cons, List.length_nil]
      omega
    · have := a5 (by omega)
      omega
end
end Go.Proofs.YtfcdkadblagijaaDoor

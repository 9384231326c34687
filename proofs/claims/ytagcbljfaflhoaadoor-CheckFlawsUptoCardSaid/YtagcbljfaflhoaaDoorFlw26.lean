/-
  Several texts in one: OfItems, Below.
-/
import Derived.Test.YtagcbljfaflhoaaDoorFlw18
import Derived.Test.YtagcbljfaflhoaaDoorFlw19
import Derived.Test.YtagcbljfaflhoaaDoorFlw11
import Derived.Test.YtagcbljfaflhoaaDoorFlw8
set_option linter.unusedSimpArgs false
set_option linter.unusedVariables false
/-! ### Findings in memory (a list that grows, what it holds); the walk of sluiceref6.ofItems. -/
namespace Go.Proofs.YtagcbljfaflhoaaDoor
open Go.RowKit Go.ChangeShapes Go.WideShapes Go.ChangeAt Go.Deep Go.Joins
/-- A list of findings of the call's own. -/
def FndOwn (w : World) (B : Nat) (v : Value) (L : List Fnd) : Prop := w.ownsRow B 89 6 v L.length (flat (fndC L) 6 L.length)
section
variable {w w' w9 : World} {B : Nat} {v u : Value} {L : List Fnd} {x : Fnd} {o : Obj}
theorem FndOwn.nil (w : World) (B : Nat) : FndOwn w B (.slice none 0 0) [] := by
  unfold FndOwn
  rw [List.length_nil, flat_zero]
  exact World.ownsRow_nil _ _ _ _
theorem FndOwn.below (h : FndOwn w B v L) (hb : Below w.heap.size w w') : FndOwn w' B v L := rowown_below h hb
theorem FndOwn.le {B' : Nat} (h : FndOwn w B v L) (hB : B' ≤ B) : FndOwn w B' v L := ownsRow_le h hB
theorem FndOwn.push (h : FndOwn w B v L) (hown : w9.ownsRow B 89 6 u (L.length + 1) (flat (fndC L) 6 L.length ++ [.int .i64 x.rule, .int .i64 x.rank, .int .i64 x.code, .int .i64 x.part, .int .i64 x.index, .int .i64 x.sub])) : FndOwn w9 B u (L ++ [x]) := by
  unfold FndOwn
  rw [List.length_append, List.length_singleton, fnd_snoc]
  exact hown
theorem FndOwn.blk (h : FndOwn w B v L) (hg : (w.alloc o).grownBy w9 v.ownBlock) {b : Nat} {cs : Array Value} {T : TypeId} {fr : Nat × Nat} (hb : w.heap[b]? = some (.cells cs T fr)) (hT : T ≠ 89) : w9.heap[b]? = some (.cells cs T fr) :=
  blk_grown (blk_alloc hb o) hg (fun e => by
    obtain ⟨c, fz, h1⟩ := Lib.ownsRow_kind h b e
    rw [h1] at hb
    injection hb with hb
    injection hb with _ hb
    exact hT hb.symm)
theorem FndOwn.under {B0 : Nat} {w0 : World} (h : FndOwn w B v L) (hB : B0 ≤ B) (hb : Below B0 w0 w) (hs : B0 ≤ w.heap.size) (hg : (w.alloc o).grownBy w9 v.ownBlock) : Below B0 w0 w9 :=
  below_grown (hb.alloc hs o) hg (by simp; omega) (fun x hx => by have := (h.lt x hx).1; omega)
end
theorem found_lit (a b c d i s : Int) (w : World) : Calls Tryd.prog 91 #[.int .i64 a, .int .i64 b, .int .i64 c, .int .i64 d, .int .i64 i, .int .i64 s] w fun e w' => e = .returned (.agg #[.int .i64 a, .int .i64 b, .int .i64 c, .int .i64 d, .int .i64 i, .int .i64 s]) ∧ Below w.heap.size w w' := found_any ⟨a, b, c, d, i, s⟩ w
/-- The list holds just what is there. -/
def Holds (L : List Fnd) (M : Fnd → Prop) : Prop := ∀ x, x ∈ L ↔ M x
section
variable {L : List Fnd} {M M' : Fnd → Prop} {x : Fnd}
theorem Holds.push (h : Holds L M) (e : ∀ y, M' y ↔ M y ∨ y = x) : Holds (L ++ [x]) M' := fun y => by rw [List.mem_append, List.mem_singleton, h y, e y]
theorem Holds.same (h : Holds L M) (e : ∀ y, M' y ↔ M y) : Holds L M' := fun y => (h y).trans (e y).symm
theorem push_len {n : Nat} (h : L.length ≤ n) : (L ++ [x]).length ≤ n + 1 := by rw [List.length_append, List.length_singleton]; omega
end
/-- Sums. -/
def sumN (g : Nat → Nat) : Nat → Nat
  | 0 => 0
  | k + 1 => sumN g k + g k
theorem sumN_mono {g : Nat → Nat} {k n : Nat} (h : k ≤ n) : sumN g k ≤ sumN g n := by
  induction n with
  | zero => obtain rfl : k = 0 := by omega
            exact Nat.le_refl _
  | succ n ih =>
    by_cases e : k = n + 1
    · rw [e]; exact Nat.le_refl _
    · have := ih (by omega)
      simp only [sumN]
      omega
def gI (Q : Qry) (i : Nat) : Nat := (Q.it i).tn * ((Q.it i).tn + 1) + 2
section
variable {S : Sch} {Q : Qry} {i j k m : Nat} {y : Fnd} {L : List Fnd}
theorem cnt_m (hk : k < Q.n) (hS : sumN (gI Q) Q.n ≤ 2199023255552) (hm : m ≤ (Q.it k).tn) : 1 + sumN (gI Q) k + m * ((Q.it k).tn + 1) + 2 ≤ 2199023255553 := by
  have h1 : sumN (gI Q) (k + 1) ≤ sumN (gI Q) Q.n := sumN_mono hk
  have h2 : m * ((Q.it k).tn + 1) ≤ (Q.it k).tn * ((Q.it k).tn + 1) := Nat.mul_le_mul_right _ hm
  have e : sumN (gI Q) (k + 1) = sumN (gI Q) k + ((Q.it k).tn * ((Q.it k).tn + 1) + 2) := rfl
  omega
theorem cnt_k (hk : k ≤ Q.n) (hS : sumN (gI Q) Q.n ≤ 2199023255552) : sumN (gI Q) k ≤ 2199023255552 := Nat.le_trans (sumN_mono hk) hS
theorem cnt_in (h : L.length ≤ 1 + sumN (gI Q) k + m * ((Q.it k).tn + 1) + 1 + j) (hj : j ≤ m) (hm : m < (Q.it k).tn) (hk : k < Q.n) (hS : sumN (gI Q) Q.n ≤ 2199023255552) : L.length ≤ 2199023255560 := by
  have h1 := cnt_m (m := m + 1) hk hS hm
  have h2 : (m + 1) * ((Q.it k).tn + 1) = m * ((Q.it k).tn + 1) + ((Q.it k).tn + 1) := Nat.succ_mul _ _
  omega
theorem cnt_up (h : L.length ≤ 1 + sumN (gI Q) k + m * ((Q.it k).tn + 1) + 1 + m) (hm : m < (Q.it k).tn) : L.length ≤ 1 + sumN (gI Q) k + (m + 1) * ((Q.it k).tn + 1) := by
  have h2 : (m + 1) * ((Q.it k).tn + 1) = m * ((Q.it k).tn + 1) + ((Q.it k).tn + 1) := Nat.succ_mul _ _
  omega
theorem cnt_end (h : L.length ≤ 1 + sumN (gI Q) k + (Q.it k).tn * ((Q.it k).tn + 1) + j) (hj : j ≤ 2) : L.length ≤ 1 + sumN (gI Q) (k + 1) := by
  have e : sumN (gI Q) (k + 1) = sumN (gI Q) k + ((Q.it k).tn * ((Q.it k).tn + 1) + 2) := rfl
  omega
def repOk (x : Itm) : Bool := decide (1 ≤ x.lo ∧ x.lo ≤ x.hi ∧ x.hi ≤ 4)
theorem repOk_of {x : Itm} {lo hi : Int} {b : Bool} (h1 : x.lo = lo) (h2 : x.hi = hi) (h : decide (1 ≤ lo ∧ lo ≤ hi ∧ hi ≤ 4) = b) : repOk x = b := by subst h1 h2; exact h
def pItems (S : Sch) (Q : Qry) (k : Nat) (x : Fnd) : Prop := (10 < Q.n ∧ x = ⟨3, 0, 60, 1, 10, 0⟩) ∨ ∃ i, i < k ∧ mItem S Q i x
def pTy (S : Sch) (Q : Qry) (i j : Nat) (x : Fnd) : Prop := pItems S Q i x ∨ (∃ a, a < j ∧ typeI S ((Q.it i).ty a) < 0 ∧ x = ⟨4, 1, 61, 1, i, 0⟩) ∨ (∃ a b, b < a ∧ a < j ∧ ((Q.it i).ty a).toList = ((Q.it i).ty b).toList ∧ x = ⟨4, 2, 62, 1, i, 0⟩)
def pTw (S : Sch) (Q : Qry) (i j k : Nat) (x : Fnd) : Prop := pTy S Q i j x ∨ (typeI S ((Q.it i).ty j) < 0 ∧ x = ⟨4, 1, 61, 1, i, 0⟩) ∨ (∃ b, b < k ∧ ((Q.it i).ty j).toList = ((Q.it i).ty b).toList ∧ x = ⟨4, 2, 62, 1, i, 0⟩)
def pRep (S : Sch) (Q : Qry) (i : Nat) (x : Fnd) : Prop := pTy S Q i (Q.it i).tn x ∨ (¬ (1 ≤ (Q.it i).lo ∧ (Q.it i).lo ≤ (Q.it i).hi ∧ (Q.it i).hi ≤ 4) ∧ x = ⟨4, 3, 63, 1, i, 0⟩)
theorem pit_many (h : 10 < Q.n) : pItems S Q 0 y ↔ False ∨ y = ⟨3, 0, 60, 1, 10, 0⟩ := by
  constructor
  · rintro (⟨_, h⟩ | ⟨i, hi, _⟩)
    · exact .inr h
    · omega
  · rintro (h1 | h1)
    · exact h1.elim
    · exact .inl ⟨h, h1⟩
theorem pit_few (h : ¬ 10 < Q.n) : pItems S Q 0 y ↔ False := by
  constructor
  · rintro (⟨h1, _⟩ | ⟨i, hi, _⟩)
    · exact h h1
    · omega
  · exact False.elim
theorem pty_zero : pTy S Q i 0 y ↔ pItems S Q i y := by
  constructor
  · rintro (h | ⟨a, ha, _⟩ | ⟨a, b, _, ha, _⟩)
    · exact h
    · omega
    · omega
  · exact .inl
theorem ptw_neg (h : typeI S ((Q.it i).ty j) < 0) : pTw S Q i j 0 y ↔ pTy S Q i j y ∨ y = ⟨4, 1, 61, 1, i, 0⟩ := by
  constructor
  · rintro (h1 | ⟨_, h1⟩ | ⟨b, hb, _⟩)
    · exact .inl h1
    · exact .inr h1
    · omega
  · rintro (h1 | h1)
    · exact .inl h1
    · exact .inr (.inl ⟨h, h1⟩)
theorem ptw_pos (h : 0 ≤ typeI S ((Q.it i).ty j)) : pTw S Q i j 0 y ↔ pTy S Q i j y := by
  constructor
  · rintro (h1 | ⟨h1, _⟩ | ⟨b, hb, _⟩)
    · exact h1
    · omega
    · omega
  · exact .inl
theorem ptw_hit (h : ((Q.it i).ty j).toList = ((Q.it i).ty k).toList) : pTw S Q i j (k + 1) y ↔ pTw S Q i j k y ∨ y = ⟨4, 2, 62, 1, i, 0⟩ := by
  constructor
  · rintro (h1 | h1 | ⟨b, hb, _, e⟩)
    · exact .inl (.inl h1)
    · exact .inl (.inr (.inl h1))
    · exact .inr e
  · rintro ((h1 | h1 | ⟨b, hb, h2, e⟩) | h1)
    · exact .inl h1
    · exact .inr (.inl h1)
    · exact .inr (.inr ⟨b, by omega, h2, e⟩)
    · exact .inr (.inr ⟨k, by omega, h, h1⟩)
theorem ptw_miss (h : ¬ ((Q.it i).ty j).toList = ((Q.it i).ty k).toList) : pTw S Q i j (k + 1) y ↔ pTw S Q i j k y := by
  constructor
  · rintro (h1 | h1 | ⟨b, hb, h2, e⟩)
    · exact .inl h1
    · exact .inr (.inl h1)
    · by_cases hbk : b = k
      · subst hbk; exact absurd h2 h
      · exact .inr (.inr ⟨b, by omega, h2, e⟩)
  · rintro (h1 | h1 | ⟨b, hb, h2, e⟩)
    · exact .inl h1
    · exact .inr (.inl h1)
    · exact .inr (.inr ⟨b, by omega, h2, e⟩)
theorem pty_next : pTy S Q i (j + 1) y ↔ pTw S Q i j j y := by
  constructor
  · rintro (h1 | ⟨a, ha, h1, e⟩ | ⟨a, b, hb, ha, h1, e⟩)
    · exact .inl (.inl h1)
    · by_cases hj : a = j
      · subst hj; exact .inr (.inl ⟨h1, e⟩)
      · exact .inl (.inr (.inl ⟨a, by omega, h1, e⟩))
    · by_cases hj : a = j
      · subst hj; exact .inr (.inr ⟨b, hb, h1, e⟩)
      · exact .inl (.inr (.inr ⟨a, b, hb, by omega, h1, e⟩))
  · rintro ((h1 | ⟨a, ha, h1, e⟩ | ⟨a, b, hb, ha, h1, e⟩) | ⟨h1, e⟩ | ⟨b, hb, h1, e⟩)
    · exact .inl h1
    · exact .inr (.inl ⟨a, by omega, h1, e⟩)
    · exact .inr (.inr ⟨a, b, hb, by omega, h1, e⟩)
    · exact .inr (.inl ⟨j, by omega, h1, e⟩)
    · exact .inr (.inr ⟨j, b, hb, by omega, h1, e⟩)
theorem prep_hit (h : repOk (Q.it i) = false) : pRep S Q i y ↔ pTy S Q i (Q.it i).tn y ∨ y = ⟨4, 3, 63, 1, i, 0⟩ := by
  have h := of_decide_eq_false h
  constructor
  · rintro (h1 | ⟨_, h1⟩)
    · exact .inl h1
    · exact .inr h1
  · rintro (h1 | h1)
    · exact .inl h1
    · exact .inr ⟨h, h1⟩
theorem prep_miss (h : repOk (Q.it i) = true) : pRep S Q i y ↔ pTy S Q i (Q.it i).tn y := by
  have h := of_decide_eq_true h
  constructor
  · rintro (h1 | ⟨h1, _⟩)
    · exact h1
    · exact absurd h h1
  · exact .inl
theorem mitem_iff : pItems S Q (i + 1) y ↔ pRep S Q i y ∨ (itemI Q.n Q.it (Q.it i).vr < i ∧ y = ⟨4, 4, 64, 1, i, 0⟩) := by
  constructor
  · rintro (h1 | ⟨k, hk, h1⟩)
    · exact .inl (.inl (.inl (.inl h1)))
    · by_cases e : k = i
      · subst e
        rcases h1 with ⟨a, ha, h2, e⟩ | ⟨a, b, hb, ha, h2, e⟩ | ⟨h2, e⟩ | ⟨h2, e⟩
        · exact .inl (.inl (.inr (.inl ⟨a, ha, h2, e⟩)))
        · exact .inl (.inl (.inr (.inr ⟨a, b, hb, ha, h2, e⟩)))
        · exact .inl (.inr ⟨h2, e⟩)
        · exact .inr ⟨h2, e⟩
      · exact .inl (.inl (.inl (.inr ⟨k, by omega, h1⟩)))
  · rintro (((((h1 | ⟨k, hk, h1⟩) | ⟨a, ha, h2, e⟩ | ⟨a, b, hb, ha, h2, e⟩) | ⟨h2, e⟩)) | ⟨h2, e⟩)
    · exact .inl h1
    · exact .inr ⟨k, by omega, h1⟩
    · exact .inr ⟨i, by omega, .inl ⟨a, ha, h2, e⟩⟩
    · exact .inr ⟨i, by omega, .inr (.inl ⟨a, b, hb, ha, h2, e⟩)⟩
    · exact .inr ⟨i, by omega, .inr (.inr (.inl ⟨h2, e⟩))⟩
    · exact .inr ⟨i, by omega, .inr (.inr (.inr ⟨h2, e⟩))⟩
theorem pit_hit (h : itemI Q.n Q.it (Q.it i).vr < i) : pItems S Q (i + 1) y ↔ pRep S Q i y ∨ y = ⟨4, 4, 64, 1, i, 0⟩ := by
  rw [mitem_iff]
  constructor
  · rintro (h1 | ⟨_, h1⟩)
    · exact .inl h1
    · exact .inr h1
  · rintro (h1 | h1)
    · exact .inl h1
    · exact .inr ⟨h, h1⟩
theorem pit_miss (h : (i : Int) ≤ itemI Q.n Q.it (Q.it i).vr) : pItems S Q (i + 1) y ↔ pRep S Q i y := by
  rw [mitem_iff]
  constructor
  · rintro (h1 | ⟨h1, _⟩)
    · exact h1
    · omega
  · exact .inl
theorem mits_hit (h : allB (fun i => (Q.it i).neg) Q.n = true) : mItems S Q y ↔ pItems S Q Q.n y ∨ y = ⟨5, 0, 65, 1, 0, 0⟩ := by
  constructor
  · rintro (h1 | ⟨i, hi, h1⟩ | ⟨_, h1⟩)
    · exact .inl (.inl h1)
    · exact .inl (.inr ⟨i, hi, h1⟩)
    · exact .inr h1
  · rintro ((h1 | ⟨i, hi, h1⟩) | h1)
    · exact .inl h1
    · exact .inr (.inl ⟨i, hi, h1⟩)
    · exact .inr (.inr ⟨h, h1⟩)
theorem mits_miss (h : allB (fun i => (Q.it i).neg) Q.n = false) : mItems S Q y ↔ pItems S Q Q.n y := by
  constructor
  · rintro (h1 | ⟨i, hi, h1⟩ | ⟨h1, _⟩)
    · exact .inl h1
    · exact .inr ⟨i, hi, h1⟩
    · rw [h] at h1; cases h1
  · rintro (h1 | ⟨i, hi, h1⟩)
    · exact .inl h1
    · exact .inr (.inl ⟨i, hi, h1⟩)
end
theorem all_succ {p : Nat → Bool} {k : Nat} : allB p (k + 1) = (allB p k && p k) := by
  unfold allB
  rw [List.range_succ, List.all_append]
  simp
set_option maxRecDepth 100000 in
set_option maxHeartbeats 16000000 in
theorem ofItems_any (A : Option Addr) (cap : Nat) (S : Sch) (V : QryV) (Q : Qry) (w : World) (hS : TypRd w w.heap.size A S) (h : QryRd w w.heap.size V Q) (hsum : sumN (gI Q) Q.n ≤ 2199023255552) :
    Calls Tryd.prog 62 #[.agg #[.slice A S.n cap], .agg (qryArr V Q)] w fun e w' => ∃ v L, e = .returned v ∧ Below w.heap.size w w' ∧ FndOwn w' w.heap.size v L ∧ Holds L (mItems S Q) ∧ L.length ≤ 2199023255560 := by
  obtain ⟨aI, cI, aW, cW, aR, cR⟩ := V
  show Calls _ _ #[.agg #[.slice A S.n cap], .agg #[.slice aI Q.n cI, .int .i64 Q.mode, .int .i64 Q.after, .slice aW Q.wn cW, .int .i64 Q.within, .string Q.by_, .slice aR Q.m cR]] w _
  have hnI := h.rI.small
  obtain ⟨i1, hi1, hy0, hy1, hy2⟩ := info_parts infoFnd
  have hb0 := bnew (bnew (Below.refl w.heap.size w) (.cells #[.slice A S.n cap] 34)) (.cells #[.slice aI Q.n cI, .int .i64 Q.mode, .int .i64 Q.after, .slice aW Q.wn cW, .int .i64 Q.within, .string Q.by_, .slice aR Q.m cR] 40)
  have s0 := blk_alloc (blk_new w #[.slice A S.n cap] 34) (.cells #[.slice aI Q.n cI, .int .i64 Q.mode, .int .i64 Q.after, .slice aW Q.wn cW, .int .i64 Q.within, .string Q.by_, .slice aR Q.m cR] 40)
  have q0 := blk_new (w.alloc (.cells #[.slice A S.n cap] 34)) #[.slice aI Q.n cI, .int .i64 Q.mode, .int .i64 Q.after, .slice aW Q.wn cW, .int .i64 Q.within, .string Q.by_, .slice aR Q.m cR] 40
  rw [World.size_alloc] at q0
  have S0 := Lib.hid s0
  have Q0 := Lib.hid q0
  have HS := Lib.hid (hS.later hb0)
  have HQ := Lib.hid (h.later hb0)
  have HSUM := Lib.hid hsum
  clear hS h s0 q0 hsum
  go_enter Tryd.func62, Tryd.ntmps62
  go_upto_region 1 with fail
  generalize (w.alloc _).alloc _ = w0 at *
  have hzw0 : w.heap.size ≤ w0.heap.size := hb0.size
  have x0 := blk_cell Q0.out (j := 0) rfl
  go_upto_if 16 with fail
  go_cut [5] from 13 to 20 (fun v wx => ∃ L, Hid (FndOwn wx w0.heap.size v L) ∧ Hid (Holds L (pItems S Q 0)) ∧ Hid (L.length ≤ 1) ∧ Below w0.heap.size w0 wx)
  case first =>
    obtain ⟨LN, hLN⟩ : ∃ LN : List Fnd, LN = [] := ⟨_, rfl⟩
    have HN := Lib.hid (show FndOwn w0 w0.heap.size (.slice none 0 0) LN by rw [hLN]; exact FndOwn.nil w0 w0.heap.size)
    have hln : LN.length ≤ 5 := by rw [hLN]; exact Nat.zero_le _
    have HLN := Lib.hid hLN
    clear hLN
    by_cases h10 : 10 < Q.n
    · have h10' : (10 : Int) < (Q.n : Int) := by omega
      go_wp2_with fail
      refine (found_lit (3) (0) (60) (1) (10) (0) _).mono ?_
      rintro e wf ⟨rfl, hbf⟩
      have HLf := Lib.hid (FndOwn.below HN.out hbf)
      have hcf := bcall (Below.refl w0.heap.size w0) hbf
      have hzf := hcf.size
      go_wp2_with (at_builtin; go_loud (refine wpList_append_lies _ rfl _ _ _ rfl w0.heap.size 89 i1 _ 6 48 Tryd.underlying86 hi1 hy0 hy1 hy2 rfl (by omega) _ LN.length (flat (fndC LN) 6 LN.length) rfl (World.ownsRow.alloc HLf.out _) ⟨wf.heap.size, 0, none⟩ 1 1 [.int .i64 3, .int .i64 0, .int .i64 60, .int .i64 1, .int .i64 10, .int .i64 0] rfl rfl (World.news_of_block (cs := #[.int .i64 3, .int .i64 0, .int .i64 60, .int .i64 1, .int .i64 10, .int .i64 0]) (t := 89) (fr := (0, 0)) (heap_alloc_new wf _)) (by simp [Value.oneCell']) (by omega) (by unfold maxLen; omega) (by omega) (by simp; omega) (wf.heap.size + 1) (by simp) ?_; intro gg gcap w9 hown9 hgrow hat hlt9))
      have HL9 := Lib.hid (FndOwn.push (x := ⟨3, 0, 60, 1, 10, 0⟩) HLf.out hown9)
      have hb9 := FndOwn.under HLf.out (Nat.le_refl _) hcf hzf hgrow
      go_meet
      exact ⟨LN ++ [⟨3, 0, 60, 1, 10, 0⟩], HL9, Lib.hid (Holds.push (M := fun _ => False) (fun y => by rw [HLN.out]; simp) (fun y => pit_many h10)), Lib.hid (by rw [HLN.out]; simp), hb9⟩
    · have h10' : ¬ (10 : Int) < (Q.n : Int) := by omega
      go_wp2_with fail
      go_meet
      exact ⟨LN, HN, Lib.hid (Holds.same (M := fun _ => False) (fun y => by rw [HLN.out]; simp) (fun y => pit_few h10)), Lib.hid (by rw [HLN.out]; simp), Below.refl _ _⟩
  case rest =>
  obtain ⟨L0, HL0, HM0, HC0, hb00⟩ := hcut
  obtain ⟨wc0, ewc⟩ : ∃ w5 : World, w5 = wc := ⟨_, rfl⟩
  subst ewc
  clear x0
  go_wp2_with fail
  go_loopw [5, 6, 7] (fun v p i wr => ∃ (k : Nat) (L : List Fnd), k ≤ Q.n ∧ i = .int .i64 k ∧ p = .bool (!allB (fun i => (Q.it i).neg) k) ∧ Hid (FndOwn wr w0.heap.size v L) ∧ Hid (Holds L (pItems S Q k)) ∧ Hid (L.length ≤ 1 + sumN (gI Q) k) ∧ Below w0.heap.size w0 wr) (fun _ _ i _ => Q.n - (intOf i).toNat)
  case atStart => exact ⟨0, L0, Nat.zero_le _, rfl, rfl, HL0, HM0, HC0, hb00⟩
  case round =>
    clear HL0 HM0 HC0 hb00
    obtain ⟨k, L, hk, rfl, rfl, HL, HM, HC, hb⟩ := hrel
    obtain ⟨WA, e1⟩ : ∃ W1 : World, W1 = wr := ⟨_, rfl⟩
    subst e1
    have hzA := hb.size
    have SA1 := Lib.hid (blk_below S0.out hb)
    have QA1 := Lib.hid (blk_below Q0.out hb)
    have x0 := blk_cell QA1.out (j := 0) rfl
    by_cases hlt : k < Q.n
    · obtain ⟨ib, ioff, eI, hib, hci⟩ := HQ.out.rI.spot (by omega)
      have eI : aI = some ⟨ib, ioff, none⟩ := eI
      subst eI
      obtain ⟨d0, ⟨ta, tc, d1, _, _, hty⟩, d2, d3, d4⟩ := hci k hlt
      have g0 := (hb.cell (p := ⟨ib, ioff + k * 5, none⟩) hib).trans d0
      have g1 := (hb.cell (p := ⟨ib, ioff + k * 5 + 1, none⟩) hib).trans d1
      have g2 := (hb.cell (p := ⟨ib, ioff + k * 5 + 2, none⟩) hib).trans d2
      have g3 := (hb.cell (p := ⟨ib, ioff + k * 5 + 3, none⟩) hib).trans d3
      have g4 := (hb.cell (p := ⟨ib, ioff + k * 5 + 4, none⟩) hib).trans d4
      have htn := hty.1
      have I4 := Lib.hid (blk_new WA #[.bool (Q.it k).neg, .slice ta (Q.it k).tn tc, .string (Q.it k).vr, .int .i64 (Q.it k).lo, .int .i64 (Q.it k).hi] 80)
      have hb4' := bnew (Below.refl WA.heap.size WA) (.cells #[.bool (Q.it k).neg, .slice ta (Q.it k).tn tc, .string (Q.it k).vr, .int .i64 (Q.it k).lo, .int .i64 (Q.it k).hi] 80)
      have hb4 := bcall hb hb4'
      have HTY := Lib.hid hty
      have HL4 := Lib.hid (FndOwn.below HL.out hb4')
      clear hci hty d0 d1 d2 d3 d4
      go_upto_region 9 with fail
      generalize WA.alloc _ = w4 at *
      clear g0 g1 g2 g3 g4 x0 HL
      have z0 := blk_cell I4.out (j := 0) rfl
      go_cut [6] from 33 to 38 (fun p wx => p = .bool (!allB (fun i => (Q.it i).neg) (k + 1)) ∧ wx = w4)
      case first =>
        obtain ⟨pv, hpv⟩ : ∃ pv, allB (fun i => (Q.it i).neg) k = pv := ⟨_, rfl⟩
        obtain ⟨nv, hnv⟩ : ∃ nv, (Q.it k).neg = nv := ⟨_, rfl⟩
        have HP := Lib.hid (show allB (fun i => (Q.it i).neg) (k + 1) = (pv && nv) by rw [all_succ, hpv, hnv])
        rw [hpv]
        rw [hnv] at z0
        clear hpv hnv
        cases pv <;> cases nv
        all_goals
          go_wp2_with fail
          go_meet
          exact ⟨by rw [HP.out]; rfl, rfl⟩
      case rest =>
      obtain ⟨rfl, rfl⟩ := hcut
      clear z0
      go_wp2_with fail
      go_loopw [5, 9] (fun v j wr => ∃ (m : Nat) (L : List Fnd), m ≤ (Q.it k).tn ∧ j = .int .i64 m ∧ Hid (FndOwn wr w0.heap.size v L) ∧ Hid (Holds L (pTy S Q k m)) ∧ Hid (L.length ≤ 1 + sumN (gI Q) k + m * ((Q.it k).tn + 1)) ∧ Hid (wr.heap[WA.heap.size]? = some (.cells #[.bool (Q.it k).neg, .slice ta (Q.it k).tn tc, .string (Q.it k).vr, .int .i64 (Q.it k).lo, .int .i64 (Q.it k).hi] 80 (0, 0))) ∧ Below w0.heap.size w0 wr) (fun _ j _ => (Q.it k).tn - (intOf j).toNat)
      case atStart => exact ⟨0, L, Nat.zero_le _, rfl, HL4, Lib.hid (Holds.same HM.out fun y => pty_zero), Lib.hid (by have := HC.out; omega), I4, hb4⟩
      case round =>
        clear HL4 HM HC I4 SA1 QA1 hb hb4' hb4
        obtain ⟨m, L, hm, rfl, HL, HM, HC, IB, hbj⟩ := hrel
        obtain ⟨WB, e1⟩ : ∃ W1 : World, W1 = wr := ⟨_, rfl⟩
        subst e1
        have hzB := hbj.size
        have t1 := blk_cell IB.out (j := 1) rfl
        by_cases hlm : m < (Q.it k).tn
        · obtain ⟨tb, toff, eT, htb, htc⟩ := RowRd.spot1 (RowRd.later HTY.out hbj) (by omega)
          have HET := Lib.hid eT
          have t1 : WB.cell? ⟨WA.heap.size, 1, none⟩ = some (.slice (some ⟨tb, toff, none⟩) (Q.it k).tn tc) := by rw [← eT]; exact t1
          have d1 := htc m hlm
          have u1 := blk_cell (blk_below S0.out hbj) (j := 0) rfl
          have HSB := Lib.hid (HS.out.later hbj)
          obtain ⟨tI, htI⟩ : ∃ tI, typeI S ((Q.it k).ty m) = tI := ⟨_, rfl⟩
          have HTI := Lib.hid htI
          clear htc htI eT
          go_wp2_with fail
          go_region_held3 (fun w' => w'.cell? ⟨w.heap.size, 0, none⟩ = some (.slice A S.n cap) ∧ w'.cell? ⟨WA.heap.size, 1, none⟩ = some (.slice (some ⟨tb, toff, none⟩) (Q.it k).tn tc) ∧ w'.cell? ⟨tb, toff + m, none⟩ = some (.string ((Q.it k).ty m)) ∧ Below WB.heap.size WB w')
            (first
              | exact ⟨u1, t1, d1, (Below.refl _ _).drew⟩
              | (go_split_ands; exact ⟨rd_later (by assumption) hbz, rd_later (by assumption) hbz, rd_later (by assumption) hbz, bcall (by assumption) hbz⟩))
            (first
              | (go_at_call 92; go_split_ands; refine (refTypeOf_any A cap S ((Q.it k).ty m) _ (HSB.out.later (by assumption))).mono ?_; rw [HTI.out]; rintro e wz ⟨rfl, hbz⟩))
          go_split_ands
          have hb5 : Below WB.heap.size WB wz := by assumption
          have hb5' := bcall hbj hb5
          have HL5 := Lib.hid (FndOwn.below HL.out hb5)
          have IB5 := Lib.hid (blk_below IB.out hb5)
          obtain ⟨WC, e1⟩ : ∃ W1 : World, W1 = wz := ⟨_, rfl⟩
          subst e1
          clear t1 d1 u1 HL IB
          go_upto_if 54 with fail
          go_cut [5] from 39 to 80 (fun v wx => ∃ L, Hid (FndOwn wx w0.heap.size v L) ∧ Hid (Holds L (pTw S Q k m 0)) ∧ Hid (L.length ≤ 1 + sumN (gI Q) k + m * ((Q.it k).tn + 1) + 1) ∧ Hid (wx.heap[WA.heap.size]? = some (.cells #[.bool (Q.it k).neg, .slice ta (Q.it k).tn tc, .string (Q.it k).vr, .int .i64 (Q.it k).lo, .int .i64 (Q.it k).hi] 80 (0, 0))) ∧ Below w0.heap.size w0 wx)
          case first =>
            have hl : L.length ≤ 2199023255560 := by have := HC.out; have := cnt_m (m := m) hlt HSUM.out (by omega); omega
            by_cases hneg : tI < 0
            · have HNG := Lib.hid (show typeI S ((Q.it k).ty m) < 0 by rw [HTI.out]; exact hneg)
              go_wp2_with fail
              refine (found_lit (4) (1) (61) (1) (k) (0) _).mono ?_
              rintro e wf ⟨rfl, hbf⟩
              have HLf := Lib.hid (FndOwn.below HL5.out hbf)
              have hcf := bcall hb5' hbf
              have hzf := hcf.size
              have IBf := Lib.hid (blk_below IB5.out hbf)
              go_wp2_with (at_builtin; go_loud (refine wpList_append_lies _ rfl _ _ _ rfl w0.heap.size 89 i1 _ 6 48 Tryd.underlying86 hi1 hy0 hy1 hy2 rfl (by omega) _ L.length (flat (fndC L) 6 L.length) rfl (World.ownsRow.alloc HLf.out _) ⟨wf.heap.size, 0, none⟩ 1 1 [.int .i64 4, .int .i64 1, .int .i64 61, .int .i64 1, .int .i64 k, .int .i64 0] rfl rfl (World.news_of_block (cs := #[.int .i64 4, .int .i64 1, .int .i64 61, .int .i64 1, .int .i64 k, .int .i64 0]) (t := 89) (fr := (0, 0)) (heap_alloc_new wf _)) (by simp [Value.oneCell']) (by omega) (by unfold maxLen; omega) (by omega) (by simp; omega) (wf.heap.size + 1) (by simp) ?_; intro gg gcap w9 hown9 hgrow hat hlt9))
              have HL9 := Lib.hid (FndOwn.push (x := ⟨4, 1, 61, 1, k, 0⟩) HLf.out hown9)
              have hb9 := FndOwn.under HLf.out (Nat.le_refl _) hcf hzf hgrow
              go_meet
              exact ⟨L ++ [⟨4, 1, 61, 1, k, 0⟩], HL9, Lib.hid (Holds.push HM.out fun y => ptw_neg HNG.out), Lib.hid (push_len HC.out), Lib.hid (FndOwn.blk HLf.out hgrow IBf.out (by decide)), hb9⟩
            · have HNG := Lib.hid (show 0 ≤ typeI S ((Q.it k).ty m) by rw [HTI.out]; omega)
              go_wp2_with fail
              go_meet
              exact ⟨L, HL5, Lib.hid (Holds.same HM.out fun y => ptw_pos HNG.out), Lib.hid (by have := HC.out; omega), IB5, hb5'⟩
          case rest =>
          obtain ⟨L1, HL1, HM1, HC1, IB1, hb1⟩ := hcut
          obtain ⟨wc1, ewc⟩ : ∃ w5 : World, w5 = wc := ⟨_, rfl⟩
          subst ewc
          clear HL5 HM HC IB5 hb5 hb5' HTI HSB
          go_wp2_with fail
          go_loopw [5, 11] (fun v q wr => ∃ (z : Nat) (L : List Fnd), z ≤ m ∧ q = .int .i64 z ∧ Hid (FndOwn wr w0.heap.size v L) ∧ Hid (Holds L (pTw S Q k m z)) ∧ Hid (L.length ≤ 1 + sumN (gI Q) k + m * ((Q.it k).tn + 1) + 1 + z) ∧ Hid (wr.heap[WA.heap.size]? = some (.cells #[.bool (Q.it k).neg, .slice ta (Q.it k).tn tc, .string (Q.it k).vr, .int .i64 (Q.it k).lo, .int .i64 (Q.it k).hi] 80 (0, 0))) ∧ Below w0.heap.size w0 wr) (fun _ q _ => m - (intOf q).toNat)
          case atStart => exact ⟨0, L1, Nat.zero_le _, rfl, HL1, HM1, HC1, IB1, hb1⟩
          case round =>
            clear HL1 HM1 HC1 IB1 hb1
            obtain ⟨z, L, hz, rfl, HL, HM, HC, IB, hbq⟩ := hrel
            obtain ⟨WD, e1⟩ : ∃ W1 : World, W1 = wr := ⟨_, rfl⟩
            subst e1
            have hzD := hbq.size
            by_cases hlz : z < m
            · have t1 : WD.cell? ⟨WA.heap.size, 1, none⟩ = some (.slice (some ⟨tb, toff, none⟩) (Q.it k).tn tc) := by rw [← HET.out]; exact blk_cell IB.out (j := 1) rfl
              obtain ⟨tb', toff', eT', _, htc⟩ := RowRd.spot1 (RowRd.later HTY.out hbq) (by omega)
              have eT := HET.out.symm.trans eT'
              clear eT'
              injection eT with eT
              injection eT with e1 e2
              subst e1 e2
              have d1 := htc m hlm
              have d2 := htc z (by omega)
              clear htc
              obtain ⟨bq, heq⟩ : ∃ bq, (((Q.it k).ty m).toList == ((Q.it k).ty z).toList) = bq := ⟨_, rfl⟩
              cases bq
              · have HEQ := Lib.hid (show ¬ ((Q.it k).ty m).toList = ((Q.it k).ty z).toList by rw [beq_eq_false_iff_ne] at heq; exact heq)
                go_wp2_with fail
                go_quiet (fail)
                go_wp2_with fail
                go_roundw
                case rel => exact ⟨z + 1, L, by omega, by go_num, Lib.hid (FndOwn.below HL.out (bdrewN (Below.refl _ _) _)), Lib.hid (Holds.same HM.out fun y => ptw_miss HEQ.out), Lib.hid (by have := HC.out; omega), Lib.hid (blk_below IB.out (bdrewN (Below.refl _ _) _)), bdrewN hbq _⟩
                case measure => simp [intOf]; omega
              · have HEQ := Lib.hid (show ((Q.it k).ty m).toList = ((Q.it k).ty z).toList by rw [beq_iff_eq] at heq; exact heq)
                have hl : L.length ≤ 2199023255560 := cnt_in HC.out (by omega) hlm hlt HSUM.out
                go_wp2_with fail
                go_quiet (fail)
                obtain ⟨wq, ewq⟩ : ∃ wq : World, wq = WD.drewN nq := ⟨_, rfl⟩
                have hbqq : Below WD.heap.size WD wq := by rw [ewq]; exact bdrewN (Below.refl _ _) _
                rw [← ewq]
                clear ewq t1 d1 d2 heq
                have HLq := Lib.hid (FndOwn.below HL.out hbqq)
                have hbq2 := bcall hbq hbqq
                have IBq := Lib.hid (blk_below IB.out hbqq)
                go_wp2_with fail
                refine (found_lit (4) (2) (62) (1) (k) (0) _).mono ?_
                rintro e wf ⟨rfl, hbf⟩
                have HLf := Lib.hid (FndOwn.below HLq.out hbf)
                have hcf := bcall hbq2 hbf
                have hzf := hcf.size
                have IBf := Lib.hid (blk_below IBq.out hbf)
                go_wp2_with (at_builtin; go_loud (refine wpList_append_lies _ rfl _ _ _ rfl w0.heap.size 89 i1 _ 6 48 Tryd.underlying86 hi1 hy0 hy1 hy2 rfl (by omega) _ L.length (flat (fndC L) 6 L.length) rfl (World.ownsRow.alloc HLf.out _) ⟨wf.heap.size, 0, none⟩ 1 1 [.int .i64 4, .int .i64 2, .int .i64 62, .int .i64 1, .int .i64 k, .int .i64 0] rfl rfl (World.news_of_block (cs := #[.int .i64 4, .int .i64 2, .int .i64 62, .int .i64 1, .int .i64 k, .int .i64 0]) (t := 89) (fr := (0, 0)) (heap_alloc_new wf _)) (by simp [Value.oneCell']) (by omega) (by unfold maxLen; omega) (by omega) (by simp; omega) (wf.heap.size + 1) (by simp) ?_; intro gg gcap w9 hown9 hgrow hat hlt9))
                have HL9 := Lib.hid (FndOwn.push (x := ⟨4, 2, 62, 1, k, 0⟩) HLf.out hown9)
                have hb9 := FndOwn.under HLf.out (Nat.le_refl _) hcf hzf hgrow
                go_roundw
                case rel => exact ⟨z + 1, L ++ [⟨4, 2, 62, 1, k, 0⟩], by omega, by go_num, HL9, Lib.hid (Holds.push HM.out fun y => ptw_hit HEQ.out), Lib.hid (by have := push_len (x := ⟨4, 2, 62, 1, k, 0⟩) HC.out; omega), Lib.hid (FndOwn.blk HLf.out hgrow IBf.out (by decide)), hb9⟩
                case measure => simp [intOf]; omega
            · obtain rfl : m = z := by omega
              have HM2 := Lib.hid (Holds.same HM.out fun y => pty_next)
              have HC2 := Lib.hid (cnt_up HC.out hlm)
              clear HM HC
              go_wp2_with fail
              go_roundw
              case rel => exact ⟨m + 1, L, by omega, by go_num, HL, HM2, HC2, IB, hbq⟩
              case measure => simp [intOf]; omega
        · obtain rfl : m = (Q.it k).tn := by omega
          have z3 := blk_cell IB.out (j := 3) rfl
          have z4 := blk_cell IB.out (j := 4) rfl
          obtain ⟨lo, hlo⟩ : ∃ lo, (Q.it k).lo = lo := ⟨_, rfl⟩
          obtain ⟨hi, hhi⟩ : ∃ hi, (Q.it k).hi = hi := ⟨_, rfl⟩
          obtain ⟨rb, hrb⟩ : ∃ rb : Bool, repOk (Q.it k) = rb := ⟨_, rfl⟩
          have HRQ := Lib.hid hrb
          have HREP := Lib.hid (fun b (hd : decide (1 ≤ lo ∧ lo ≤ hi ∧ hi ≤ 4) = b) => hrb.symm.trans (repOk_of hlo hhi hd))
          rw [hlo] at z3
          rw [hhi] at z4
          clear hlo hhi hrb
          go_upto_region 21 with fail
          go_cut [95] from 81 to 95 (fun b wx => b = .bool (!rb) ∧ wx = WB)
          case first =>
            by_cases h1 : lo < 1
            · go_wp2_with fail
              go_meet
              exact ⟨by rw [HREP.out false (decide_eq_false (by omega))]; rfl, rfl⟩
            · by_cases h2 : hi < lo
              · go_wp2_with fail
                go_meet
                exact ⟨by rw [HREP.out false (decide_eq_false (by omega))]; rfl, rfl⟩
              · by_cases h3 : 4 < hi
                · go_wp2_with fail
                  go_meet
                  exact ⟨by rw [HREP.out false (decide_eq_false (by omega))]; rfl, rfl⟩
                · go_wp2_with fail
                  go_meet
                  exact ⟨by rw [HREP.out true (decide_eq_true (by omega))]; rfl, rfl⟩
          case rest =>
          obtain ⟨rfl, rfl⟩ := hcut
          clear z3 z4 t1 HREP
          go_upto_if 95 with fail
          go_cut [5] from 21 to 112 (fun v wx => ∃ L, Hid (FndOwn wx w0.heap.size v L) ∧ Hid (Holds L (pRep S Q k)) ∧ Hid (L.length ≤ 1 + sumN (gI Q) k + (Q.it k).tn * ((Q.it k).tn + 1) + 1) ∧ Hid (wx.heap[WA.heap.size]? = some (.cells #[.bool (Q.it k).neg, .slice ta (Q.it k).tn tc, .string (Q.it k).vr, .int .i64 (Q.it k).lo, .int .i64 (Q.it k).hi] 80 (0, 0))) ∧ Below w0.heap.size w0 wx)
          case first =>
            have hl : L.length ≤ 2199023255560 := by have := HC.out; have := cnt_m hlt HSUM.out (Nat.le_refl (Q.it k).tn); omega
            cases rb
            · have HNG := HRQ
              go_wp2_with fail
              refine (found_lit (4) (3) (63) (1) (k) (0) _).mono ?_
              rintro e wf ⟨rfl, hbf⟩
              have HLf := Lib.hid (FndOwn.below HL.out hbf)
              have hcf := bcall hbj hbf
              have hzf := hcf.size
              have IBf := Lib.hid (blk_below IB.out hbf)
              go_wp2_with (at_builtin; go_loud (refine wpList_append_lies _ rfl _ _ _ rfl w0.heap.size 89 i1 _ 6 48 Tryd.underlying86 hi1 hy0 hy1 hy2 rfl (by omega) _ L.length (flat (fndC L) 6 L.length) rfl (World.ownsRow.alloc HLf.out _) ⟨wf.heap.size, 0, none⟩ 1 1 [.int .i64 4, .int .i64 3, .int .i64 63, .int .i64 1, .int .i64 k, .int .i64 0] rfl rfl (World.news_of_block (cs := #[.int .i64 4, .int .i64 3, .int .i64 63, .int .i64 1, .int .i64 k, .int .i64 0]) (t := 89) (fr := (0, 0)) (heap_alloc_new wf _)) (by simp [Value.oneCell']) (by omega) (by unfold maxLen; omega) (by omega) (by simp; omega) (wf.heap.size + 1) (by simp) ?_; intro gg gcap w9 hown9 hgrow hat hlt9))
              have HL9 := Lib.hid (FndOwn.push (x := ⟨4, 3, 63, 1, k, 0⟩) HLf.out hown9)
              have hb9 := FndOwn.under HLf.out (Nat.le_refl _) hcf hzf hgrow
              go_meet
              exact ⟨L ++ [⟨4, 3, 63, 1, k, 0⟩], HL9, Lib.hid (Holds.push HM.out fun y => prep_hit HNG.out), Lib.hid (push_len HC.out), Lib.hid (FndOwn.blk HLf.out hgrow IBf.out (by decide)), hb9⟩
            · have HNG := HRQ
              go_wp2_with fail
              go_meet
              exact ⟨L, HL, Lib.hid (Holds.same HM.out fun y => prep_miss HNG.out), Lib.hid (by have := HC.out; omega), IB, hbj⟩
          case rest =>
          obtain ⟨L2, HL2, HM2, HC2, IB2, hb2⟩ := hcut
          obtain ⟨wc2, ewc⟩ : ∃ w5 : World, w5 = wc := ⟨_, rfl⟩
          subst ewc
          clear HL HM HC IB hbj HRQ
          obtain ⟨y0, y1, y2, y3, y4, y5, y6⟩ := blk7 (blk_below Q0.out hb2)
          have z2 := blk_cell IB2.out (j := 2) rfl
          obtain ⟨fI, hfI⟩ : ∃ fI, itemI Q.n Q.it (Q.it k).vr = fI := ⟨_, rfl⟩
          have HFI := Lib.hid hfI
          clear hfI
          go_wp2_with fail
          refine (refItemOf_any ⟨some ⟨ib, ioff, none⟩, cI, aW, cW, aR, cR⟩ Q (Q.it k).vr _ (HQ.out.later hb2)).mono ?_
          rw [HFI.out]
          rintro e w6 ⟨rfl, hb6⟩
          obtain ⟨WE, e1⟩ : ∃ W1 : World, W1 = w6 := ⟨_, rfl⟩
          subst e1
          have HLe := Lib.hid (FndOwn.below HL2.out hb6)
          have hbe := bcall hb2 hb6
          have hl : L2.length ≤ 2199023255560 := by have := HC2.out; have := cnt_m hlt HSUM.out (Nat.le_refl (Q.it k).tn); omega
          clear y0 y1 y2 y3 y4 y5 y6 z2
          by_cases hfk : fI < k
          · have HFK := Lib.hid (show itemI Q.n Q.it (Q.it k).vr < k by rw [HFI.out]; exact hfk)
            go_wp2_with fail
            refine (found_lit (4) (4) (64) (1) (k) (0) _).mono ?_
            rintro e wf ⟨rfl, hbf⟩
            have HLf := Lib.hid (FndOwn.below HLe.out hbf)
            have hcf := bcall hbe hbf
            have hzf := hcf.size
            go_wp2_with (at_builtin; go_loud (refine wpList_append_lies _ rfl _ _ _ rfl w0.heap.size 89 i1 _ 6 48 Tryd.underlying86 hi1 hy0 hy1 hy2 rfl (by omega) _ L2.length (flat (fndC L2) 6 L2.length) rfl (World.ownsRow.alloc HLf.out _) ⟨wf.heap.size, 0, none⟩ 1 1 [.int .i64 4, .int .i64 4, .int .i64 64, .int .i64 1, .int .i64 k, .int .i64 0] rfl rfl (World.news_of_block (cs := #[.int .i64 4, .int .i64 4, .int .i64 64, .int .i64 1, .int .i64 k, .int .i64 0]) (t := 89) (fr := (0, 0)) (heap_alloc_new wf _)) (by simp [Value.oneCell']) (by omega) (by unfold maxLen; omega) (by omega) (by simp; omega) (wf.heap.size + 1) (by simp) ?_; intro gg gcap w9 hown9 hgrow hat hlt9))
            have HL9 := Lib.hid (FndOwn.push (x := ⟨4, 4, 64, 1, k, 0⟩) HLf.out hown9)
            have hb9 := FndOwn.under HLf.out (Nat.le_refl _) hcf hzf hgrow
            go_roundw
            case rel => exact ⟨k + 1, L2 ++ [⟨4, 4, 64, 1, k, 0⟩], by omega, by go_num, rfl, HL9, Lib.hid (Holds.push HM2.out fun y => pit_hit HFK.out), Lib.hid (cnt_end (j := 2) (push_len HC2.out) (Nat.le_refl _)), hb9⟩
            case measure => simp [intOf]; omega
          · have HFK := Lib.hid (show (k : Int) ≤ itemI Q.n Q.it (Q.it k).vr by rw [HFI.out]; omega)
            go_wp2_with fail
            go_roundw
            case rel => exact ⟨k + 1, L2, by omega, by go_num, rfl, HLe, Lib.hid (Holds.same HM2.out fun y => pit_miss HFK.out), Lib.hid (cnt_end (j := 1) HC2.out (by omega)), hbe⟩
            case measure => simp [intOf]; omega
    · obtain rfl : k = Q.n := by omega
      obtain ⟨pv, hpv⟩ : ∃ pv, allB (fun i => (Q.it i).neg) Q.n = pv := ⟨_, rfl⟩
      have HPV := Lib.hid hpv
      have hl : L.length ≤ 2199023255554 := by have := HC.out; have := cnt_k (Nat.le_refl Q.n) HSUM.out; omega
      rw [hpv]
      clear hpv
      cases pv
      · go_wp2_with fail
        go_ret
        exact ⟨_, L, rfl, bcall hb0 hb, FndOwn.le HL.out hzw0, Holds.same HM.out fun y => mits_miss HPV.out, by omega⟩
      · skip
        go_wp2_with fail
        refine (found_lit (5) (0) (65) (1) (0) (0) _).mono ?_
        rintro e wf ⟨rfl, hbf⟩
        have HLf := Lib.hid (FndOwn.below HL.out hbf)
        have hcf := bcall hb hbf
        have hzf := hcf.size
        go_wp2_with (at_builtin; go_loud (refine wpList_append_lies _ rfl _ _ _ rfl w0.heap.size 89 i1 _ 6 48 Tryd.underlying86 hi1 hy0 hy1 hy2 rfl (by omega) _ L.length (flat (fndC L) 6 L.length) rfl (World.ownsRow.alloc HLf.out _) ⟨wf.heap.size, 0, none⟩ 1 1 [.int .i64 5, .int .i64 0, .int .i64 65, .int .i64 1, .int .i64 0, .int .i64 0] rfl rfl (World.news_of_block (cs := #[.int .i64 5, .int .i64 0, .int .i64 65, .int .i64 1, .int .i64 0, .int .i64 0]) (t := 89) (fr := (0, 0)) (heap_alloc_new wf _)) (by simp [Value.oneCell']) (by omega) (by unfold maxLen; omega) (by omega) (by simp; omega) (wf.heap.size + 1) (by simp) ?_; intro gg gcap w9 hown9 hgrow hat hlt9))
        have HL9 := Lib.hid (FndOwn.push (x := ⟨5, 0, 65, 1, 0, 0⟩) HLf.out hown9)
        have hb9 := FndOwn.under HLf.out (Nat.le_refl _) hcf hzf hgrow
        go_ret
        exact ⟨.slice (some ⟨gg, 0, none⟩) (L.length + 1) gcap, L ++ [⟨5, 0, 65, 1, 0, 0⟩], rfl, bcall hb0 hb9, FndOwn.le HL9.out hzw0, Holds.push HM.out fun y => mits_hit HPV.out, by rw [List.length_append, List.length_singleton]; omega⟩
end Go.Proofs.YtagcbljfaflhoaaDoor

/-! ### What the reference gathers of a tree, plain: parents round by round, how many nodes of a subtree lie ahead of a place. -/
namespace Go.Proofs.YtagcbljfaflhoaaDoor
section
variable {f : Nat → Nod} {n m x y : Nat} {l : Nat → Nat} {root : Int} {i : Nat}
theorem upF_next (f : Nat → Nod) (m j : Nat) : upF f (m + 1) j = if (f m).b = (j : Int) then (m : Int) else if (f m).a = (j : Int) then (m : Int) else upF f m j := rfl
theorem up_leaf (ha : (f m).a = -1) (hb : (f m).b = -1) : numArr (upF f m) n = numArr (upF f (m + 1)) n :=
  numArr_congr fun j _ => by rw [upF_next, if_neg (by omega), if_neg (by omega)]
theorem up_one (ha : (f m).a = x) (hb : (f m).b = -1) : (numArr (upF f m) n).setIfInBounds x (.int .i64 m) = numArr (upF f (m + 1)) n := by
  rw [numArr_set]
  refine numArr_congr fun j _ => ?_
  rw [upF_next, if_neg (show ¬ (f m).b = (j : Int) by omega), ha]
  by_cases e : j = x
  · rw [if_pos e, if_pos (show (x : Int) = j by omega)]
  · rw [if_neg e, if_neg (show ¬ (x : Int) = j by omega)]
theorem up_two (ha : (f m).a = x) (hb : (f m).b = y) : ((numArr (upF f m) n).setIfInBounds x (.int .i64 m)).setIfInBounds y (.int .i64 m) = numArr (upF f (m + 1)) n := by
  rw [numArr_set, numArr_set]
  refine numArr_congr fun j _ => ?_
  rw [upF_next, ha, hb]
  by_cases e : j = y
  · rw [if_pos e, if_pos (show (y : Int) = j by omega)]
  · rw [if_neg e, if_neg (show ¬ (y : Int) = j by omega)]
    by_cases e2 : j = x
    · rw [if_pos e2, if_pos (show (x : Int) = j by omega)]
    · rw [if_neg e2, if_neg (show ¬ (x : Int) = j by omega)]
/-- How many of the first i nodes lie in the subtree of a place. -/
def cntIn (n : Nat) (l : Nat → Nat) (root : Int) (i : Nat) : Nat := if 0 ≤ root ∧ root < n then min i (root.toNat + 1) - min i (l root.toNat) else 0
theorem cnt_in_zero : cntIn n l root 0 = 0 := by unfold cntIn; split <;> simp
theorem cnt_in_le : cntIn n l root i ≤ i := by unfold cntIn; split <;> omega
theorem cnt_in_hit (h : subB n l root i = true) : 0 ≤ root ∧ root < n ∧ l root.toNat ≤ i ∧ (i : Int) ≤ root ∧ cntIn n l root i = i - l root.toNat ∧ cntIn n l root (i + 1) = i - l root.toNat + 1 := by
  have h := of_decide_eq_true h
  obtain ⟨a, b, c, d⟩ := h
  refine ⟨a, b, c, d, ?_, ?_⟩
  · rw [cntIn, if_pos ⟨a, b⟩]; omega
  · rw [cntIn, if_pos ⟨a, b⟩]; omega
theorem cnt_in_miss (h : subB n l root i = false) : cntIn n l root (i + 1) = cntIn n l root i := by
  have h := of_decide_eq_false h
  unfold cntIn
  split
  · rename_i hc
    have : ¬ (l root.toNat ≤ i ∧ (i : Int) ≤ root) := fun k => h ⟨hc.1, hc.2, k.1, k.2⟩
    omega
  · rfl
theorem cnt_in_end (ht : treeB n f = true) : cntIn n (begF n f) root n = sizeI n f root := by
  obtain ⟨_, hs, _, _⟩ := tree_shp ht
  unfold cntIn sizeI
  by_cases h : 0 ≤ root ∧ root < n
  · have := hs.le root.toNat (by omega)
    rw [if_pos h, if_pos ⟨ht, h⟩]
    omega
  · rw [if_neg h, if_neg (fun k => h k.2)]
/-- The value that the reference lays down for a node, in its subtree or not: at the last node; at another. -/
theorem top_last (h : Shp n f l) (hn : i + 1 = n) : upF f n i = -1 ∧ topB n f l i = true := by
  have e : i = n - 1 := by omega
  subst e
  exact ⟨up_root h (by omega), top_root h⟩
theorem top_other (h : Shp n f l) (h0 : l (n - 1) = 0) (hi : i + 1 < n) : ∃ p, i < p ∧ p < n ∧ upF f n i = p ∧ topB n f l i = (topB n f l p && (f p).op == 25) := by
  obtain ⟨p, a, b, c, d⟩ := up_ex h h0 (i := i) (by omega)
  exact ⟨p, a, b, c, top_step h b d⟩
theorem in_last (h : Shp n f l) (h0 : l (n - 1) = 0) (hn : i + 1 = n) : upF f n i = -1 ∧ subB n l root i = decide ((i : Int) = root) := by
  have e := (top_last h hn).1
  refine ⟨e, ?_⟩
  rw [in_step h h0 root (by omega), e]
  simp
theorem in_other (h : Shp n f l) (h0 : l (n - 1) = 0) (hi : i + 1 < n) : ∃ p, i < p ∧ p < n ∧ upF f n i = p ∧ subB n l root i = (decide ((i : Int) = root) || subB n l root p) := by
  obtain ⟨p, a, b, c, _⟩ := up_ex h h0 (i := i) (by omega)
  refine ⟨p, a, b, c, ?_⟩
  rw [in_step h h0 root (by omega), c]
  simp
end
end Go.Proofs.YtagcbljfaflhoaaDoor

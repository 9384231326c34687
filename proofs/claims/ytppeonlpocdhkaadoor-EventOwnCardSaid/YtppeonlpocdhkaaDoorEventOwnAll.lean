/-
  Several texts in one: OwnKit, TabCells, EventOwnWalk.
-/
import Derived.Test.YtppeonlpocdhkaaDoorSchemaSet
import Derived.Test.YtppeonlpocdhkaaDoorSchemaPush
import Derived.Test.YtppeonlpocdhkaaDoorRowOwn
import Derived.Test.YtppeonlpocdhkaaDoorNameWalk
import Derived.Test.YtppeonlpocdhkaaDoorKit
import Derived.Test.YtppeonlpocdhkaaDoorCanonPlain
import Derived.Test.YtppeonlpocdhkaaDoorSchemaSame
import Derived.Test.YtppeonlpocdhkaaDoorSchemaTwin
import Derived.Test.YtppeonlpocdhkaaDoorKwVar
set_option linter.unusedSimpArgs false
set_option linter.unusedVariables false
/-! ### Lists that are grown apart from the list they come from; which blocks stay; the marks; a schema that is grown and spoilt. -/
namespace Go.Proofs.YtppeonlpocdhkaaDoor
open Go.RowKit Go.ChangeShapes Go.WideShapes Go.ChangeAt Go.Deep Go.Joins
theorem own_wide {w : World} {B B' n sz : Nat} {e : TypeId} {v : Value} {xs : List Value} (h : w.ownsRow B e sz v n xs) (hB : B' ≤ B) : w.ownsRow B' e sz v n xs := by
  refine ⟨h.1, ?_⟩
  rcases h.2 with h0 | ⟨g, cap, cur, e1, h1, h2⟩
  · exact .inl h0
  · exact .inr ⟨g, cap, cur, e1, Nat.le_trans hB h1, h2⟩
/-- 'append(s, ..)', s a row of the call's own: s itself stays; the longer row lies in its block or in a new one. -/
theorem wpList_append_apart {P : Program} (w : World) {ops : Array Oper} {rest : List Oper} {o : Oper} {a : Act} {Q : Exit → Act → World → Prop}
    (hg : o.guard = none) (s x : Operand) (t : TypeId) (hop : o.op = Op.call { callee := Callee.builtin Builtin.append, args := #[s, x], argTypes := #[t, t] })
    (base : Nat) (e : TypeId) (i : TypeInfo) (z : Value) (size bytes : Nat) (h1 : P.underlying t = some (.slice e)) (h2 : P.info? e = some i) (h3 : i.zero = some z) (h4 : i.size = size) (h5 : i.bytes = bytes) (h6 : z.cells.size = size) (h7 : 0 < size)
    (v : Value) (n : Nat) (xs : List Value) (hs : a.eval s = v) (hown : w.ownsRow base e size v n xs) (hbase : base ≤ w.heap.size)
    (ad : Addr) (m c : Nat) (news : List Value) (hx : a.eval x = .slice (some ad) m c) (hn : news.length = m * size) (hm : 0 < m) (hc : ∀ j u, news[j]? = some u → w.cell? (ad.add j) = some u) (h1c : ∀ u ∈ news, u.oneCell' = true)
    (b1 : n + m ≤ maxLen) (b2 : (n + m) * bytes ≤ 140737488355328)
    (hK : ∀ A' c' w', w'.ownsRow base e size (.slice A' (n + m) c') (n + m) (xs ++ news) → w'.ownsRow base e size v n xs → w.grownBy w' v.ownBlock → (∀ g, Value.ownBlock (.slice A' (n + m) c') = some g → v.ownBlock = some g ∨ w.heap.size ≤ g) → wpList P ops Q rest (a.put o.dst (.slice A' (n + m) c')) w') :
    wpList P ops Q (o :: rest) a w := by
  obtain ⟨A, cap, rfl, hle, hz⟩ := rowown_shape hown
  by_cases hroom : n + m ≤ cap
  · rcases hown.2 with ⟨hv, h0⟩ | ⟨g, cap', cur, hv, _⟩
    · injection hv with _ _ hv
      omega
    · injection hv with hv1 _ hv2
      subst hv1 hv2
      refine wpList_append_fits w hg s x t hop base e i size h1 h2 h4 g n cap xs hs hown ad m c news hx hn hc h1c hroom fun w' r1 r2 => hK _ _ w' r1 ?_ r2 (fun g' hg' => .inl hg')
      refine ⟨hown.1, .inr ?_⟩
      rcases r1.2 with ⟨hv, _⟩ | ⟨g2, cap2, cur2, hv, k1, k2, k3, k4, k5, k6⟩
      · simp at hv
      · injection hv with hv1 _ hv2
        simp only [Option.some.injEq, Addr.mk.injEq, and_true] at hv1
        subst hv1 hv2
        refine ⟨g, cap, cur2, rfl, k1, k2, hle, k4, k5, ?_⟩
        have e1 : cur2.toList.take (n * size) = (cur2.toList.take ((n + m) * size)).take (n * size) := by
          rw [List.take_take, Nat.min_eq_left (Nat.mul_le_mul_right _ (by omega))]
        rw [e1, k6, List.take_append_of_le_length (by rw [hown.1]; exact Nat.le_refl _), List.take_of_length_le (by rw [hown.1]; exact Nat.le_refl _)]
  · refine wpList_append_grows w hg s x t hop e i z size bytes h1 h2 h3 h4 h5 h6 h7 A n cap xs hs (fun h => ⟨by have := hz h; omega, hz h⟩) hown.1 (fun b hb j u hu => ?_) ad m c news hx hn hc h1c (by omega) b1 b2 fun v' w' r1 r2 => ?_
    · subst hb
      have hb0 := World.ownsRow.cells hown (g := b.block) rfl j u hu
      rcases hown.2 with ⟨hv, _⟩ | ⟨g, cap', cur, hv, _⟩
      · simp at hv
      · injection hv with hv1
        injection hv1 with hv1
        subst hv1
        exact hb0
    · obtain ⟨A', c', rfl, _⟩ := rowown_shape r1
      refine hK A' c' w' (own_wide r1 hbase) (hown.kept r2 ?_) ⟨r2.os, r2.tape, r2.output, r2.size, fun k hk _ => r2.block k hk (by simp)⟩ (fun g hg => .inr (r1.lt g hg).1)
      cases (Value.slice A n cap).ownBlock <;> simp
/-- All that lay below zk, and from zs on, is as it was. -/
structure Mid (zk zs : Nat) (w w' : World) : Prop where
  os : w'.os = w.os
  tape : w'.tape = w.tape
  output : w'.output = w.output
  size : w.heap.size ≤ w'.heap.size
  block : ∀ i, i < w.heap.size → (i < zk ∨ zs ≤ i) → w'.heap[i]? = w.heap[i]?
theorem Mid.refl (zk zs : Nat) (w : World) : Mid zk zs w w := ⟨rfl, rfl, rfl, Nat.le_refl _, fun _ _ _ => rfl⟩
theorem Mid.trans {zk zs : Nat} {w w1 w2 : World} (h : Mid zk zs w w1) (h' : Mid zk zs w1 w2) : Mid zk zs w w2 :=
  ⟨h'.os.trans h.os, h'.tape.trans h.tape, h'.output.trans h.output, Nat.le_trans h.size h'.size, fun i hi hc => (h'.block i (Nat.lt_of_lt_of_le hi h.size) hc).trans (h.block i hi hc)⟩
theorem Mid.grown {zk zs : Nat} {w w1 w2 : World} {v : Value} (h : Mid zk zs w w1) (hg : w1.grownBy w2 v.ownBlock) (hr : ∀ g, v.ownBlock = some g → zk ≤ g ∧ g < zs) : Mid zk zs w w2 :=
  h.trans ⟨hg.os, hg.tape, hg.output, hg.size, fun i hi hc => hg.block i hi (fun e => by have := hr i e.symm; omega)⟩
theorem Mid.below {zk zs : Nat} {w w1 w2 : World} (h : Mid zk zs w w1) (hb : Below w1.heap.size w1 w2) : Mid zk zs w w2 :=
  h.trans ⟨hb.os, hb.tape, hb.output, hb.size, fun i hi _ => hb.block i hi⟩
/-- A row behind zs. -/
theorem Mid.own {zk zs : Nat} {w w' : World} {B n sz : Nat} {e : TypeId} {v : Value} {xs : List Value} (h : Mid zk zs w w') (ho : w.ownsRow B e sz v n xs) (hB : zs ≤ B) : w'.ownsRow B e sz v n xs := by
  refine ⟨ho.1, ?_⟩
  rcases ho.2 with hn | ⟨g, cap, cur, rfl, hb, hg, rest⟩
  · exact .inl hn
  · refine .inr ⟨g, cap, cur, rfl, hb, ?_, rest⟩
    rw [h.block g (Array.getElem?_eq_some_iff.1 hg).1 (.inr (Nat.le_trans hB hb))]
    exact hg
/-- A row ahead of zk. -/
theorem Mid.own0 {zk zs : Nat} {w w' : World} {B n sz : Nat} {e : TypeId} {v : Value} {xs : List Value} (h : Mid zk zs w w') (ho : w.ownsRow B e sz v n xs) (hlt : ∀ g, v.ownBlock = some g → g < zk) : w'.ownsRow B e sz v n xs := by
  refine ⟨ho.1, ?_⟩
  rcases ho.2 with hn | ⟨g, cap, cur, rfl, hb, hg, rest⟩
  · exact .inl hn
  · refine .inr ⟨g, cap, cur, rfl, hb, ?_, rest⟩
    rw [h.block g (Array.getElem?_eq_some_iff.1 hg).1 (.inl (hlt g rfl))]
    exact hg
theorem Mid.blk {zk zs b : Nat} {w w' : World} {o : Obj} (h : Mid zk zs w w') (ho : w.heap[b]? = some o) (hb : b < zk ∨ zs ≤ b) : w'.heap[b]? = some o :=
  (h.block b (Array.getElem?_eq_some_iff.1 ho).1 hb).trans ho
theorem Mid.low {zk zs : Nat} {w0 w w' : World} (h : Mid zk zs w w') (hb : Below w0.heap.size w0 w) (hz : w0.heap.size ≤ zk) : Below w0.heap.size w0 w' :=
  ⟨h.os.trans hb.os, h.tape.trans hb.tape, h.output.trans hb.output, Nat.le_trans hb.size h.size, fun i hi => (h.block i (Nat.lt_of_lt_of_le hi hb.size) (.inl (Nat.lt_of_lt_of_le hi hz))).trans (hb.block i hi)⟩
theorem Mid.far {zk zs : Nat} {w w1 w2 : World} {v : Value} (h : Mid zk zs w w1) (hg : w1.grownBy w2 v.ownBlock) (hr : ∀ g, v.ownBlock = some g → w.heap.size ≤ g) : Mid zk zs w w2 :=
  ⟨hg.os.trans h.os, hg.tape.trans h.tape, hg.output.trans h.output, Nat.le_trans h.size hg.size, fun i hi hc => (hg.block i (Nat.lt_of_lt_of_le hi h.size) (fun e => by have := hr i e.symm; omega)).trans (h.block i hi hc)⟩
/-- The letter that goes into name k. -/
def ltr (k : Nat) : ByteArray := ⟨#[UInt8.ofNat (97 + k % 26)]⟩
theorem ltr_size (k : Nat) : (ltr k).size = 1 := rfl
theorem run_ltr (k : Nat) (w : World) : (convert 37 9 (.slice (some ⟨w.heap.size, 0, none⟩) 1 1)).run Tryd.prog (w.alloc (.cells #[.int .u8 (97 + (k : Int) % 26)] 5)) = .ok (.string (ltr k)) (w.alloc (.cells #[.int .u8 (97 + (k : Int) % 26)] 5)) := by
  have hr : ByteRow (w.alloc (.cells #[.int .u8 (97 + (k : Int) % 26)] 5)) w.heap.size [UInt8.ofNat (97 + k % 26)] := by
    intro i c hi
    have hi0 : i = 0 := by
      have := (List.getElem?_eq_some_iff.1 hi).1
      simp at this
      exact this
    subst hi0
    simp only [List.getElem?_cons_zero, Option.some.injEq] at hi
    subst hi
    have e : ((UInt8.ofNat (97 + k % 26)).toNat : Int) = 97 + (k : Int) % 26 := by
      rw [UInt8.toNat_ofNat_of_lt' (by simp [UInt8.size]; omega)]
      omega
    rw [e]
    exact ⟨by simp [go_sem], by simp [go_sem]⟩
  exact run_string_row _ 37 9 5 Tryd.underlying37 Tryd.underlying5 Tryd.underlying9 hr rfl
theorem run_ltr_drew (k : Nat) (w : World) : (convert 37 9 (.slice (some ⟨w.heap.size, 0, none⟩) 1 1)).run Tryd.prog (w.alloc (.cells #[.int .u8 (97 + (k : Int) % 26)] 5)).drew = .ok (.string (ltr k)) (w.alloc (.cells #[.int .u8 (97 + (k : Int) % 26)] 5)).drew :=
  run_ltr k w.drew
/-- The mark of type k. -/
def mk3 (k : Nat) : ByteArray := ⟨#[109, UInt8.ofNat (97 + k % 26), UInt8.ofNat (97 + k / 26 % 26)]⟩
theorem run_mk3 (k : Nat) (w : World) : (convert 37 9 (.slice (some ⟨w.heap.size, 0, none⟩) 3 3)).run Tryd.prog (w.alloc (.cells #[.int .u8 109, .int .u8 (97 + (k : Int) % 26), .int .u8 (97 + (k : Int) / 26 % 26)] 5)) = .ok (.string (mk3 k)) (w.alloc (.cells #[.int .u8 109, .int .u8 (97 + (k : Int) % 26), .int .u8 (97 + (k : Int) / 26 % 26)] 5)) := by
  have hr : ByteRow (w.alloc (.cells #[.int .u8 109, .int .u8 (97 + (k : Int) % 26), .int .u8 (97 + (k : Int) / 26 % 26)] 5)) w.heap.size [109, UInt8.ofNat (97 + k % 26), UInt8.ofNat (97 + k / 26 % 26)] := by
    intro i c hi
    have hi0 : i < 3 := by
      have := (List.getElem?_eq_some_iff.1 hi).1
      simpa using this
    have e1 : ((UInt8.ofNat (97 + k % 26)).toNat : Int) = 97 + (k : Int) % 26 := by
      rw [UInt8.toNat_ofNat_of_lt' (by simp [UInt8.size]; omega)]
      omega
    have e2 : ((UInt8.ofNat (97 + k / 26 % 26)).toNat : Int) = 97 + (k : Int) / 26 % 26 := by
      rw [UInt8.toNat_ofNat_of_lt' (by simp [UInt8.size]; omega)]
      omega
    obtain rfl | rfl | rfl : i = 0 ∨ i = 1 ∨ i = 2 := by omega
    all_goals
      simp only [List.getElem?_cons_zero, List.getElem?_cons_succ, Option.some.injEq] at hi
      subst hi
      first | rw [e1] | rw [e2] | rw [show ((109 : UInt8).toNat : Int) = 109 from rfl]
      exact ⟨by simp [go_sem], by simp [go_sem]⟩
  exact run_string_row _ 37 9 5 Tryd.underlying37 Tryd.underlying5 Tryd.underlying9 hr rfl
/-- The attributes of type j, three marks behind them. -/
def grF (S : Sch) (j q : Nat) : ByteArray := if q < S.ln j then S.atr j q else mk3 j
theorem grF_cells (S : Sch) (j : Nat) : strCells (S.atr j) (S.ln j) ++ [.string (mk3 j), .string (mk3 j), .string (mk3 j)] = strCells (grF S j) (S.ln j + 3) := by
  rw [strCells_succ, strCells_succ, strCells_succ, strCells_congr (f := S.atr j) (f' := grF S j) (fun q hq => by simp [grF, hq])]
  have e0 : grF S j (S.ln j) = mk3 j := if_neg (by omega)
  have e1 : grF S j (S.ln j + 1) = mk3 j := if_neg (by omega)
  have e2 : grF S j (S.ln j + 1 + 1) = mk3 j := if_neg (by omega)
  rw [e0, e1, e2]
  simp
/-- The lists of a schema lie in blocks ahead of sb, apart from each other. -/
structure Fix (n0 sb : Nat) (S : Sch) (sl : Nat → Value) (sv : Value) : Prop where
  lt : ∀ j g, j < S.n → (sl j).ownBlock = some g → n0 ≤ g ∧ g < sb
  ltv : ∀ g, sv.ownBlock = some g → n0 ≤ g ∧ g < sb
  dist : ∀ i j, i < j → j < S.n → (sl i).ownBlock = none ∨ (sl i).ownBlock ≠ (sl j).ownBlock
theorem Fix.ne {n0 sb : Nat} {S : Sch} {sl : Nat → Value} {sv : Value} (h : Fix n0 sb S sl sv) {i j : Nat} (hi : i < S.n) (hj : j < S.n) (hne : i ≠ j) {g : Nat} (hg : (sl i).ownBlock = some g) : (sl j).ownBlock ≠ some g := fun hx => by
  rcases Nat.lt_or_gt_of_ne hne with h1 | h1
  · rcases h.dist i j h1 hj with h2 | h2
    · rw [hg] at h2; cases h2
    · exact h2 (hg.trans hx.symm)
  · rcases h.dist j i h1 hi with h2 | h2
    · rw [hx] at h2; cases h2
    · exact h2 (hx.trans hg.symm)
theorem TypOwn.fix {w : World} {n0 : Nat} {v : Value} {S : Sch} (h : TypOwn w n0 v S) : ∃ sl, Fix n0 w.heap.size S sl v ∧ w.ownsRow n0 40 2 v S.n (rowCells S.nm sl S.n) ∧ ∀ j, j < S.n → w.ownsRow n0 9 1 (sl j) (S.ln j) (strCells (S.atr j) (S.ln j)) := by
  obtain ⟨_, sl, h1, h2, h3⟩ := h
  exact ⟨sl, ⟨fun j g hj hg => (h2 j hj).2.lt g hg, fun g hg => h1.lt g hg, h3⟩, h1, fun j hj => (h2 j hj).2⟩
/-- The schema at its place: all but its blocks and those behind w3's is as it was in w3. -/
structure OwS (n0 sb : Nat) (w3 wr : World) (S : Sch) (sl : Nat → Value) (sv : Value) : Prop where
  mid : Mid n0 sb w3 wr
  srow : wr.ownsRow n0 40 2 sv S.n (rowCells S.nm sl S.n)
  satr : ∀ j, j < S.n → wr.ownsRow n0 9 1 (sl j) (S.ln j) (strCells (S.atr j) (S.ln j))
/-- The first k grown lists. -/
structure OwL (n0 n3 : Nat) (wr : World) (S : Sch) (sl gr : Nat → Value) (ov : Value) (k : Nat) : Prop where
  row : wr.ownsRow n3 40 2 ov k (rowCells S.nm gr k)
  atr : ∀ j, j < k → wr.ownsRow n0 9 1 (gr j) (S.ln j + 3) (strCells (grF S j) (S.ln j + 3))
  at_ : ∀ j g, j < k → (gr j).ownBlock = some g → (sl j).ownBlock = some g ∨ n3 ≤ g
section
variable {n0 sb n3 k : Nat} {w3 wr wx : World} {S : Sch} {sl gr : Nat → Value} {sv ov : Value}
theorem OwS.alloc (h : OwS n0 sb w3 wr S sl sv) (o : Obj) : OwS n0 sb w3 (wr.alloc o) S sl sv :=
  ⟨h.mid.below (bnew (Below.refl _ _) o), h.srow.alloc o, fun j hj => (h.satr j hj).alloc o⟩
theorem OwL.alloc (h : OwL n0 n3 wr S sl gr ov k) (o : Obj) : OwL n0 n3 (wr.alloc o) S sl gr ov k :=
  ⟨h.row.alloc o, fun j hj => (h.atr j hj).alloc o, h.at_⟩
theorem OwS.below (h : OwS n0 sb w3 wr S sl sv) (hb : Below wr.heap.size wr wx) : OwS n0 sb w3 wx S sl sv :=
  ⟨h.mid.below hb, own_below h.srow hb, fun j hj => own_below (h.satr j hj) hb⟩
theorem OwL.below (h : OwL n0 n3 wr S sl gr ov k) (hb : Below wr.heap.size wr wx) : OwL n0 n3 wx S sl gr ov k :=
  ⟨own_below h.row hb, fun j hj => own_below (h.atr j hj) hb, h.at_⟩
/-- The list of type k has grown. -/
theorem OwS.grow (h : OwS n0 sb w3 wr S sl sv) (hF : Fix n0 sb S sl sv) (hk : k < S.n) (hg : wr.grownBy wx (sl k).ownBlock) (hold : wx.ownsRow n0 9 1 (sl k) (S.ln k) (strCells (S.atr k) (S.ln k))) : OwS n0 sb w3 wx S sl sv := by
  refine ⟨h.mid.grown hg (fun g hg => hF.lt k g hk hg), own_kept h.srow hg (fun g hg => own_type_ne (h.satr k hk) h.srow (by decide) hg), fun j hj => ?_⟩
  by_cases e : j = k
  · subst e; exact hold
  · exact own_kept (h.satr j hj) hg (fun g hg => hF.ne hk hj (Ne.symm e) hg)
theorem OwL.grow (h : OwL n0 n3 wr S sl gr ov k) (hs : OwS n0 sb w3 wr S sl sv) (hF : Fix n0 sb S sl sv) (h3 : sb ≤ n3) (hk : k < S.n) (hg : wr.grownBy wx (sl k).ownBlock) : OwL n0 n3 wx S sl gr ov k := by
  refine ⟨own_kept h.row hg (fun g hg => own_type_ne (hs.satr k hk) h.row (by decide) hg), fun j hj => own_kept (h.atr j hj) hg (fun g hg hx => ?_), h.at_⟩
  rcases h.at_ j g hj hx with h1 | h1
  · exact hF.ne hk (by omega) (by omega) hg h1
  · have := hF.lt k g hk hg
    omega
/-- And is put to the others. -/
theorem OwS.push (h : OwS n0 sb w3 wr S sl sv) (hF : Fix n0 sb S sl sv) (hl : OwL n0 n3 wr S sl gr ov k) (h3 : sb ≤ n3) (hw : w3.heap.size ≤ n3) (hg : wr.grownBy wx ov.ownBlock) : OwS n0 sb w3 wx S sl sv := by
  refine ⟨h.mid.far hg (fun g hg => by have := (hl.row.lt g hg).1; omega), own_kept h.srow hg (fun g hg hx => ?_), fun j hj => own_kept (h.satr j hj) hg (fun g hg => own_type_ne hl.row (h.satr j hj) (by decide) hg)⟩
  have h1 := (hl.row.lt g hg).1
  have h2 := (hF.ltv g hx).2
  omega
theorem OwL.push {nv tv : Value} (h : OwL n0 n3 wr S sl gr ov k) (hg : wr.grownBy wx ov.ownBlock) (hn : wx.ownsRow n3 40 2 nv (k + 1) (rowCells S.nm gr k ++ [.string (S.nm k), tv]))
    (ht : wr.ownsRow n0 9 1 tv (S.ln k + 3) (strCells (grF S k) (S.ln k + 3))) (hat : ∀ g, tv.ownBlock = some g → (sl k).ownBlock = some g ∨ n3 ≤ g) : OwL n0 n3 wx S sl (upd gr k tv) nv (k + 1) := by
  refine ⟨?_, fun j hj => ?_, fun j g hj hx => ?_⟩
  · rw [rowCells_succ, rowCells_congr (sl' := gr) (fun j hj => by simp only [upd]; rw [if_neg (by omega)])]
    have : upd gr k tv k = tv := if_pos rfl
    rw [this]
    exact hn
  · by_cases e : j = k
    · subst e
      have : upd gr j tv j = tv := if_pos rfl
      rw [this]
      exact own_kept ht hg (fun g hg => own_type_ne h.row ht (by decide) hg)
    · have : upd gr k tv j = gr j := if_neg e
      rw [this]
      exact own_kept (h.atr j (by omega)) hg (fun g hg => own_type_ne h.row (h.atr j (by omega)) (by decide) hg)
  · by_cases e : j = k
    · subst e
      have : upd gr j tv j = tv := if_pos rfl
      rw [this] at hx
      exact hat g hx
    · have : upd gr k tv j = gr j := if_neg e
      rw [this] at hx
      exact h.at_ j g (by omega) hx
/-- The row of types has grown. -/
theorem OwS.more (h : OwS n0 sb w3 wr S sl sv) (hF : Fix n0 sb S sl sv) (hg : wr.grownBy wx sv.ownBlock) (hold : wx.ownsRow n0 40 2 sv S.n (rowCells S.nm sl S.n)) : OwS n0 sb w3 wx S sl sv :=
  ⟨h.mid.grown hg (fun g hg => hF.ltv g hg), hold, fun j hj => own_kept (h.satr j hj) hg (fun g hg => own_type_ne h.srow (h.satr j hj) (by decide) hg)⟩
/-- An attribute is written over. -/
theorem OwS.setAttr {g c j : Nat} (h : OwS n0 sb w3 wr S sl sv) (hF : Fix n0 sb S sl sv) (hj : j < S.n) (he : sl j = .slice (some ⟨g, 0, none⟩) (S.ln j) c) (q : Nat) (s : ByteArray) :
    OwS n0 sb w3 (wr.setCell ⟨g, q, none⟩ (.string s)) { S with atr := upd S.atr j (upd (S.atr j) q s) } sl sv := by
  have h0 := h.satr j hj
  have hb : (sl j).ownBlock = some g := by rw [he]; rfl
  rw [he] at h0
  obtain ⟨k1, k2⟩ := h0.stored q (.string s)
  rw [strCells_set] at k1
  have k3 : wr.grownBy (wr.setCell ⟨g, q, none⟩ (.string s)) (sl j).ownBlock := by rw [he]; exact k2
  refine ⟨h.mid.grown k3 (fun x hx => hF.lt j x hj hx), own_kept h.srow k3 (fun x hx => own_type_ne (h.satr j hj) h.srow (by decide) hx), fun i hi => ?_⟩
  show World.ownsRow _ n0 _ 1 (sl i) (S.ln i) (strCells (upd S.atr j (upd (S.atr j) q s) i) (S.ln i))
  by_cases ei : i = j
  · subst ei
    have : upd S.atr i (upd (S.atr i) q s) i = upd (S.atr i) q s := if_pos rfl
    rw [this, he]
    exact k1
  · have : upd S.atr j (upd (S.atr j) q s) i = S.atr i := if_neg ei
    rw [this]
    exact own_kept (h.satr i hi) k3 (fun x hx => hF.ne hj hi (Ne.symm ei) hx)
/-- What type j's cells hold. -/
theorem OwS.cells {g c j : Nat} (h : OwS n0 sb w3 wr S sl (.slice (some ⟨g, 0, none⟩) S.n c)) (hj : j < S.n) : wr.cell? ⟨g, j * 2, none⟩ = some (.string (S.nm j)) ∧ wr.cell? ⟨g, j * 2 + 1, none⟩ = some (sl j) := by
  obtain ⟨r1, r2⟩ := rowCells_at S.nm sl hj
  exact ⟨by rw [h.srow.cellAt (j * 2) (by omega), r1], by rw [h.srow.cellAt (j * 2 + 1) (by omega), r2]⟩
theorem OwS.attr {j : Nat} (h : OwS n0 sb w3 wr S sl sv) (hj : j < S.n) : ∃ A c, sl j = .slice A (S.ln j) c ∧ S.ln j ≤ c ∧ (0 < S.ln j → ∃ g, A = some ⟨g, 0, none⟩ ∧ g < wr.heap.size ∧ ∀ q, q < S.ln j → wr.cell? ⟨g, q, none⟩ = some (.string (S.atr j q)) ∧ wr.frozen? ⟨g, q, none⟩ = false) := by
  have h0 := h.satr j hj
  obtain ⟨A, c, e, hle, _⟩ := rowown_shape h0
  refine ⟨A, c, e, hle, fun hn => ?_⟩
  rw [e] at h0
  obtain ⟨g, cap, hv, hB, hlt⟩ := h0.form hn
  injection hv with hA _ hc
  subst hA hc
  exact ⟨g, rfl, hlt, fun q hq => ⟨by rw [h0.cellAt q (by omega), strCells_at _ hq], h0.frozenAt _⟩⟩
theorem OwS.rd {A : Option Addr} {c : Nat} (h : OwS n0 sb w3 wr S sl (.slice A S.n c)) (hn : S.n * 40 ≤ 140737488351232) (hl : ∀ j, j < S.n → S.ln j * 16 ≤ 140737488351232) (hd : ∀ i j, i < j → j < S.n → (sl i).ownBlock = none ∨ (sl i).ownBlock ≠ (sl j).ownBlock) : TypRd wr wr.heap.size A S :=
  TypOwn.rd (w := wr) (B := n0) (c := c) ⟨hn, sl, h.srow, fun j hj => ⟨hl j hj, h.satr j hj⟩, hd⟩
/-- What lies behind sb stays. -/
theorem TypOwn.mid {zk zs B : Nat} {w w' : World} {v : Value} {S : Sch} (h : TypOwn w B v S) (hm : Mid zk zs w w') (hB : zs ≤ B) : TypOwn w' B v S := by
  obtain ⟨hn, sl, h1, h2, h3⟩ := h
  exact ⟨hn, sl, hm.own h1 hB, fun j hj => ⟨(h2 j hj).1, hm.own (h2 j hj).2 hB⟩, h3⟩
/-- What list j of the grown ones holds. -/
theorem OwL.attr {j : Nat} (h : OwL n0 n3 wr S sl gr ov k) (hj : j < k) (hl : S.ln j ≤ 8) : ∃ g c, gr j = .slice (some ⟨g, 0, none⟩) (S.ln j + 3) c ∧ S.ln j + 3 ≤ c ∧ g < wr.heap.size ∧ StrRd wr wr.heap.size (some ⟨g, 0, none⟩) (S.ln j) (S.atr j) ∧
    wr.cell? ⟨g, S.ln j, none⟩ = some (.string (mk3 j)) ∧ wr.cell? ⟨g, S.ln j + 2, none⟩ = some (.string (mk3 j)) := by
  have h0 := h.atr j hj
  obtain ⟨A, c, e, hle, _⟩ := rowown_shape h0
  rw [e] at h0
  obtain ⟨g, cap, hv, hB, hlt⟩ := h0.form (by omega)
  injection hv with hA _ hc
  subst hA hc
  have hc : ∀ q, q < S.ln j + 3 → wr.cell? ⟨g, q, none⟩ = some (.string (grF S j q)) := fun q hq => by rw [h0.cellAt q (by omega), strCells_at _ hq]
  refine ⟨g, c, e, hle, hlt, ⟨by omega, fun hn => ⟨g, 0, rfl, hlt, fun q hq => ?_⟩⟩, ?_, ?_⟩
  · rw [Nat.zero_add, hc q (by omega)]
    simp [grF, hq]
  · rw [hc _ (by omega), show grF S j (S.ln j) = mk3 j from if_neg (by omega)]
  · rw [hc _ (by omega), show grF S j (S.ln j + 2) = mk3 j from if_neg (by omega)]
theorem OwS.drew (h : OwS n0 sb w3 wr S sl sv) : OwS n0 sb w3 wr.drew S sl sv := h.below (bdrew (Below.refl _ _))
end
/-- What an attribute of type j is spoilt to. -/
def spT (j : Nat) : ByteArray := ⟨#[115, 112, 111, 105, 108, 116]⟩ ++ ltr j
/-- The schema with the attributes ahead of (k, m) spoilt. -/
def spS (S : Sch) (k m : Nat) : Sch := { S with atr := fun j q => if j < k ∨ (j = k ∧ q < m) then spT j else S.atr j q }
theorem spS_zero (S : Sch) : spS S 0 0 = S := by
  obtain ⟨n, nm, ln, atr⟩ := S
  simp [spS]
theorem spS_next (S : Sch) (k m : Nat) : { spS S k m with atr := upd (spS S k m).atr k (upd ((spS S k m).atr k) m (spT k)) } = spS S k (m + 1) := by
  obtain ⟨n, nm, ln, atr⟩ := S
  show Sch.mk n nm ln _ = Sch.mk n nm ln _
  congr 1
  funext j q
  show (if j = k then (fun i => if i = m then spT k else (if k < k ∨ (k = k ∧ i < m) then spT k else atr k i)) else (fun i => if j < k ∨ (j = k ∧ i < m) then spT j else atr j i)) q = (if j < k ∨ (j = k ∧ q < m + 1) then spT j else atr j q)
  by_cases hj : j = k
  · subst hj
    rw [if_pos rfl]
    show (if q = m then spT j else (if j < j ∨ (j = j ∧ q < m) then spT j else atr j q)) = _
    by_cases hq : q = m
    · rw [if_pos hq, if_pos (by omega)]
    · rw [if_neg hq]
      by_cases h : q < m
      · rw [if_pos (by omega), if_pos (by omega)]
      · rw [if_neg (by omega), if_neg (by omega)]
  · rw [if_neg hj]
    show (if j < k ∨ (j = k ∧ q < m) then spT j else atr j q) = _
    by_cases h : j < k
    · rw [if_pos (by omega), if_pos (by omega)]
    · rw [if_neg (by omega), if_neg (by omega)]
theorem spS_done (S : Sch) {k j q : Nat} (h : j < k) : (spS S k 0).atr j q = spT j := if_pos (Or.inl h)
section
variable {n0 sb k : Nat} {w3 wr wx : World} {S : Sch} {sl : Nat → Value} {sv : Value}
theorem OwS.turn (h : OwS n0 sb w3 wr (spS S k (S.ln k)) sl sv) : OwS n0 sb w3 wr (spS S (k + 1) 0) sl sv := by
  refine ⟨h.mid, h.srow, fun j hj => ?_⟩
  have h0 := h.satr j hj
  rw [strCells_congr (f' := (spS S (k + 1) 0).atr j) (fun q hq => ?_)] at h0
  · exact h0
  · have hq' : q < S.ln j := hq
    show (if j < k ∨ (j = k ∧ q < S.ln k) then spT j else S.atr j q) = (if j < k + 1 ∨ (j = k + 1 ∧ q < 0) then spT j else S.atr j q)
    by_cases e : j = k
    · subst e
      rw [if_pos (by omega), if_pos (by omega)]
    · by_cases e2 : j < k
      · rw [if_pos (by omega), if_pos (by omega)]
      · rw [if_neg (by omega), if_neg (by omega)]
/-- The types from k on are as they were. -/
structure OwT (n0 sb : Nat) (w3 wr : World) (S : Sch) (sl : Nat → Value) (sv : Value) (k : Nat) : Prop where
  mid : Mid n0 sb w3 wr
  srow : ∃ xs : List Value, wr.ownsRow n0 40 2 sv S.n xs ∧ ∀ j, k ≤ j → j < S.n → xs[j * 2 + 1]? = some (sl j)
  satr : ∀ j, j < S.n → wr.ownsRow n0 9 1 (sl j) (S.ln j) (strCells (S.atr j) (S.ln j))
theorem OwS.toT (h : OwS n0 sb w3 wr S sl sv) : OwT n0 sb w3 wr S sl sv 0 :=
  ⟨h.mid, ⟨_, h.srow, fun j _ hj => (rowCells_at S.nm sl hj).2⟩, h.satr⟩
theorem OwT.below (h : OwT n0 sb w3 wr S sl sv k) (hb : Below wr.heap.size wr wx) : OwT n0 sb w3 wx S sl sv k := by
  obtain ⟨xs, h1, h2⟩ := h.srow
  exact ⟨h.mid.below hb, ⟨xs, own_below h1 hb, h2⟩, fun j hj => own_below (h.satr j hj) hb⟩
theorem OwT.cells {g c : Nat} (h : OwT n0 sb w3 wr S sl (.slice (some ⟨g, 0, none⟩) S.n c) k) (hk : k < S.n) :
    wr.cell? ⟨g, k * 2 + 1, none⟩ = some (sl k) ∧ (∃ u, wr.cell? ⟨g, k * 2, none⟩ = some u) ∧ wr.frozen? ⟨g, k * 2, none⟩ = false ∧ wr.frozen? ⟨g, k * 2 + 1, none⟩ = false := by
  obtain ⟨xs, h1, h2⟩ := h.srow
  have hl : xs.length = S.n * 2 := h1.1
  exact ⟨by rw [h1.cellAt (k * 2 + 1) (by omega), h2 k (Nat.le_refl _) hk], ⟨_, by rw [h1.cellAt (k * 2) (by omega), List.getElem?_eq_getElem (by omega)]⟩, h1.frozenAt _, h1.frozenAt _⟩
theorem OwT.attr {j : Nat} (h : OwT n0 sb w3 wr S sl sv k) (hj : j < S.n) : ∃ A c, sl j = .slice A (S.ln j) c ∧ S.ln j ≤ c ∧ (0 < S.ln j → ∃ g, A = some ⟨g, 0, none⟩ ∧ g < wr.heap.size ∧ ∀ q, q < S.ln j → wr.cell? ⟨g, q, none⟩ = some (.string (S.atr j q))) := by
  have h0 := h.satr j hj
  obtain ⟨A, c, e, hle, _⟩ := rowown_shape h0
  refine ⟨A, c, e, hle, fun hn => ?_⟩
  rw [e] at h0
  obtain ⟨g, cap, hv, hB, hlt⟩ := h0.form hn
  injection hv with hA _ hc
  subst hA hc
  exact ⟨g, rfl, hlt, fun q hq => by rw [h0.cellAt q (by omega), strCells_at _ hq]⟩
theorem OwT.step {g c : Nat} (h : OwT n0 sb w3 wr S sl (.slice (some ⟨g, 0, none⟩) S.n c) k) (hF : Fix n0 sb S sl (.slice (some ⟨g, 0, none⟩) S.n c)) (u0 u1 : Value) :
    OwT n0 sb w3 ((wr.setCell ⟨g, k * 2, none⟩ u0).setCell ⟨g, k * 2 + 1, none⟩ u1) S sl (.slice (some ⟨g, 0, none⟩) S.n c) (k + 1) := by
  obtain ⟨xs, h1, h2⟩ := h.srow
  obtain ⟨a1, a2⟩ := h1.stored (k * 2) u0
  obtain ⟨b1, b2⟩ := a1.stored (k * 2 + 1) u1
  refine ⟨(h.mid.grown (v := .slice (some ⟨g, 0, none⟩) S.n c) a2 (fun x hx => hF.ltv x hx)).grown (v := .slice (some ⟨g, 0, none⟩) S.n c) b2 (fun x hx => hF.ltv x hx), ⟨_, b1, fun j hj hjn => ?_⟩, fun j hj => ?_⟩
  · rw [List.getElem?_set_ne (by omega), List.getElem?_set_ne (by omega)]
    exact h2 j (by omega) hjn
  · have k1 := own_kept (h.satr j hj) a2 (fun x hx => own_type_ne h1 (h.satr j hj) (by decide) hx)
    exact own_kept k1 b2 (fun x hx => own_type_ne a1 k1 (by decide) hx)
end
end Go.Proofs.YtppeonlpocdhkaaDoor

/-! ### What a listed table's cells are: for the witness' world. -/
namespace Go.Proofs.YtppeonlpocdhkaaDoor
def tabCells (d : DataW Unit) : Array Value :=
  match d with
  | .agg l => (l.map fun x => match x with | .lit (.int k z) => Value.int k z | .lit (.string s) => Value.string ⟨s.toArray⟩ | _ => undef).toArray
  | _ => #[]
end Go.Proofs.YtppeonlpocdhkaaDoor

/-! ### The walk of the law EventOwn, and its arguments opened. -/
namespace Go.Proofs.YtppeonlpocdhkaaDoor
open Go.RowKit Go.ChangeShapes Go.WideShapes Go.ChangeAt Go.Deep Go.Joins
set_option maxRecDepth 100000 in
set_option maxHeartbeats 8000000 in
theorem eventOwn_walk (text : ByteArray) (w : World) (hv : ErrV w) {tt : TypeId} {fr : Nat × Nat} (hkw : w.heap[0]? = some (.cells kwArr tt fr)) :
    Calls Tryd.prog 10 #[.string text] w fun e w' => e = .returned (.bool true) ∧ Below w.heap.size w w' := by
  obtain ⟨i0, hi0, hu0, hu1, hu2⟩ := info_parts infoStr
  obtain ⟨i1, hi1, hy0, hy1, hy2⟩ := info_parts infoType
  have HK := Lib.hid hkw
  have HV := Lib.hid hv
  clear hkw hv
  go_enter Tryd.func10, Tryd.ntmps10
  go_wp2_with fail
  refine (started_any _ HV.out HK.out).mono ?_
  rintro e w0 ⟨rfl, hb0⟩
  go_wp2_with fail
  refine (parseSchema_any text _ (block_below HK.out hb0)).mono ?_
  have HPS := Lib.hid (fun (u u' : World) (e : Ending) => (id : PsEnd u u' text e → PsEnd u u' text e))
  have hsay := parse_says text
  rintro e w1 ⟨A, c, rfl, hb01, ho1⟩
  have HEND := Lib.hid (fun (u u' : World) (e : Ending) (h : PsEnd u u' text e) => h)
  clear HPS HEND
  have hb1 := bcall hb0 hb01
  obtain ⟨R, hR⟩ : ∃ R, parseRes text = R := ⟨_, rfl⟩
  have HR := Lib.hid hR
  rw [hR] at hsay ho1
  rw [hR]
  clear hR
  obtain ⟨rc, rp, ts0⟩ := R
  dsimp only at hsay ho1 ⊢
  rcases hsay with ⟨hc, rfl, hpos⟩ | ⟨rfl, rfl, hS⟩
  · have hcc : (rc != 0) = true := by rw [bne_iff_ne]; exact hc
    have hb2 := bnew hb1 (.cells #[.slice A (List.length ([] : TList)) c] 25)
    clear ho1
    go_upto_region 4 with fail
    generalize w1.alloc _ = w2 at *
    go_wp2_with fail
    refine (parseSchema_any text _ (block_below HK.out hb2)).mono ?_
    rintro e w3 ⟨A3, c3, rfl, hb23, _⟩
    rw [HR.out]
    have hb4 := bnew (bcall hb2 hb23) (.cells #[.slice A3 (List.length ([] : TList)) c3] 25)
    go_wp2_with fail
    go_ret
    exact ⟨ret_bool (by simp), hb4⟩
  · obtain ⟨h0, h16, hall⟩ := sch_zero hS
    obtain ⟨S, hSe⟩ : ∃ S, schOf ts0 = S := ⟨_, rfl⟩
    have hSn : ts0.length = S.n := by rw [← hSe]; rfl
    rw [hSe] at ho1 h0 h16 hall
    rw [hSn]
    have HSE := Lib.hid hSe
    have HSN := Lib.hid hSn
    have hln : ∀ j, j < S.n → S.ln j ≤ 8 := fun j hj => (hall j hj).2.2.1
    have HLN := Lib.hid hln
    have HEND : Hid (∀ (u u' : World) (e : Ending), PsEnd u u' text e → ∃ A c, e = .returned (.tuple #[.agg #[.slice A S.n c], .int .i64 0, .int .i64 0]) ∧ Below u.heap.size u u' ∧ TypOwn u' u.heap.size (.slice A S.n c) S) := Lib.hid (by
      rintro u u' e ⟨A', c', rfl, h1, h2⟩
      rw [HR.out] at h2 ⊢
      dsimp only at h2 ⊢
      rw [HSE.out] at h2
      rw [HSN.out]
      exact ⟨A', c', rfl, h1, h2⟩)
    clear hSe hSn hall hln hS
    obtain ⟨sl, hF, hrow, hatt⟩ := ho1.fix
    obtain ⟨sb, hsb⟩ : ∃ sb, w1.heap.size = sb := ⟨_, rfl⟩
    obtain ⟨n0, hn0⟩ : ∃ n0, w0.heap.size = n0 := ⟨_, rfl⟩
    have hz01 := hb01.size
    have hz0 := hb0.size
    rw [hsb] at hF
    rw [hsb, hn0] at hz01
    rw [hn0] at hF hz0 hrow hatt
    obtain ⟨gA, cA, rfl, hgA, hcA⟩ : ∃ g c', A = some ⟨g, 0, none⟩ ∧ True ∧ True := by
      obtain ⟨g, c', e, _⟩ := hrow.form h0
      injection e with e1
      exact ⟨g, c', e1, trivial, trivial⟩
    have OS := Lib.hid (show OwS n0 sb w1 w1 S sl (.slice (some ⟨gA, 0, none⟩) S.n c) from ⟨Mid.refl _ _ _, hrow, hatt⟩)
    have HF := Lib.hid hF
    have B1 := Lib.hid (blk_new w1 #[.slice (some ⟨gA, 0, none⟩) S.n c] 25)
    rw [hsb] at B1
    have hb2 := bnew hb1 (.cells #[.slice (some ⟨gA, 0, none⟩) S.n c] 25)
    have hz12 : sb + 1 = (w1.alloc (.cells #[.slice (some ⟨gA, 0, none⟩) S.n c] 25)).heap.size := by simp [hsb]
    replace OS := Lib.hid (OS.out.alloc (.cells #[.slice (some ⟨gA, 0, none⟩) S.n c] 25))
    clear ho1 hF hrow hatt hgA hcA hb01 hb1
    go_upto_region 4 with fail
    generalize w1.alloc _ = w2 at *
    try rw [hsb]
    clear hsb
    go_wp2_with fail
    refine (parseSchema_any text _ (block_below HK.out hb2)).mono ?_
    intro e w3 hend
    obtain ⟨A3, c3, rfl, hb23, ho3⟩ := HEND.out _ _ _ hend
    clear hend
    have hb3 := bcall hb2 hb23
    have hz23 := hb23.size
    replace OS := Lib.hid (OS.out.below hb23)
    replace B1 := Lib.hid (blk_below B1.out hb23)
    obtain ⟨fb, hfb⟩ : ∃ fb, w3.heap.size = fb := ⟨_, rfl⟩
    have B3 := Lib.hid (blk_new w3 #[.slice A3 S.n c3] 25)
    rw [hfb] at B3
    have TF := Lib.hid (ho3.below (bnew (Below.refl _ _) (.cells #[.slice A3 S.n c3] 25)))
    have hb4 := bnew hb3 (.cells #[.slice A3 S.n c3] 25)
    have hz34 : fb + 1 = (w3.alloc (.cells #[.slice A3 S.n c3] 25)).heap.size := by simp [hfb]
    replace OS := Lib.hid (OS.out.alloc (.cells #[.slice A3 S.n c3] 25))
    replace B1 := Lib.hid (blk_alloc B1.out (.cells #[.slice A3 S.n c3] 25))
    clear ho3 hb23 hb3 hb2
    have x4 : (w3.alloc (.cells #[.slice A3 S.n c3] 25)).cell? ⟨sb, 0, none⟩ = some (.slice (some ⟨gA, 0, none⟩) S.n c) := blk_cell B1.out (j := 0) rfl
    go_upto_region 7 with fail
    generalize w3.alloc _ = w4 at *
    rw [hfb] at hz23
    try rw [hfb]
    clear hfb
    go_wp2_with fail
    refine (twin_any (some ⟨gA, 0, none⟩) c S _ (TypOwn.rd (B := n0) (c := c) ⟨by omega, sl, OS.out.srow, fun j hj => ⟨by have := HLN.out j hj; omega, OS.out.satr j hj⟩, HF.out.dist⟩)).mono ?_
    rintro e w5 ⟨A5, c5, rfl, hb45, ho5⟩
    have hb5 := bcall hb4 hb45
    have hz45 := hb45.size
    replace OS := Lib.hid (OS.out.below hb45)
    replace B1 := Lib.hid (blk_below B1.out hb45)
    replace B3 := Lib.hid (blk_below B3.out hb45)
    replace TF := Lib.hid (TF.out.below hb45)
    obtain ⟨wb, hwb⟩ : ∃ wb, w5.heap.size = wb := ⟨_, rfl⟩
    have B5 := Lib.hid (blk_new w5 #[.slice A5 S.n c5] 25)
    rw [hwb] at B5
    have TW := Lib.hid (ho5.below (bnew (Below.refl _ _) (.cells #[.slice A5 S.n c5] 25)))
    have hb6 := bnew hb5 (.cells #[.slice A5 S.n c5] 25)
    have hz56 : wb + 1 = (w5.alloc (.cells #[.slice A5 S.n c5] 25)).heap.size := by simp [hwb]
    replace OS := Lib.hid (OS.out.alloc (.cells #[.slice A5 S.n c5] 25))
    replace B1 := Lib.hid (blk_alloc B1.out (.cells #[.slice A5 S.n c5] 25))
    replace B3 := Lib.hid (blk_alloc B3.out (.cells #[.slice A5 S.n c5] 25))
    replace TF := Lib.hid (TF.out.below (bnew (Below.refl _ _) (.cells #[.slice A5 S.n c5] 25)))
    clear ho5 hb45 hb5 hb4 x4
    go_upto_region 9 with fail
    generalize w5.alloc _ = w6 at *
    rw [hwb] at hz45
    try rw [hwb]
    clear hwb
    replace TF := Lib.hid (TF.out.mono (show sb ≤ w2.heap.size by omega))
    replace TW := Lib.hid (TW.out.mono (show sb ≤ w4.heap.size by omega))
    replace OS := Lib.hid (show OwS n0 sb w6 w6 S sl (.slice (some ⟨gA, 0, none⟩) S.n c) from ⟨Mid.refl _ _ _, OS.out.srow, OS.out.satr⟩)
    obtain ⟨n3, hn3⟩ : ∃ n3, w6.heap.size = n3 := ⟨_, rfl⟩
    have hs3 : sb ≤ n3 := by omega
    have hsfb : sb < fb := by omega
    have hswb : sb < wb := by omega
    have hw3 : w6.heap.size ≤ n3 := by omega
    clear hz12 hz23 hz34 hz45 hz56 hn0
    go_wp2_with fail
    go_loopw [10, 11] (fun o i wr => ∃ (k : Nat) (ov : Value) (gr : Nat → Value), k ≤ S.n ∧ i = .int .i64 k ∧ ov = o ∧ Hid (OwS n0 sb w6 wr S sl (.slice (some ⟨gA, 0, none⟩) S.n c)) ∧ Hid (OwL n0 n3 wr S sl gr ov k)) (fun _ i _ => S.n - (intOf i).toNat)
    case atStart => exact ⟨0, .slice none 0 0, fun _ => .slice none 0 0, Nat.zero_le _, rfl, rfl, OS, Lib.hid ⟨World.ownsRow_nil _ _ _ _, fun j hj => absurd hj (Nat.not_lt_zero _), fun j g hj => absurd hj (Nat.not_lt_zero _)⟩⟩
    case round =>
      clear OS
      obtain ⟨k, ov, gr, hk, rfl, rfl, OS, OL⟩ := hrel
      obtain ⟨W1, e1⟩ : ∃ W1 : World, W1 = wr := ⟨_, rfl⟩
      subst e1
      have x1 : W1.cell? ⟨sb, 0, none⟩ = some (.slice (some ⟨gA, 0, none⟩) S.n c) := blk_cell (OS.out.mid.blk B1.out (.inr (Nat.le_refl _))) (j := 0) rfl
      have hsz := OS.out.mid.size
      rw [hn3] at hsz
      by_cases hlt : k < S.n
      · obtain ⟨y1, y2⟩ := OS.out.cells hlt
        obtain ⟨aa, ac, hsl, hac, hat⟩ := OS.out.attr hlt
        rw [hsl] at y2
        have hl8 := HLN.out k hlt
        have HSL := Lib.hid hsl
        have hcv := run_mk3 k W1
        have OS2 := Lib.hid ((OS.out.alloc (.cells #[.int .u8 109, .int .u8 (97 + (k : Int) % 26), .int .u8 (97 + (k : Int) / 26 % 26)] 5)).alloc (.cells #[.string (mk3 k), .string (mk3 k), .string (mk3 k)] 9))
        have OL2 := Lib.hid ((OL.out.alloc (.cells #[.int .u8 109, .int .u8 (97 + (k : Int) % 26), .int .u8 (97 + (k : Int) / 26 % 26)] 5)).alloc (.cells #[.string (mk3 k), .string (mk3 k), .string (mk3 k)] 9))
        have hm1 : 0 ≤ (k : Int) % 26 := by omega
        have hm2 : (k : Int) % 26 < 26 := by omega
        have hm3 : 0 ≤ (k : Int) / 26 % 26 := by omega
        have hm4 : (k : Int) / 26 % 26 < 26 := by omega
        clear hsl hat
        go_upto_region 13 with fail
        clear hcv hm1 hm2 hm3 hm4
        generalize hw2 : W1.alloc (.cells #[.int .u8 109, .int .u8 (97 + (k : Int) % 26), .int .u8 (97 + (k : Int) / 26 % 26)] 5) = W2 at *
        have x2 : W2.cell? ⟨sb, 0, none⟩ = some (.slice (some ⟨gA, 0, none⟩) S.n c) := by rw [← hw2]; exact cell_alloc x1 _
        have z1 : W2.cell? ⟨gA, k * 2, none⟩ = some (.string (S.nm k)) := by rw [← hw2]; exact cell_alloc y1 _
        have z2 : W2.cell? ⟨gA, k * 2 + 1, none⟩ = some (.slice aa (S.ln k) ac) := by rw [← hw2]; exact cell_alloc y2 _
        have hsz2 : n3 ≤ W2.heap.size := by rw [← hw2]; simp; omega
        have hr2 : ∃ mk, mk = mk3 k := ⟨_, rfl⟩
        clear hw2 x1 y1 y2 OS OL
        have RW := Lib.hid (by have h := OS2.out.satr k hlt; rw [HSL.out] at h; exact h)
        go_upto_region 14 with (at_builtin; go_loud (refine wpList_append_apart _ rfl _ _ _ rfl n0 9 i0 _ 1 16 Tryd.underlying38 hi0 hu0 hu1 hu2 rfl (by omega) (Value.slice aa (S.ln k) ac) _ _ rfl RW.out (by rw [World.size_alloc]; omega) ⟨_, 0, none⟩ 3 3 [.string (mk3 k), .string (mk3 k), .string (mk3 k)] rfl rfl (by omega) (World.news_of_block (cs := #[.string (mk3 k), .string (mk3 k), .string (mk3 k)]) (t := 9) (fr := (0, 0)) (heap_alloc_new _ _)) (by simp [Value.oneCell']) (by unfold maxLen; omega) (by omega) ?_; intro Ag cg W3 R1 R2 hG hin))
        rw [← HSL.out] at hG R2
        have OS3 := Lib.hid (OS2.out.grow HF.out hlt hG R2)
        have OL3 := Lib.hid (OL2.out.grow OS2.out HF.out hs3 hlt hG)
        have RT := Lib.hid (show W3.ownsRow n0 9 1 (.slice Ag (S.ln k + 3) cg) (S.ln k + 3) (strCells (grF S k) (S.ln k + 3)) by rw [← grF_cells]; exact R1)
        have HIN : Hid (∀ g, Value.ownBlock (.slice Ag (S.ln k + 3) cg) = some g → (sl k).ownBlock = some g ∨ n3 ≤ g) := Lib.hid (fun g hg => by
          rcases hin g hg with h | h
          · left; rw [HSL.out]; exact h
          · right; rw [World.size_alloc] at h; omega)
        have hsz3 : n3 ≤ W3.heap.size := by have := hG.size; rw [World.size_alloc] at this; omega
        have x3 : W3.cell? ⟨sb, 0, none⟩ = some (.slice (some ⟨gA, 0, none⟩) S.n c) := blk_cell (OS3.out.mid.blk B1.out (.inr (Nat.le_refl _))) (j := 0) rfl
        have z3 := (OS3.out.cells hlt).1
        clear hG R1 R2 hin OS2 OL2 x2 z1 z2 hsz2 RW hr2
        go_wp2_with (at_builtin; go_loud (refine wpList_append_lies _ rfl _ _ _ rfl n3 40 i1 _ 2 40 Tryd.underlying23 hi1 hy0 hy1 hy2 rfl (by omega) ov k (rowCells S.nm gr k) rfl (OL3.out.row.alloc _) ⟨W3.heap.size, 0, none⟩ 1 1 [.string (S.nm k), .slice Ag (S.ln k + 3) cg] rfl rfl (World.news_of_block (cs := #[.string (S.nm k), .slice Ag (S.ln k + 3) cg]) (t := 40) (fr := (0, 0)) (heap_alloc_new W3 _)) (by simp [Value.oneCell']) (by omega) (by unfold maxLen; omega) (by omega) (by simp; omega) (W3.heap.size + 1) (by simp) ?_; intro gg gcap W4 hown4 hgrow hat4 hlt4))
        have OS4 := Lib.hid ((OS3.out.alloc (.cells #[.string (S.nm k), .slice Ag (S.ln k + 3) cg] 40)).push HF.out (OL3.out.alloc _) hs3 hw3 hgrow)
        have OL4 := Lib.hid ((OL3.out.alloc (.cells #[.string (S.nm k), .slice Ag (S.ln k + 3) cg] 40)).push hgrow hown4 (RT.out.alloc _) HIN.out)
        go_roundw
        case rel => exact ⟨k + 1, _, _, by omega, by go_num, rfl, OS4, OL4⟩
        case measure => simp [intOf]; omega
      · obtain rfl : k = S.n := by omega
        clear hlt
        obtain ⟨go, oc, hov, _, _⟩ := OL.out.row.form h0
        subst hov
        have HSZ := Lib.hid hsz
        clear hsz
        go_wp2_with fail
        go_loopw [14] (fun i w2 => ∃ k : Nat, k ≤ S.n ∧ i = .int .i64 k ∧ Below W1.heap.size W1 w2) (fun i _ => S.n - (intOf i).toNat)
        case atStart => exact ⟨0, Nat.zero_le _, rfl, Below.refl _ _⟩
        case round =>
          obtain ⟨k, hk, rfl, hbk⟩ := hrel
          obtain ⟨W2, e2⟩ : ∃ W2 : World, W2 = wr := ⟨_, rfl⟩
          subst e2
          by_cases hlt : k < S.n
          · have OS2 := Lib.hid (OS.out.below hbk)
            have OL2 := Lib.hid (OL.out.below hbk)
            have x2 : W2.cell? ⟨sb, 0, none⟩ = some (.slice (some ⟨gA, 0, none⟩) S.n c) := blk_cell (OS2.out.mid.blk B1.out (.inr (Nat.le_refl _))) (j := 0) rfl
            have t2 : W2.cell? ⟨wb, 0, none⟩ = some (.slice A5 S.n c5) := blk_cell (OS2.out.mid.blk B5.out (.inr (by omega))) (j := 0) rfl
            have TW2 := Lib.hid (TW.out.mid OS2.out.mid (Nat.le_refl _)).rd
            obtain ⟨b5, off5, rfl, hbl5, hcs5⟩ := TW2.out.2 (by omega)
            obtain ⟨_, a5, ac5, t3, hst5⟩ := hcs5 k hlt
            obtain ⟨_, y2⟩ := OS2.out.cells hlt
            obtain ⟨aa, ac, hsl, hac, hat⟩ := OS2.out.attr hlt
            have hst := own_str (w := W2) (by have h := OS2.out.satr k hlt; rw [hsl] at h; exact h) (by have := HLN.out k hlt; omega)
            rw [hsl] at y2
            have hl8 := HLN.out k hlt
            obtain ⟨gm, cm, hgr, hcm, hgl, hgs, v1, v2⟩ := OL2.out.attr hlt hl8
            have u2 : W2.cell? ⟨go, k * 2 + 1, none⟩ = some (.slice (some ⟨gm, 0, none⟩) (S.ln k + 3) cm) := by rw [OL2.out.row.cellAt (k * 2 + 1) (by omega), (rowCells_at S.nm gr hlt).2, hgr]
            have hcv := run_mk3 k W2
            have hm1 : 0 ≤ (k : Int) % 26 := by omega
            have hm2 : (k : Int) % 26 < 26 := by omega
            have hm3 : 0 ≤ (k : Int) / 26 % 26 := by omega
            have hm4 : (k : Int) / 26 % 26 < 26 := by omega
            have HS1 := Lib.hid hgs
            have HS2 := Lib.hid hst5
            have HS3 := Lib.hid hst
            clear hsl hat hcs5 hgr hgs hst5 hst
            go_upto_region 20 with fail
            clear hcv hm1 hm2 hm3 hm4
            have hb3 := bnew hbk (.cells #[.int .u8 109, .int .u8 (97 + (k : Int) % 26), .int .u8 (97 + (k : Int) / 26 % 26)] 5)
            have hbn := bnew (Below.refl W2.heap.size W2) (.cells #[.int .u8 109, .int .u8 (97 + (k : Int) % 26), .int .u8 (97 + (k : Int) / 26 % 26)] 5)
            replace HS1 := Lib.hid (HS1.out.later hbn)
            replace HS2 := Lib.hid (HS2.out.later hbn)
            replace HS3 := Lib.hid (HS3.out.later hbn)
            replace x2 := cell_alloc x2 (.cells #[.int .u8 109, .int .u8 (97 + (k : Int) % 26), .int .u8 (97 + (k : Int) / 26 % 26)] 5)
            replace t2 := cell_alloc t2 (.cells #[.int .u8 109, .int .u8 (97 + (k : Int) % 26), .int .u8 (97 + (k : Int) / 26 % 26)] 5)
            replace t3 := cell_alloc t3 (.cells #[.int .u8 109, .int .u8 (97 + (k : Int) % 26), .int .u8 (97 + (k : Int) / 26 % 26)] 5)
            replace y2 := cell_alloc y2 (.cells #[.int .u8 109, .int .u8 (97 + (k : Int) % 26), .int .u8 (97 + (k : Int) / 26 % 26)] 5)
            replace u2 := cell_alloc u2 (.cells #[.int .u8 109, .int .u8 (97 + (k : Int) % 26), .int .u8 (97 + (k : Int) / 26 % 26)] 5)
            replace v1 := cell_alloc v1 (.cells #[.int .u8 109, .int .u8 (97 + (k : Int) % 26), .int .u8 (97 + (k : Int) / 26 % 26)] 5)
            replace v2 := cell_alloc v2 (.cells #[.int .u8 109, .int .u8 (97 + (k : Int) % 26), .int .u8 (97 + (k : Int) / 26 % 26)] 5)
            clear OS2 OL2 TW2 hbk hbl5 hgl hbn
            generalize W2.alloc _ = W3 at *
            obtain ⟨mm, hmm⟩ : ∃ m, mk3 k = m := ⟨_, rfl⟩
            rw [hmm] at v1 v2
            try rw [hmm]
            clear hmm
            have q1 : (mm.toList == mm.toList) = true := beq_self_eq_true _
            have q2 : (mm.toList != mm.toList) = false := by simp
            go_quiet (first | (go_at_call 30; refine Calls.quiet_of (sameList_same _ _ _ _ _ (S.atr k) _ ?_ ?_) <;> first | exact HS2.out.drewN _ | exact HS1.out.drewN _ | exact HS3.out.drewN _))
            go_wp2_with fail
            go_roundw
            case rel => exact ⟨k + 1, by omega, by go_num, bdrewN hb3 _⟩
            case measure => simp [intOf]; omega
          · obtain rfl : k = S.n := by omega
            replace OS := Lib.hid (OS.out.below hbk)
            have hszk : n3 ≤ W2.heap.size := Nat.le_trans HSZ.out hbk.size
            have x2 : W2.cell? ⟨sb, 0, none⟩ = some (.slice (some ⟨gA, 0, none⟩) S.n c) := blk_cell (OS.out.mid.blk B1.out (.inr (Nat.le_refl _))) (j := 0) rfl
            clear OL hbk hlt hk HSZ
            go_upto_region 22 with fail
            go_upto_region 23 with (at_builtin; go_loud (refine wpList_append_apart _ rfl _ _ _ rfl n0 40 i1 _ 2 40 Tryd.underlying23 hi1 hy0 hy1 hy2 rfl (by omega) (Value.slice (some ⟨gA, 0, none⟩) S.n c) _ _ rfl (World.ownsRow.alloc OS.out.srow _) (by rw [World.size_alloc]; omega) ⟨_, 0, none⟩ 2 2 [.string ⟨#[111, 110, 101]⟩, .slice none 0 0, .string ⟨#[116, 119, 111]⟩, .slice none 0 0] rfl rfl (by omega) (World.news_of_block (cs := #[.string ⟨#[111, 110, 101]⟩, .slice none 0 0, .string ⟨#[116, 119, 111]⟩, .slice none 0 0]) (t := 40) (fr := (0, 0)) (heap_alloc_new _ _)) (by simp [Value.oneCell']) (by unfold maxLen; omega) (by omega) ?_; intro Am cm W3 R1 R2 hG hin))
            replace OS := Lib.hid ((OS.out.alloc _).more HF.out hG R2)
            have hsz3 : n3 ≤ W3.heap.size := by have := hG.size; rw [World.size_alloc] at this; omega
            clear hG R1 R2 hin x1 x2 hszk
            go_wp2_with fail
            go_loopw [18] (fun i wr => ∃ k : Nat, k ≤ S.n ∧ i = .int .i64 k ∧ Hid (OwS n0 sb w6 wr (spS S k 0) sl (.slice (some ⟨gA, 0, none⟩) S.n c))) (fun i _ => S.n - (intOf i).toNat)
            case atStart => exact ⟨0, Nat.zero_le _, rfl, by rw [spS_zero]; exact OS⟩
            case round =>
              clear OS
              obtain ⟨k, hk, rfl, OS⟩ := hrel
              obtain ⟨W4, e4⟩ : ∃ W4 : World, W4 = wr := ⟨_, rfl⟩
              subst e4
              by_cases hlt : k < S.n
              · have x4 : W4.cell? ⟨sb, 0, none⟩ = some (.slice (some ⟨gA, 0, none⟩) S.n c) := blk_cell (OS.out.mid.blk B1.out (.inr (Nat.le_refl _))) (j := 0) rfl
                go_wp2_with fail
                go_loopw [19] (fun i wr => ∃ m : Nat, m ≤ S.ln k ∧ i = .int .i64 m ∧ Hid (OwS n0 sb w6 wr (spS S k m) sl (.slice (some ⟨gA, 0, none⟩) S.n c))) (fun i _ => S.ln k - (intOf i).toNat)
                case atStart => exact ⟨0, Nat.zero_le _, rfl, OS⟩
                case round =>
                  clear OS x4
                  obtain ⟨m, hm, rfl, OS⟩ := hrel
                  obtain ⟨W5, e5⟩ : ∃ W5 : World, W5 = wr := ⟨_, rfl⟩
                  subst e5
                  have hx : W5.cell? ⟨sb, 0, none⟩ = some (.slice (some ⟨gA, 0, none⟩) S.n c) := blk_cell (OS.out.mid.blk B1.out (.inr (Nat.le_refl _))) (j := 0) rfl
                  have z1 := (OwS.cells (S := spS S k m) OS.out hlt).2
                  obtain ⟨aa, ac, hsl, hac, hat⟩ := OwS.attr (S := spS S k m) OS.out hlt
                  have hsl : sl k = .slice aa (S.ln k) ac := hsl
                  have hac : S.ln k ≤ ac := hac
                  rw [hsl] at z1
                  have hl8 := HLN.out k hlt
                  by_cases hlm : m < S.ln k
                  · obtain ⟨g2, rfl, hgl2, hcs⟩ := hat (show 0 < S.ln k by omega)
                    obtain ⟨y1, y2⟩ := hcs m hlm
                    obtain ⟨old, hold⟩ : ∃ u, (spS S k m).atr k m = u := ⟨_, rfl⟩
                    rw [hold] at y1
                    have hcv := fun w => run_ltr_drew k w
                    have xA := fun o => cell_alloc hx o
                    have zA := fun o => cell_alloc z1 o
                    have yA := fun o => cell_alloc y1 o
                    have fA := fun o => frozen_alloc hgl2 y2 o
                    have hz1 := ltr_size k
                    have O2 := OwS.setAttr (S := spS S k m) OS.out ⟨HF.out.lt, HF.out.ltv, HF.out.dist⟩ (j := k) hlt hsl m (spT k)
                    rw [spS_next] at O2
                    have OS2 := Lib.hid (O2.alloc (.cells #[.int .u8 (97 + (k : Int) % 26)] 5)).drew
                    clear hcs hat hsl O2 hold OS
                    go_wp2_with fail
                    go_region
                    go_wp2_with fail
                    go_roundw
                    case rel => exact ⟨m + 1, by omega, by go_num, OS2⟩
                    case measure => simp [intOf]; omega
                  · obtain rfl : m = S.ln k := by omega
                    have OS2 := Lib.hid OS.out.turn
                    clear hat hsl OS
                    go_wp2_with fail
                    go_roundw
                    case rel => exact ⟨k + 1, by omega, by go_num, OS2⟩
                    case measure => simp [intOf]; omega
              · obtain rfl : k = S.n := by omega
                clear hlt hk
                have x4 : W4.cell? ⟨sb, 0, none⟩ = some (.slice (some ⟨gA, 0, none⟩) S.n c) := blk_cell (OS.out.mid.blk B1.out (.inr (Nat.le_refl _))) (j := 0) rfl
                have OT := Lib.hid (OwS.toT OS.out)
                clear OS
                go_wp2_with fail
                go_loopw [20] (fun i wr => ∃ k : Nat, k ≤ S.n ∧ i = .int .i64 k ∧ Hid (OwT n0 sb w6 wr (spS S S.n 0) sl (.slice (some ⟨gA, 0, none⟩) S.n c) k)) (fun i _ => S.n - (intOf i).toNat)
                case atStart => exact ⟨0, Nat.zero_le _, rfl, OT⟩
                case round =>
                  clear OT x4
                  obtain ⟨k, hk, rfl, OT⟩ := hrel
                  obtain ⟨W5, e5⟩ : ∃ W5 : World, W5 = wr := ⟨_, rfl⟩
                  subst e5
                  have hx : W5.cell? ⟨sb, 0, none⟩ = some (.slice (some ⟨gA, 0, none⟩) S.n c) := blk_cell (OT.out.mid.blk B1.out (.inr (Nat.le_refl _))) (j := 0) rfl
                  by_cases hlt : k < S.n
                  · go_wp2_with fail
                    go_loopw [21] (fun i wr => ∃ m : Nat, m ≤ S.ln k ∧ i = .int .i64 m ∧ Below W5.heap.size W5 wr) (fun i _ => S.ln k - (intOf i).toNat)
                    case atStart => exact ⟨0, Nat.zero_le _, rfl, Below.refl _ _⟩
                    case round =>
                      clear hx
                      obtain ⟨m, hm, rfl, hb5⟩ := hrel
                      obtain ⟨W6, e6⟩ : ∃ W6 : World, W6 = wr := ⟨_, rfl⟩
                      subst e6
                      replace OT := Lib.hid (OT.out.below hb5)
                      have hx : W6.cell? ⟨sb, 0, none⟩ = some (.slice (some ⟨gA, 0, none⟩) S.n c) := blk_cell (OT.out.mid.blk B1.out (.inr (Nat.le_refl _))) (j := 0) rfl
                      obtain ⟨z1, ⟨u0, z0⟩, f0, f1⟩ := OwT.cells (S := spS S S.n 0) OT.out (show k < (spS S S.n 0).n from hlt)
                      obtain ⟨aa, ac, hsl, hac, hat⟩ := OwT.attr (S := spS S S.n 0) OT.out (show k < (spS S S.n 0).n from hlt)
                      have hsl : sl k = .slice aa (S.ln k) ac := hsl
                      have hac : S.ln k ≤ ac := hac
                      rw [hsl] at z1
                      have hl8 := HLN.out k hlt
                      by_cases hlm : m < S.ln k
                      · obtain ⟨g2, rfl, hgl2, hcs⟩ := hat (show 0 < S.ln k by omega)
                        have y1 := hcs m hlm
                        rw [spS_done S hlt] at y1
                        have hcv := fun w => run_ltr_drew k w
                        have hy : spT k = ⟨#[115, 112, 111, 105, 108, 116]⟩ ++ ltr k := rfl
                        rw [hy] at y1
                        clear hy
                        have xA := fun o => cell_alloc hx o
                        have zA := fun o => cell_alloc z1 o
                        have yA := fun o => cell_alloc y1 o
                        have hz1 := ltr_size k
                        have q1 : (((⟨#[115, 112, 111, 105, 108, 116]⟩ : ByteArray) ++ ltr k).toList == ((⟨#[115, 112, 111, 105, 108, 116]⟩ : ByteArray) ++ ltr k).toList) = true := beq_self_eq_true _
                        have q2 : (((⟨#[115, 112, 111, 105, 108, 116]⟩ : ByteArray) ++ ltr k).toList != ((⟨#[115, 112, 111, 105, 108, 116]⟩ : ByteArray) ++ ltr k).toList) = false := by simp
                        have hb7 := bdrew (bnew hb5 (.cells #[.int .u8 (97 + (k : Int) % 26)] 5))
                        clear hcs hat hsl z0 f0 f1
                        go_wp2_with fail
                        go_region
                        go_wp2_with fail
                        go_roundw
                        case rel => exact ⟨m + 1, by omega, by go_num, hb7⟩
                        case measure => simp [intOf]; omega
                      · obtain rfl : m = S.ln k := by omega
                        have OT2 := Lib.hid (OwT.step (S := spS S S.n 0) OT.out ⟨HF.out.lt, HF.out.ltv, HF.out.dist⟩ (.string ⟨#[115, 112, 111, 105, 108, 116]⟩) (.slice none 0 0))
                        clear hat hsl
                        go_wp2_with fail
                        go_roundw
                        case rel => exact ⟨k + 1, by omega, by go_num, OT2⟩
                        case measure => simp [intOf]; omega
                  · obtain rfl : k = S.n := by omega
                    have MD := Lib.hid OT.out.mid
                    have hbW : Below w.heap.size w W5 := ⟨MD.out.os.trans hb6.os, MD.out.tape.trans hb6.tape, MD.out.output.trans hb6.output, Nat.le_trans hb6.size MD.out.size, fun i hi => (MD.out.block i (by have := hb6.size; omega) (.inl (by omega))).trans (hb6.block i hi)⟩
                    have TF5 := Lib.hid (TF.out.mid MD.out (Nat.le_refl _)).rd
                    have TW5 := Lib.hid (TW.out.mid MD.out (Nat.le_refl _)).rd
                    have BF5 := Lib.hid (MD.out.blk B3.out (.inr (by omega)))
                    have BW5 := Lib.hid (MD.out.blk B5.out (.inr (by omega)))
                    clear OT MD hlt hk
                    go_wp2_with fail
                    refine (parseSchema_any text _ (block_below HK.out hbW)).mono ?_
                    intro e w7 hend
                    obtain ⟨A7, c7, rfl, hb7, ho7⟩ := HEND.out _ _ _ hend
                    clear hend
                    replace hbW := bnew (bcall hbW hb7) (.cells #[.slice A7 S.n c7] 25)
                    have hbn := bnew hb7 (.cells #[.slice A7 S.n c7] 25)
                    replace TF5 := Lib.hid (TF5.out.later hbn)
                    replace TW5 := Lib.hid (TW5.out.later hbn)
                    have TT := Lib.hid (ho7.below (bnew (Below.refl _ _) (.cells #[.slice A7 S.n c7] 25))).rd
                    have f7 : (w7.alloc (.cells #[.slice A7 S.n c7] 25)).cell? ⟨fb, 0, none⟩ = some (.slice A3 S.n c3) := blk_cell (blk_below BF5.out hbn) (j := 0) rfl
                    have g7 : (w7.alloc (.cells #[.slice A7 S.n c7] 25)).cell? ⟨wb, 0, none⟩ = some (.slice A5 S.n c5) := blk_cell (blk_below BW5.out hbn) (j := 0) rfl
                    have t7 : (w7.alloc (.cells #[.slice A7 S.n c7] 25)).cell? ⟨w7.heap.size, 0, none⟩ = some (.slice A7 S.n c7) := by simp [go_sem]
                    clear ho7 hb7 hbn BF5 BW5
                    obtain ⟨tb, htb⟩ : ∃ tb, w7.heap.size = tb := ⟨_, rfl⟩
                    go_upto_region 40 with fail
                    generalize w7.alloc _ = w8 at *
                    rw [htb] at t7
                    try rw [htb]
                    clear htb
                    go_wp2_with fail
                    refine (sameSchema_same A7 A5 c7 c5 S _ TT.out TW5.out).mono ?_
                    rintro e w9 ⟨rfl, hb89⟩
                    have f9 := rd_later f7 hb89
                    have g9 := rd_later g7 hb89
                    replace hbW := bcall hbW hb89
                    replace TF5 := Lib.hid (TF5.out.later hb89)
                    replace TW5 := Lib.hid (TW5.out.later hb89)
                    clear f7 g7 t7 hb89
                    go_wp2_with fail
                    refine (sameSchema_same A3 A5 c3 c5 S _ TF5.out TW5.out).mono ?_
                    rintro e w10 ⟨rfl, hb90⟩
                    have f10 := rd_later f9 hb90
                    have g10 := rd_later g9 hb90
                    replace hbW := bcall hbW hb90
                    clear f9 g9 hb90
                    go_wp2_with fail
                    go_ret
                    exact ⟨ret_bool (by simp), hbW⟩
set_option maxRecDepth 8000 in
set_option maxHeartbeats 2000000 in
theorem eventOwn_main {H : Type} {enc : TypeId × Value → H} (W : World) (base : Nat) {v0 : Value} {d0 : DataW H} {p0 : List MemPlace} {X C S : Prop}
    (o0 : Value.okWide Tryd.prog W .any base 9 v0) (h0 : DataW.Trod enc Tryd.prog W 0 (fun _ => true) true 9 v0 d0 p0)
    (_ : X) (hz : ReachedAll Tryd.prog ([9] ++ (OpenSpec.ofChange Rows.eventOwnSpec).bare.plain.varTypes Tryd.prog) ([d0] ++ [])) (_ : C)
    (h : laidMetH Tryd.prog Rows.eventOwnRow.laid W) (_ : S) :
    Calls Tryd.prog 10 #[v0] W fun e W' => e = .returned (.bool true) ∧ Below W.heap.size W W' := by
  have hv0 := kwVar (laid := Rows.eventOwnRow.laid) h 5 rfl
  have hv1 := errVar (laid := Rows.eventOwnRow.laid) h 3 rfl
  obtain ⟨t0, f0, g0⟩ := var_block gKeywords hv0
  obtain ⟨s, rfl, rfl, rfl, hmax⟩ := Go.ChangeMaps.open_string Tryd.underlying9 o0 h0
  exact eventOwn_walk s W hv1 g0
end Go.Proofs.YtppeonlpocdhkaaDoor

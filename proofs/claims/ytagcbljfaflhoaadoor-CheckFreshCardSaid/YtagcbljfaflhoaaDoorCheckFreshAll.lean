/-
  Several texts in one: FreshKit, CheckFreshWalk, CheckFreshProof.
-/
import Derived.Test.YtagcbljfaflhoaaDoorMark
import Derived.Test.YtagcbljfaflhoaaDoorUsesWalk
import Derived.Test.YtagcbljfaflhoaaDoorAnew
import Derived.Test.YtagcbljfaflhoaaDoorRefTree
import Derived.Test.YtagcbljfaflhoaaDoorKwVar
import Derived.Laws.StructEq
import Derived.Test.YtagcbljfaflhoaaDoorCards
import Derived.Test.YtagcbljfaflhoaaDoorTie
set_option linter.unusedSimpArgs false
set_option linter.unusedVariables false
/-! ### Lists that are grown and written full: which blocks stay. -/
namespace Go.Proofs.YtagcbljfaflhoaaDoor
open Go.RowKit Go.ChangeShapes Go.WideShapes Go.ChangeAt Go.Deep Go.Joins
/-- 'append(s, ..)', s a row of the call's own: s itself stays; the longer row lies in its block or in a new one. -/
theorem wpList_append_apart {P : Program} (w : World) {ops : Array Oper} {rest : List Oper} {o : Oper} {a : Act} {Q : Exit → Act → World → Prop}
    (hg : o.guard = none) (s x : Operand) (t : TypeId) (hop : o.op = Op.call { callee := Callee.builtin Builtin.append, args := #[s, x], argTypes := #[t, t] })
    (base : Nat) (e : TypeId) (i : TypeInfo) (z : Value) (size bytes : Nat) (h1 : P.underlying t = some (.slice e)) (h2 : P.info? e = some i) (h3 : i.zero = some z) (h4 : i.size = size) (h5 : i.bytes = bytes) (h6 : z.cells.size = size) (h7 : 0 < size)
    (v : Value) (n : Nat) (xs : List Value) (hs : a.eval s = v) (hown : w.ownsRow base e size v n xs) (hbase : base ≤ w.heap.size)
    (ad : Addr) (m c : Nat) (news : List Value) (hx : a.eval x = .slice (some ad) m c) (hn : news.length = m * size) (hm : 0 < m) (hc : ∀ j u, news[j]? = some u → w.cell? (ad.add j) = some u) (h1c : ∀ u ∈ news, u.oneCell' = true)
    (b1 : n + m ≤ maxLen) (b2 : (n + m) * bytes ≤ 140737488355328)
    (hK : ∀ A' c' w', w'.ownsRow base e size (.slice A' (n + m) c') (n + m) (xs ++ news) → w'.ownsRow base e size v n xs → w.grownBy w' v.ownBlock → (∀ g, Value.ownBlock (.slice A' (n + m) c') = some g → v.ownBlock = some g ∨ w.heap.size ≤ g) → wpList P ops Q rest (a.put o.dst (.slice A' (n + m) c')) w') :
    wpList P ops Q (o :: rest) a w := by
  obtain ⟨A, cap, rfl, hle, hz⟩ := rowown_shape hown
  by_cases hroom : n + m ≤ cap
  · rcases hown.2 with ⟨hv, h0⟩ | ⟨g, cap', cur, hv, _⟩
    · injection hv with _ _ hv
      omega
    · injection hv with hv1 _ hv2
      subst hv1 hv2
      refine wpList_append_fits w hg s x t hop base e i size h1 h2 h4 g n cap xs hs hown ad m c news hx hn hc h1c hroom fun w' r1 r2 => hK _ _ w' r1 ?_ r2 (fun g' hg' => .inl hg')
      refine ⟨hown.1, .inr ?_⟩
      rcases r1.2 with ⟨hv, _⟩ | ⟨g2, cap2, cur2, hv, k1, k2, k3, k4, k5, k6⟩
      · simp at hv
      · injection hv with hv1 _ hv2
        simp only [Option.some.injEq, Addr.mk.injEq, and_true] at hv1
        subst hv1 hv2
        refine ⟨g, cap, cur2, rfl, k1, k2, hle, k4, k5, ?_⟩
        have e1 : cur2.toList.take (n * size) = (cur2.toList.take ((n + m) * size)).take (n * size) := by
          rw [List.take_take, Nat.min_eq_left (Nat.mul_le_mul_right _ (by omega))]
        rw [e1, k6, List.take_append_of_le_length (by rw [hown.1]; exact Nat.le_refl _), List.take_of_length_le (by rw [hown.1]; exact Nat.le_refl _)]
  · refine wpList_append_grows w hg s x t hop e i z size bytes h1 h2 h3 h4 h5 h6 h7 A n cap xs hs (fun h => ⟨by have := hz h; omega, hz h⟩) hown.1 (fun b hb j u hu => ?_) ad m c news hx hn hc h1c (by omega) b1 b2 fun v' w' r1 r2 => ?_
    · subst hb
      have hb0 := World.ownsRow.cells hown (g := b.block) rfl j u hu
      rcases hown.2 with ⟨hv, _⟩ | ⟨g, cap', cur, hv, _⟩
      · simp at hv
      · injection hv with hv1
        injection hv1 with hv1
        subst hv1
        exact hb0
    · obtain ⟨A', c', rfl, _⟩ := rowown_shape r1
      refine hK A' c' w' (own_wide r1 hbase) (hown.kept r2 ?_) ⟨r2.os, r2.tape, r2.output, r2.size, fun k hk _ => r2.block k hk (by simp)⟩ (fun g hg => .inr (r1.lt g hg).1)
      cases (Value.slice A n cap).ownBlock <;> simp
/-- All that lay below zk, and from zs on, is as it was. -/
structure Mid (zk zs : Nat) (w w' : World) : Prop where
  os : w'.os = w.os
  tape : w'.tape = w.tape
  output : w'.output = w.output
  size : w.heap.size ≤ w'.heap.size
  block : ∀ i, i < w.heap.size → (i < zk ∨ zs ≤ i) → w'.heap[i]? = w.heap[i]?
theorem Mid.refl (zk zs : Nat) (w : World) : Mid zk zs w w := ⟨rfl, rfl, rfl, Nat.le_refl _, fun _ _ _ => rfl⟩
theorem Mid.trans {zk zs : Nat} {w w1 w2 : World} (h : Mid zk zs w w1) (h' : Mid zk zs w1 w2) : Mid zk zs w w2 :=
  ⟨h'.os.trans h.os, h'.tape.trans h.tape, h'.output.trans h.output, Nat.le_trans h.size h'.size, fun i hi hc => (h'.block i (Nat.lt_of_lt_of_le hi h.size) hc).trans (h.block i hi hc)⟩
theorem Mid.grown {zk zs : Nat} {w w1 w2 : World} {v : Value} (h : Mid zk zs w w1) (hg : w1.grownBy w2 v.ownBlock) (hr : ∀ g, v.ownBlock = some g → zk ≤ g ∧ g < zs) : Mid zk zs w w2 :=
  h.trans ⟨hg.os, hg.tape, hg.output, hg.size, fun i hi hc => hg.block i hi (fun e => by have := hr i e.symm; omega)⟩
theorem Mid.below {zk zs : Nat} {w w1 w2 : World} (h : Mid zk zs w w1) (hb : Below w1.heap.size w1 w2) : Mid zk zs w w2 :=
  h.trans ⟨hb.os, hb.tape, hb.output, hb.size, fun i hi _ => hb.block i hi⟩
/-- A row behind zs. -/
theorem Mid.own {zk zs : Nat} {w w' : World} {B n sz : Nat} {e : TypeId} {v : Value} {xs : List Value} (h : Mid zk zs w w') (ho : w.ownsRow B e sz v n xs) (hB : zs ≤ B) : w'.ownsRow B e sz v n xs := by
  refine ⟨ho.1, ?_⟩
  rcases ho.2 with hn | ⟨g, cap, cur, rfl, hb, hg, rest⟩
  · exact .inl hn
  · refine .inr ⟨g, cap, cur, rfl, hb, ?_, rest⟩
    rw [h.block g (Array.getElem?_eq_some_iff.1 hg).1 (.inr (Nat.le_trans hB hb))]
    exact hg
/-- A row ahead of zk. -/
theorem Mid.own0 {zk zs : Nat} {w w' : World} {B n sz : Nat} {e : TypeId} {v : Value} {xs : List Value} (h : Mid zk zs w w') (ho : w.ownsRow B e sz v n xs) (hlt : ∀ g, v.ownBlock = some g → g < zk) : w'.ownsRow B e sz v n xs := by
  refine ⟨ho.1, ?_⟩
  rcases ho.2 with hn | ⟨g, cap, cur, rfl, hb, hg, rest⟩
  · exact .inl hn
  · refine .inr ⟨g, cap, cur, rfl, hb, ?_, rest⟩
    rw [h.block g (Array.getElem?_eq_some_iff.1 hg).1 (.inl (hlt g rfl))]
    exact hg
theorem Mid.blk {zk zs b : Nat} {w w' : World} {o : Obj} (h : Mid zk zs w w') (ho : w.heap[b]? = some o) (hb : b < zk ∨ zs ≤ b) : w'.heap[b]? = some o :=
  (h.block b (Array.getElem?_eq_some_iff.1 ho).1 hb).trans ho
theorem Mid.low {zk zs : Nat} {w0 w w' : World} (h : Mid zk zs w w') (hb : Below w0.heap.size w0 w) (hz : w0.heap.size ≤ zk) : Below w0.heap.size w0 w' :=
  ⟨h.os.trans hb.os, h.tape.trans hb.tape, h.output.trans hb.output, Nat.le_trans hb.size h.size, fun i hi => (h.block i (Nat.lt_of_lt_of_le hi hb.size) (.inl (Nat.lt_of_lt_of_le hi hz))).trans (hb.block i hi)⟩
/-- A marked node. -/
def mrk (i : Nat) : Nod := ⟨1, i, ⟨#[109, 97, 114, 107]⟩, ⟨#[]⟩, 0, 0⟩
def mrkF (D : Nat → Nod) (k : Nat) : Nat → Nod := fun j => if j < k then mrk j else D j
theorem mrkF_zero (D : Nat → Nod) : mrkF D 0 = D := by funext j; simp [mrkF]
theorem mrkF_next (D : Nat → Nod) (k : Nat) : upd1 (mrkF D k) k (mrk k) = mrkF D (k + 1) := by
  funext j
  unfold upd1 mrkF
  by_cases e : j = k
  · subst e
    rw [if_pos rfl, if_pos (by omega)]
  · by_cases h : j < k
    · rw [if_neg e, if_pos h, if_pos (by omega)]
    · rw [if_neg e, if_neg h, if_neg (by omega)]
/-- A row of the call's own stays while another one is written to. -/
theorem own_apart {w w' : World} {B n sz : Nat} {e : TypeId} {v v' : Value} {xs : List Value} (h : w.ownsRow B e sz v n xs) (hg : w.grownBy w' v'.ownBlock) (hne : ∀ g, v'.ownBlock = some g → v.ownBlock ≠ some g) : w'.ownsRow B e sz v n xs := rowown_kept h hg hne
end Go.Proofs.YtagcbljfaflhoaaDoor

/-! ### The walk of the law CheckFresh; its arguments opened. -/
namespace Go.Proofs.YtagcbljfaflhoaaDoor
open Go.RowKit Go.ChangeShapes Go.WideShapes Go.ChangeAt Go.Deep Go.Joins
theorem own_cells {w : World} {B n sz c : Nat} {e : TypeId} {A : Option Addr} {xs : List Value} (h : w.ownsRow B e sz (.slice A n c) n xs) (hn : 0 < n) : ∃ g, A = some ⟨g, 0, none⟩ ∧ ∀ j, j < n * sz → w.cell? ⟨g, j, none⟩ = xs[j]? := by
  rcases h.2 with ⟨hv, h0⟩ | ⟨g, c', cur, hv, _⟩
  · omega
  · injection hv with hv1 hv2 hv3
    subst hv1 hv3
    exact ⟨g, rfl, fun j hj => World.ownsRow.cellAt h j hj⟩
theorem tail_at {xs news : List Value} {i j : Nat} {u : Value} (hj : j = xs.length + i) (h : news[i]? = some u) : (xs ++ news)[j]? = some u := by
  subst hj
  rw [List.getElem?_append_right (by omega), show xs.length + i - xs.length = i by omega]
  exact h
set_option maxRecDepth 100000 in
set_option maxHeartbeats 16000000 in
theorem checkFresh_walk (V : QryV) (Q : Qry) (A : Option Addr) (n cap : Nat) (f : Nat → Nod) (root : Int) (w : World) (h : QryRd w w.heap.size V Q) (hwf : QryWf Q) (hl : n ≤ cap) (hA : A = none → cap = 0) (hT : NodRd w w.heap.size A n f) (hN : ∀ j, j < n → NodWf (f j)) {tt : TypeId} {fr : Nat × Nat} (hkw : w.heap[0]? = some (.cells kwArr tt fr)) :
    Calls Tryd.prog 10 #[.agg (qryArr V Q), .slice A n cap, .int .i64 root] w fun e w' => e = .returned (.bool true) ∧ Below w.heap.size w w' := by
  obtain ⟨aI, cI, aW, cW, aR, cR⟩ := V
  show Calls _ _ #[.agg #[.slice aI Q.n cI, .int .i64 Q.mode, .int .i64 Q.after, .slice aW Q.wn cW, .int .i64 Q.within, .string Q.by_, .slice aR Q.m cR], _, _] w _
  have hn6 : n * 64 ≤ 140737488351232 := hT.1
  have hn := hT.small
  have hnI := h.rI.small
  obtain ⟨i0, hi0, hy0, hy1, hy2⟩ := info_parts infoNode
  obtain ⟨i1, hi1, hx0, hx1, hx2⟩ := info_parts infoInt
  have hb0 := bnew (Below.refl w.heap.size w) (.cells #[.slice aI Q.n cI, .int .i64 Q.mode, .int .i64 Q.after, .slice aW Q.wn cW, .int .i64 Q.within, .string Q.by_, .slice aR Q.m cR] 40)
  have BX := Lib.hid (blk_new w #[.slice aI Q.n cI, .int .i64 Q.mode, .int .i64 Q.after, .slice aW Q.wn cW, .int .i64 Q.within, .string Q.by_, .slice aR Q.m cR] 40)
  have hz0 : w.heap.size < (w.alloc (.cells #[.slice aI Q.n cI, .int .i64 Q.mode, .int .i64 Q.after, .slice aW Q.wn cW, .int .i64 Q.within, .string Q.by_, .slice aR Q.m cR] 40)).heap.size := by simp
  have HQ := Lib.hid h
  have HT := Lib.hid hT
  have HK := Lib.hid hkw
  have HWF := Lib.hid hwf
  have HNW := Lib.hid hN
  have HA := Lib.hid hA
  have hms : sizeI n f root ≤ n := size_le
  have hcl := conj_len (n := n) (f := f)
  have hu1 : (usesL bareB Q.n Q.it f n Q.n).length ≤ Q.n := uses_len
  have hu2 : (usesL prevB Q.n Q.it f n Q.n).length ≤ Q.n := uses_len
  have hu3 : (usesL aggB Q.n Q.it f n Q.n).length ≤ Q.n := uses_len
  obtain ⟨m, hm⟩ : ∃ m, sizeI n f root = m := ⟨_, rfl⟩
  obtain ⟨gs, hgs⟩ : ∃ g, subF n f root = g := ⟨_, rfl⟩
  obtain ⟨L, hL⟩ : ∃ L, conjL n f = L := ⟨_, rfl⟩
  obtain ⟨U1, hU1⟩ : ∃ L, usesL bareB Q.n Q.it f n Q.n = L := ⟨_, rfl⟩
  obtain ⟨U2, hU2⟩ : ∃ L, usesL prevB Q.n Q.it f n Q.n = L := ⟨_, rfl⟩
  obtain ⟨U3, hU3⟩ : ∃ L, usesL aggB Q.n Q.it f n Q.n = L := ⟨_, rfl⟩
  have HM := Lib.hid hm
  have HGS := Lib.hid hgs
  have HL := Lib.hid hL
  have HU1 := Lib.hid hU1
  have HU2 := Lib.hid hU2
  have HU3 := Lib.hid hU3
  rw [hm] at hms
  rw [hL] at hcl
  rw [hU1] at hu1
  rw [hU2] at hu2
  rw [hU3] at hu3
  clear h hT hkw hwf hN hA hm hgs hL hU1 hU2 hU3
  go_enter Tryd.func10, Tryd.ntmps10
  go_upto_region 1 with fail
  generalize w.alloc _ = w0 at *
  go_wp2_with fail
  refine (alive_any _ (block_below HK.out hb0)).mono ?_
  rintro e w1 ⟨rfl, d1⟩
  have hb1 := bcall hb0 d1
  replace BX := Lib.hid (blk_below BX.out d1)
  obtain ⟨y0, y1, y2, y3, y4, y5, y6⟩ := blk7 BX.out
  go_wp2_with fail
  refine (queryBeyond_any ⟨aI, cI, aW, cW, aR, cR⟩ Q _ (HQ.out.later hb1)).mono ?_
  rintro e w2 ⟨⟨bb, rfl⟩, d2⟩
  have hb2 := bcall hb1 d2
  replace BX := Lib.hid (blk_below BX.out d2)
  clear y0 y1 y2 y3 y4 y5 y6
  cases bb
  · go_wp2_with fail
    refine (beyond_any A n cap f _ (HT.out.later hb2)).mono ?_
    rintro e w3 ⟨⟨bb, rfl⟩, d3⟩
    have hb3 := bcall hb2 d3
    replace BX := Lib.hid (blk_below BX.out d3)
    have hz3 : w.heap.size < w3.heap.size := blk_lt BX.out
    clear d1 d2 d3 hb0 hb1 hb2 hz0
    cases bb
    · have hbc := hb3
      have hs3 : w.heap.size ≤ w3.heap.size := hb3.size
      go_wp2_with fail
      refine (copied_any A n cap f _ hl HA.out (HT.out.later hbc)).mono ?_
      rintro e xk ⟨vk, rfl, ek, OK⟩
      obtain ⟨Ak, ck, rfl, _⟩ := rowown_shape OK
      replace OK := Lib.hid OK
      have LK := Lib.hid (fun g hg => (OK.out.lt g hg).2)
      have tk := ek.size
      replace BX := Lib.hid (blk_below BX.out ek)
      replace hbc := bcall hbc ek
      go_wp2_with fail
      refine (checkSub_any A n cap f root _ (HT.out.later hbc) hl (block_below HK.out hbc)).mono ?_
      rw [HM.out, HGS.out]
      rintro e xa ⟨v0, rfl, exa, Oa⟩
      obtain ⟨Aa, ca, rfl, hlOa, hzOa⟩ := rowown_shape Oa
      replace Oa := Lib.hid Oa
      have LOa := Lib.hid (fun g hg => Oa.out.lt g hg)
      have txa := exa.size
      have ZOa := Lib.hid hzOa
      clear hzOa
      replace OK := Lib.hid (rowown_below OK.out exa)
      replace BX := Lib.hid (blk_below BX.out exa)
      replace hbc := bcall hbc exa
      go_wp2_with fail
      refine (checkConj_any A n cap f _ (HT.out.later hbc) (block_below HK.out hbc)).mono ?_
      rw [HL.out]
      rintro e xl ⟨v0, rfl, exl, Ol⟩
      obtain ⟨Al, cl, rfl, hlOl, hzOl⟩ := rowown_shape Ol
      replace Ol := Lib.hid Ol
      have LOl := Lib.hid (fun g hg => Ol.out.lt g hg)
      have txl := exl.size
      have ZOl := Lib.hid hzOl
      clear hzOl
      replace OK := Lib.hid (rowown_below OK.out exl)
      replace Oa := Lib.hid (rowown_below Oa.out exl)
      replace BX := Lib.hid (blk_below BX.out exl)
      replace hbc := bcall hbc exl
      obtain ⟨y0, y1, y2, y3, y4, y5, y6⟩ := blk7 BX.out
      go_wp2_with fail
      refine (uses_apart ⟨aI, cI, aW, cW, aR, cR⟩ Q A n cap f _ (HQ.out.later hbc) HWF.out (HT.out.later hbc) HNW.out).mono ?_
      rw [HU1.out, HU2.out, HU3.out]
      rintro e xu ⟨u1, u2, u3, rfl, exu, Ou1, Ou2, Ou3, z1Ou, z2Ou, q1Ou, q2Ou, r1Ou, r2Ou, r3Ou⟩
      obtain ⟨Au1, cu1, rfl, hlOu1, hzOu1⟩ := rowown_shape Ou1
      have ZOu1 := Lib.hid hzOu1
      have LOu1 := Lib.hid (fun g hg => (Ou1.lt g hg))
      clear hzOu1
      obtain ⟨Au2, cu2, rfl, hlOu2, hzOu2⟩ := rowown_shape Ou2
      have ZOu2 := Lib.hid hzOu2
      have LOu2 := Lib.hid (fun g hg => (Ou2.lt g hg))
      clear hzOu2
      obtain ⟨Au3, cu3, rfl, hlOu3, hzOu3⟩ := rowown_shape Ou3
      have ZOu3 := Lib.hid hzOu3
      have LOu3 := Lib.hid (fun g hg => (Ou3.lt g hg))
      clear hzOu3
      have ROu := Lib.hid (And.intro r1Ou (And.intro r2Ou r3Ou))
      clear r1Ou r2Ou r3Ou y0 y1 y2 y3 y4 y5 y6
      have txu := exu.size
      have fxu := bnew (Below.refl xu.heap.size xu) (.cells #[.slice Au1 U1.length cu1, .slice Au2 U2.length cu2, .slice Au3 U3.length cu3] 57)
      have exu' := bnew exu (.cells #[.slice Au1 U1.length cu1, .slice Au2 U2.length cu2, .slice Au3 U3.length cu3] 57)
      have UB := Lib.hid (blk_new xu #[.slice Au1 U1.length cu1, .slice Au2 U2.length cu2, .slice Au3 U3.length cu3] 57)
      replace Ou1 := Lib.hid (rowown_below Ou1 fxu)
      replace Ou2 := Lib.hid (rowown_below Ou2 fxu)
      replace Ou3 := Lib.hid (rowown_below Ou3 fxu)
      have tsxu : (xu.alloc (.cells #[.slice Au1 U1.length cu1, .slice Au2 U2.length cu2, .slice Au3 U3.length cu3] 57)).heap.size = xu.heap.size + 1 := World.size_alloc _ _
      replace OK := Lib.hid (rowown_below OK.out exu')
      replace Oa := Lib.hid (rowown_below Oa.out exu')
      replace Ol := Lib.hid (rowown_below Ol.out exu')
      replace BX := Lib.hid (blk_below BX.out exu')
      replace hbc := bcall hbc exu'
      obtain ⟨ub, hub⟩ : ∃ b, xu.heap.size = b := ⟨_, rfl⟩
      clear exu exu' fxu
      go_upto_region 9 with fail
      generalize xu.alloc _ = xu' at *
      rw [hub] at UB txu tsxu LOu1 LOu2 LOu3
      try rw [hub]
      clear hub
      go_wp2_with fail
      refine (checkSub_any A n cap f root _ (HT.out.later hbc) hl (block_below HK.out hbc)).mono ?_
      rw [HM.out, HGS.out]
      rintro e xA ⟨v0, rfl, exA, OA⟩
      obtain ⟨AA, cA, rfl, hlOA, hzOA⟩ := rowown_shape OA
      replace OA := Lib.hid OA
      have LOA := Lib.hid (fun g hg => OA.out.lt g hg)
      have txA := exA.size
      have ZOA := Lib.hid hzOA
      clear hzOA
      replace OK := Lib.hid (rowown_below OK.out exA)
      replace Oa := Lib.hid (rowown_below Oa.out exA)
      replace Ol := Lib.hid (rowown_below Ol.out exA)
      replace Ou1 := Lib.hid (rowown_below Ou1.out exA)
      replace Ou2 := Lib.hid (rowown_below Ou2.out exA)
      replace Ou3 := Lib.hid (rowown_below Ou3.out exA)
      replace BX := Lib.hid (blk_below BX.out exA)
      replace UB := Lib.hid (blk_below UB.out exA)
      replace hbc := bcall hbc exA
      go_wp2_with fail
      refine (checkConj_any A n cap f _ (HT.out.later hbc) (block_below HK.out hbc)).mono ?_
      rw [HL.out]
      rintro e xL ⟨v0, rfl, exL, OL⟩
      obtain ⟨AL, cL, rfl, hlOL, hzOL⟩ := rowown_shape OL
      replace OL := Lib.hid OL
      have LOL := Lib.hid (fun g hg => OL.out.lt g hg)
      have txL := exL.size
      have ZOL := Lib.hid hzOL
      clear hzOL
      replace OK := Lib.hid (rowown_below OK.out exL)
      replace Oa := Lib.hid (rowown_below Oa.out exL)
      replace Ol := Lib.hid (rowown_below Ol.out exL)
      replace Ou1 := Lib.hid (rowown_below Ou1.out exL)
      replace Ou2 := Lib.hid (rowown_below Ou2.out exL)
      replace Ou3 := Lib.hid (rowown_below Ou3.out exL)
      replace OA := Lib.hid (rowown_below OA.out exL)
      replace BX := Lib.hid (blk_below BX.out exL)
      replace UB := Lib.hid (blk_below UB.out exL)
      replace hbc := bcall hbc exL
      obtain ⟨y0, y1, y2, y3, y4, y5, y6⟩ := blk7 BX.out
      go_wp2_with fail
      refine (uses_apart ⟨aI, cI, aW, cW, aR, cR⟩ Q A n cap f _ (HQ.out.later hbc) HWF.out (HT.out.later hbc) HNW.out).mono ?_
      rw [HU1.out, HU2.out, HU3.out]
      rintro e xU ⟨u1, u2, u3, rfl, exU, OU1, OU2, OU3, z1OU, z2OU, q1OU, q2OU, r1OU, r2OU, r3OU⟩
      obtain ⟨AU1, cU1, rfl, hlOU1, hzOU1⟩ := rowown_shape OU1
      have ZOU1 := Lib.hid hzOU1
      have LOU1 := Lib.hid (fun g hg => (OU1.lt g hg))
      clear hzOU1
      obtain ⟨AU2, cU2, rfl, hlOU2, hzOU2⟩ := rowown_shape OU2
      have ZOU2 := Lib.hid hzOU2
      have LOU2 := Lib.hid (fun g hg => (OU2.lt g hg))
      clear hzOU2
      obtain ⟨AU3, cU3, rfl, hlOU3, hzOU3⟩ := rowown_shape OU3
      have ZOU3 := Lib.hid hzOU3
      have LOU3 := Lib.hid (fun g hg => (OU3.lt g hg))
      clear hzOU3
      have ROU := Lib.hid (And.intro r1OU (And.intro r2OU r3OU))
      clear r1OU r2OU r3OU y0 y1 y2 y3 y4 y5 y6
      have txU := exU.size
      have fxU := bnew (Below.refl xU.heap.size xU) (.cells #[.slice AU1 U1.length cU1, .slice AU2 U2.length cU2, .slice AU3 U3.length cU3] 57)
      have exU' := bnew exU (.cells #[.slice AU1 U1.length cU1, .slice AU2 U2.length cU2, .slice AU3 U3.length cU3] 57)
      have VB := Lib.hid (blk_new xU #[.slice AU1 U1.length cU1, .slice AU2 U2.length cU2, .slice AU3 U3.length cU3] 57)
      replace OU1 := Lib.hid (rowown_below OU1 fxU)
      replace OU2 := Lib.hid (rowown_below OU2 fxU)
      replace OU3 := Lib.hid (rowown_below OU3 fxU)
      have tsxU : (xU.alloc (.cells #[.slice AU1 U1.length cU1, .slice AU2 U2.length cU2, .slice AU3 U3.length cU3] 57)).heap.size = xU.heap.size + 1 := World.size_alloc _ _
      replace OK := Lib.hid (rowown_below OK.out exU')
      replace Oa := Lib.hid (rowown_below Oa.out exU')
      replace Ol := Lib.hid (rowown_below Ol.out exU')
      replace Ou1 := Lib.hid (rowown_below Ou1.out exU')
      replace Ou2 := Lib.hid (rowown_below Ou2.out exU')
      replace Ou3 := Lib.hid (rowown_below Ou3.out exU')
      replace OA := Lib.hid (rowown_below OA.out exU')
      replace OL := Lib.hid (rowown_below OL.out exU')
      replace BX := Lib.hid (blk_below BX.out exU')
      replace UB := Lib.hid (blk_below UB.out exU')
      replace hbc := bcall hbc exU'
      obtain ⟨vb, hvb⟩ : ∃ b, xU.heap.size = b := ⟨_, rfl⟩
      clear exU exU' fxU
      go_upto_region 12 with fail
      generalize xU.alloc _ = xU' at *
      rw [hvb] at VB txU tsxU LOU1 LOU2 LOU3
      try rw [hvb]
      clear hvb
      go_wp2_with fail
      refine (copied_any Aa m ca gs _ hlOa ZOa.out (rowown_rd Oa.out (by omega))).mono ?_
      rintro e xw ⟨v0, rfl, exw, Ow⟩
      obtain ⟨Aw, cw, rfl, _⟩ := rowown_shape Ow
      replace Ow := Lib.hid Ow
      have txw := exw.size
      replace OK := Lib.hid (rowown_below OK.out exw)
      replace Oa := Lib.hid (rowown_below Oa.out exw)
      replace Ol := Lib.hid (rowown_below Ol.out exw)
      replace Ou1 := Lib.hid (rowown_below Ou1.out exw)
      replace Ou2 := Lib.hid (rowown_below Ou2.out exw)
      replace Ou3 := Lib.hid (rowown_below Ou3.out exw)
      replace OA := Lib.hid (rowown_below OA.out exw)
      replace OL := Lib.hid (rowown_below OL.out exw)
      replace OU1 := Lib.hid (rowown_below OU1.out exw)
      replace OU2 := Lib.hid (rowown_below OU2.out exw)
      replace OU3 := Lib.hid (rowown_below OU3.out exw)
      replace BX := Lib.hid (blk_below BX.out exw)
      replace UB := Lib.hid (blk_below UB.out exw)
      replace VB := Lib.hid (blk_below VB.out exw)
      replace hbc := bcall hbc exw
      go_wp2_with fail
      refine (twinInts_any Al L.length cl _ _ hlOl ZOl.out (natrow_rd Ol.out (by omega))).mono ?_
      rintro e xc ⟨v0, rfl, exc, Oc⟩
      obtain ⟨Axc, cxc, rfl, _⟩ := rowown_shape Oc
      replace Oc := Lib.hid Oc
      have txc := exc.size
      replace OK := Lib.hid (rowown_below OK.out exc)
      replace Oa := Lib.hid (rowown_below Oa.out exc)
      replace Ol := Lib.hid (rowown_below Ol.out exc)
      replace Ou1 := Lib.hid (rowown_below Ou1.out exc)
      replace Ou2 := Lib.hid (rowown_below Ou2.out exc)
      replace Ou3 := Lib.hid (rowown_below Ou3.out exc)
      replace OA := Lib.hid (rowown_below OA.out exc)
      replace OL := Lib.hid (rowown_below OL.out exc)
      replace OU1 := Lib.hid (rowown_below OU1.out exc)
      replace OU2 := Lib.hid (rowown_below OU2.out exc)
      replace OU3 := Lib.hid (rowown_below OU3.out exc)
      replace Ow := Lib.hid (rowown_below Ow.out exc)
      replace BX := Lib.hid (blk_below BX.out exc)
      replace UB := Lib.hid (blk_below UB.out exc)
      replace VB := Lib.hid (blk_below VB.out exc)
      replace hbc := bcall hbc exc
      obtain ⟨z0, z1, z2⟩ := blk3 UB.out
      go_wp2_with fail
      refine (twinInts_any Au1 U1.length cu1 _ _ hlOu1 ZOu1.out (natrow_rd Ou1.out (by omega))).mono ?_
      rintro e xx ⟨v0, rfl, exx, Ox⟩
      obtain ⟨Axx, cxx, rfl, _⟩ := rowown_shape Ox
      replace Ox := Lib.hid Ox
      have txx := exx.size
      replace OK := Lib.hid (rowown_below OK.out exx)
      replace Oa := Lib.hid (rowown_below Oa.out exx)
      replace Ol := Lib.hid (rowown_below Ol.out exx)
      replace Ou1 := Lib.hid (rowown_below Ou1.out exx)
      replace Ou2 := Lib.hid (rowown_below Ou2.out exx)
      replace Ou3 := Lib.hid (rowown_below Ou3.out exx)
      replace OA := Lib.hid (rowown_below OA.out exx)
      replace OL := Lib.hid (rowown_below OL.out exx)
      replace OU1 := Lib.hid (rowown_below OU1.out exx)
      replace OU2 := Lib.hid (rowown_below OU2.out exx)
      replace OU3 := Lib.hid (rowown_below OU3.out exx)
      replace Ow := Lib.hid (rowown_below Ow.out exx)
      replace Oc := Lib.hid (rowown_below Oc.out exx)
      replace BX := Lib.hid (blk_below BX.out exx)
      replace UB := Lib.hid (blk_below UB.out exx)
      replace VB := Lib.hid (blk_below VB.out exx)
      replace hbc := bcall hbc exx
      obtain ⟨z0, z1, z2⟩ := blk3 UB.out
      go_wp2_with fail
      refine (twinInts_any Au2 U2.length cu2 _ _ hlOu2 ZOu2.out (natrow_rd Ou2.out (by omega))).mono ?_
      rintro e xy ⟨v0, rfl, exy, Oy⟩
      obtain ⟨Axy, cxy, rfl, _⟩ := rowown_shape Oy
      replace Oy := Lib.hid Oy
      have txy := exy.size
      replace OK := Lib.hid (rowown_below OK.out exy)
      replace Oa := Lib.hid (rowown_below Oa.out exy)
      replace Ol := Lib.hid (rowown_below Ol.out exy)
      replace Ou1 := Lib.hid (rowown_below Ou1.out exy)
      replace Ou2 := Lib.hid (rowown_below Ou2.out exy)
      replace Ou3 := Lib.hid (rowown_below Ou3.out exy)
      replace OA := Lib.hid (rowown_below OA.out exy)
      replace OL := Lib.hid (rowown_below OL.out exy)
      replace OU1 := Lib.hid (rowown_below OU1.out exy)
      replace OU2 := Lib.hid (rowown_below OU2.out exy)
      replace OU3 := Lib.hid (rowown_below OU3.out exy)
      replace Ow := Lib.hid (rowown_below Ow.out exy)
      replace Oc := Lib.hid (rowown_below Oc.out exy)
      replace Ox := Lib.hid (rowown_below Ox.out exy)
      replace BX := Lib.hid (blk_below BX.out exy)
      replace UB := Lib.hid (blk_below UB.out exy)
      replace VB := Lib.hid (blk_below VB.out exy)
      replace hbc := bcall hbc exy
      obtain ⟨z0, z1, z2⟩ := blk3 UB.out
      go_wp2_with fail
      refine (twinInts_any Au3 U3.length cu3 _ _ hlOu3 ZOu3.out (natrow_rd Ou3.out (by omega))).mono ?_
      rintro e xz ⟨v0, rfl, exz, Oz⟩
      obtain ⟨Axz, cxz, rfl, _⟩ := rowown_shape Oz
      replace Oz := Lib.hid Oz
      have txz := exz.size
      replace OK := Lib.hid (rowown_below OK.out exz)
      replace Oa := Lib.hid (rowown_below Oa.out exz)
      replace Ol := Lib.hid (rowown_below Ol.out exz)
      replace Ou1 := Lib.hid (rowown_below Ou1.out exz)
      replace Ou2 := Lib.hid (rowown_below Ou2.out exz)
      replace Ou3 := Lib.hid (rowown_below Ou3.out exz)
      replace OA := Lib.hid (rowown_below OA.out exz)
      replace OL := Lib.hid (rowown_below OL.out exz)
      replace OU1 := Lib.hid (rowown_below OU1.out exz)
      replace OU2 := Lib.hid (rowown_below OU2.out exz)
      replace OU3 := Lib.hid (rowown_below OU3.out exz)
      replace Ow := Lib.hid (rowown_below Ow.out exz)
      replace Oc := Lib.hid (rowown_below Oc.out exz)
      replace Ox := Lib.hid (rowown_below Ox.out exz)
      replace Oy := Lib.hid (rowown_below Oy.out exz)
      replace BX := Lib.hid (blk_below BX.out exz)
      replace UB := Lib.hid (blk_below UB.out exz)
      replace VB := Lib.hid (blk_below VB.out exz)
      replace hbc := bcall hbc exz
      clear z0 z1 z2
      have hbz := hbc
      obtain ⟨W0, eW0⟩ : ∃ W : World, W = xz := ⟨_, rfl⟩
      subst eW0
      clear hbc
      obtain ⟨zk, hzk⟩ : ∃ z, xk.heap.size = z := ⟨_, rfl⟩
      obtain ⟨p1, hp1⟩ : ∃ z, xa.heap.size = z := ⟨_, rfl⟩
      obtain ⟨p2, hp2⟩ : ∃ z, xl.heap.size = z := ⟨_, rfl⟩
      obtain ⟨zs, hzs⟩ : ∃ z, xu'.heap.size = z := ⟨_, rfl⟩
      have hkz : w.heap.size ≤ zk := by omega
      have hks : w.heap.size < zk := by omega
      have s1 : zk ≤ p1 := by omega
      have s2 : p1 ≤ p2 := by omega
      have s3 : p2 ≤ ub := by omega
      have s4 : ub < zs := by omega
      have s5 : zs ≤ xA.heap.size := by omega
      have s6 : zs ≤ xL.heap.size := by omega
      have s7 : zs ≤ vb := by omega
      have s8 : zs ≤ xU'.heap.size := by omega
      have s9 : zs ≤ xw.heap.size := by omega
      have s10 : zs ≤ xc.heap.size := by omega
      have s11 : zs ≤ xx.heap.size := by omega
      have s12 : zs ≤ xy.heap.size := by omega
      have s13 : zs ≤ W0.heap.size := by omega
      have Ga : Hid (∀ g, Value.ownBlock (.slice Aa m ca) = some g → zk ≤ g ∧ g < p1) := Lib.hid (fun g hg => by have := LOa.out g hg; omega)
      have Gl : Hid (∀ g, Value.ownBlock (.slice Al L.length cl) = some g → p1 ≤ g ∧ g < p2) := Lib.hid (fun g hg => by have := LOl.out g hg; omega)
      have G1 : Hid (∀ g, Value.ownBlock (.slice Au1 U1.length cu1) = some g → p2 ≤ g ∧ g < z1Ou ∧ g < ub) := Lib.hid (fun g hg => by have := LOu1.out g hg; have := ROu.out.1 g hg; omega)
      have G2 : Hid (∀ g, Value.ownBlock (.slice Au2 U2.length cu2) = some g → p2 ≤ z1Ou ∧ z1Ou ≤ g ∧ g < z2Ou ∧ g < ub) := Lib.hid (fun g hg => by have := LOu2.out g hg; have := ROu.out.2.1 g hg; omega)
      have G3 : Hid (∀ g, Value.ownBlock (.slice Au3 U3.length cu3) = some g → p2 ≤ z1Ou ∧ z1Ou ≤ z2Ou ∧ z2Ou ≤ g ∧ g < ub) := Lib.hid (fun g hg => by have := LOu3.out g hg; have := ROu.out.2.2 g hg; omega)
      have GK : Hid (∀ g, Value.ownBlock (.slice Ak n ck) = some g → g < zk) := Lib.hid (fun g hg => by have := LK.out g hg; omega)
      have OAz := Lib.hid OA.out
      have MD := Lib.hid (Mid.refl zk zs W0)
      clear LOa LOl LOu1 LOu2 LOu3 LK ROu LOA LOL LOU1 LOU2 LOU3 ROU
      go_wp2_with fail
      go_loopw [19] (fun i wr => ∃ k : Nat, k ≤ m ∧ i = .int .i64 k ∧ Hid (W0.grownBy wr (Value.ownBlock (.slice Aa m ca))) ∧ wr.heap.size = W0.heap.size ∧ Hid (wr.ownsRow xk.heap.size 60 6 (.slice Aa m ca) m (flat (fun j => nodCell (mrkF gs k j)) 6 m))) (fun i _ => m - (intOf i).toNat)
      case atStart => exact ⟨0, Nat.zero_le _, rfl, Lib.hid (grown_refl _ _), rfl, by rw [mrkF_zero]; exact Oa⟩
      case round =>
        obtain ⟨k, hk, rfl, HG, hz, HV⟩ := hrel
        obtain ⟨W1, e1⟩ : ∃ W1 : World, W1 = wr := ⟨_, rfl⟩
        subst e1
        by_cases hlt : k < m
        · rcases HV.out.2 with ⟨hv, h0⟩ | ⟨g, c', cur, hv, _⟩
          · exact absurd h0 (by omega)
          · injection hv with hv1 hv2 hv3
            subst hv1 hv3
            have cl' : ∀ i, i < 6 → W1.cell? ⟨g, k * 6 + i, none⟩ = some (nodCell (mrkF gs k k) i) := fun i hi => by
              rw [World.ownsRow.cellAt HV.out (k * 6 + i) (by omega)]
              exact flat_at (fun j => nodCell (mrkF gs k j)) hlt hi
            have t0 : W1.cell? ⟨g, k * 6, none⟩ = _ := cl' 0 (by omega)
            have t1 := cl' 1 (by omega)
            have t2 := cl' 2 (by omega)
            have t3 := cl' 3 (by omega)
            have t4 := cl' 4 (by omega)
            have t5 := cl' 5 (by omega)
            have r0 := World.ownsRow.frozenAt HV.out (k * 6)
            have r1 := World.ownsRow.frozenAt HV.out (k * 6 + 1)
            have r2 := World.ownsRow.frozenAt HV.out (k * 6 + 2)
            have r3 := World.ownsRow.frozenAt HV.out (k * 6 + 3)
            have r4 := World.ownsRow.frozenAt HV.out (k * 6 + 4)
            have r5 := World.ownsRow.frozenAt HV.out (k * 6 + 5)
            have h0 := World.ownsRow.stored HV.out (k * 6) (.int .i64 1)
            have h1 := World.ownsRow.stored h0.1 (k * 6 + 1) (.int .i64 (k : Nat))
            have h2 := World.ownsRow.stored h1.1 (k * 6 + 2) (.string ⟨#[109, 97, 114, 107]⟩)
            have h3 := World.ownsRow.stored h2.1 (k * 6 + 3) (.string ⟨#[]⟩)
            have h4 := World.ownsRow.stored h3.1 (k * 6 + 4) (.int .i64 0)
            have h5 := World.ownsRow.stored h4.1 (k * 6 + 5) (.int .i64 0)
            have hgg := grown_trans HG.out (grown_trans h0.2 (grown_trans h1.2 (grown_trans h2.2 (grown_trans h3.2 (grown_trans h4.2 h5.2)))))
            replace h5 := h5.1
            have e6 := flat_set6 (D := mrkF gs k) hlt (mrk k)
            rw [show (fun i => nodCell (upd1 (mrkF gs k) k (mrk k) i)) = fun i => nodCell (mrkF gs (k + 1) i) by rw [mrkF_next]] at e6
            have HV2 := Lib.hid (e6 ▸ (show World.ownsRow _ _ _ _ _ _ (((((((flat (fun i => nodCell (mrkF gs k i)) 6 m).set (k * 6) (.int .i64 (mrk k).op)).set (k * 6 + 1) (.int .i64 (mrk k).n)).set (k * 6 + 2) (.string (mrk k).vr)).set (k * 6 + 3) (.string (mrk k).at_)).set (k * 6 + 4) (.int .i64 (mrk k).a)).set (k * 6 + 5) (.int .i64 (mrk k).b)) from h5))
            have HG2 := Lib.hid hgg
            clear h0 h1 h2 h3 h4 h5 hgg cl' e6
            go_wp2_with fail
            go_roundw
            case rel => exact ⟨k + 1, by omega, by go_num, HG2, by simpa using hz, HV2⟩
            case measure => simp [intOf]; omega
        · obtain rfl : k = m := by omega
          have HVc := Lib.hid (show W1.ownsRow xk.heap.size 60 6 (.slice Aa k ca) k (flat (fun j => nodCell (mrk j)) 6 k) by
            have := HV.out
            rw [flat_congr (C' := fun j => nodCell (mrk j)) (fun j hj i _ => by simp only [mrkF, if_pos hj])] at this
            exact this)
          replace Ol := Lib.hid (own_apart Ol.out HG.out (fun g hg hx => by have a := Ga.out g hg; have b := Gl.out g hx; omega))
          replace Ou1 := Lib.hid (own_apart Ou1.out HG.out (fun g hg hx => by have a := Ga.out g hg; have b := G1.out g hx; omega))
          replace Ou2 := Lib.hid (own_apart Ou2.out HG.out (fun g hg hx => by have a := Ga.out g hg; have b := G2.out g hx; omega))
          replace Ou3 := Lib.hid (own_apart Ou3.out HG.out (fun g hg hx => by have a := Ga.out g hg; have b := G3.out g hx; omega))
          replace UB := Lib.hid (blk_grown UB.out HG.out (fun e => by have a := Ga.out _ e; omega))
          replace MD := Lib.hid (Mid.grown MD.out HG.out (fun g hg => by have a := Ga.out g hg; omega))
          have Oa := HVc
          clear HV HVc HG hz
          go_wp2_with fail
          refine (mark_any xa.heap.size Al L.length cl _ 100 _ (by have := Ol.out; rw [natV_flat] at this; exact this) ⟨by decide, by decide⟩ (by omega)).mono ?_
          rintro e X2 ⟨rfl, hG, hz, hO⟩
          have HG := Lib.hid hG
          replace hO := Lib.hid hO
          clear hG
          replace Oa := Lib.hid (own_apart Oa.out HG.out (fun g hg hx => by have a := Gl.out g hg; have b := Ga.out g hx; omega))
          replace Ou1 := Lib.hid (own_apart Ou1.out HG.out (fun g hg hx => by have a := Gl.out g hg; have b := G1.out g hx; omega))
          replace Ou2 := Lib.hid (own_apart Ou2.out HG.out (fun g hg hx => by have a := Gl.out g hg; have b := G2.out g hx; omega))
          replace Ou3 := Lib.hid (own_apart Ou3.out HG.out (fun g hg hx => by have a := Gl.out g hg; have b := G3.out g hx; omega))
          replace UB := Lib.hid (blk_grown UB.out HG.out (fun e => by have a := Gl.out _ e; omega))
          replace MD := Lib.hid (Mid.grown MD.out HG.out (fun g hg => by have a := Gl.out g hg; omega))
          have Ol := hO
          clear hO HG hz
          
          obtain ⟨z0, z1, z2⟩ := blk3 UB.out
          go_wp2_with fail
          refine (mark_any xl.heap.size Au1 U1.length cu1 _ 200 _ (by have := Ou1.out; rw [natV_flat] at this; exact this) ⟨by decide, by decide⟩ (by omega)).mono ?_
          rintro e X3 ⟨rfl, hG, hz, hO⟩
          have HG := Lib.hid hG
          replace hO := Lib.hid hO
          clear hG
          replace Oa := Lib.hid (own_apart Oa.out HG.out (fun g hg hx => by have a := G1.out g hg; have b := Ga.out g hx; omega))
          replace Ol := Lib.hid (own_apart Ol.out HG.out (fun g hg hx => by have a := G1.out g hg; have b := Gl.out g hx; omega))
          replace Ou2 := Lib.hid (own_apart Ou2.out HG.out (fun g hg hx => by have a := G1.out g hg; have b := G2.out g hx; omega))
          replace Ou3 := Lib.hid (own_apart Ou3.out HG.out (fun g hg hx => by have a := G1.out g hg; have b := G3.out g hx; omega))
          replace UB := Lib.hid (blk_grown UB.out HG.out (fun e => by have a := G1.out _ e; omega))
          replace MD := Lib.hid (Mid.grown MD.out HG.out (fun g hg => by have a := G1.out g hg; omega))
          have Ou1 := hO
          clear hO HG hz
          clear z0 z1 z2
          obtain ⟨z0, z1, z2⟩ := blk3 UB.out
          go_wp2_with fail
          refine (mark_any xl.heap.size Au2 U2.length cu2 _ 300 _ (by have := Ou2.out; rw [natV_flat] at this; exact this) ⟨by decide, by decide⟩ (by omega)).mono ?_
          rintro e X4 ⟨rfl, hG, hz, hO⟩
          have HG := Lib.hid hG
          replace hO := Lib.hid hO
          clear hG
          replace Oa := Lib.hid (own_apart Oa.out HG.out (fun g hg hx => by have a := G2.out g hg; have b := Ga.out g hx; omega))
          replace Ol := Lib.hid (own_apart Ol.out HG.out (fun g hg hx => by have a := G2.out g hg; have b := Gl.out g hx; omega))
          replace Ou1 := Lib.hid (own_apart Ou1.out HG.out (fun g hg hx => by have a := G2.out g hg; have b := G1.out g hx; omega))
          replace Ou3 := Lib.hid (own_apart Ou3.out HG.out (fun g hg hx => by have a := G2.out g hg; have b := G3.out g hx; omega))
          replace UB := Lib.hid (blk_grown UB.out HG.out (fun e => by have a := G2.out _ e; omega))
          replace MD := Lib.hid (Mid.grown MD.out HG.out (fun g hg => by have a := G2.out g hg; omega))
          have Ou2 := hO
          clear hO HG hz
          clear z0 z1 z2
          obtain ⟨z0, z1, z2⟩ := blk3 UB.out
          go_wp2_with fail
          refine (mark_any xl.heap.size Au3 U3.length cu3 _ 400 _ (by have := Ou3.out; rw [natV_flat] at this; exact this) ⟨by decide, by decide⟩ (by omega)).mono ?_
          rintro e X5 ⟨rfl, hG, hz, hO⟩
          have HG := Lib.hid hG
          replace hO := Lib.hid hO
          clear hG
          replace Oa := Lib.hid (own_apart Oa.out HG.out (fun g hg hx => by have a := G3.out g hg; have b := Ga.out g hx; omega))
          replace Ol := Lib.hid (own_apart Ol.out HG.out (fun g hg hx => by have a := G3.out g hg; have b := Gl.out g hx; omega))
          replace Ou1 := Lib.hid (own_apart Ou1.out HG.out (fun g hg hx => by have a := G3.out g hg; have b := G1.out g hx; omega))
          replace Ou2 := Lib.hid (own_apart Ou2.out HG.out (fun g hg hx => by have a := G3.out g hg; have b := G2.out g hx; omega))
          replace UB := Lib.hid (blk_grown UB.out HG.out (fun e => by have a := G3.out _ e; omega))
          replace MD := Lib.hid (Mid.grown MD.out HG.out (fun g hg => by have a := G3.out g hg; omega))
          have Ou3 := hO
          clear hO HG hz
          clear z0 z1 z2
          have Oab : xk.heap.size ≤ W0.heap.size := by omega
          have Olb : xa.heap.size ≤ W0.heap.size := by omega
          have Oub : xl.heap.size ≤ W0.heap.size := by omega
          have hs13 := MD.out.size
          go_upto_region 26 with (at_builtin; go_loud (refine wpList_append_apart _ rfl _ _ _ rfl xk.heap.size 60 i0 _ 6 64 Tryd.underlying22 hi0 hy0 hy1 hy2 rfl (by omega) (Value.slice Aa k ca) _ _ rfl (World.ownsRow.alloc Oa.out (.cells #[.int .i64 3, .int .i64 7, .string ⟨#[]⟩, .string ⟨#[]⟩, .int .i64 0, .int .i64 0, .int .i64 2, .int .i64 8, .string ⟨#[]⟩, .string ⟨#[]⟩, .int .i64 0, .int .i64 0] 60)) (by rw [World.size_alloc]; omega) ⟨_, 0, none⟩ 2 2 [.int .i64 3, .int .i64 7, .string ⟨#[]⟩, .string ⟨#[]⟩, .int .i64 0, .int .i64 0, .int .i64 2, .int .i64 8, .string ⟨#[]⟩, .string ⟨#[]⟩, .int .i64 0, .int .i64 0] rfl rfl (by omega) (World.news_of_block (cs := #[.int .i64 3, .int .i64 7, .string ⟨#[]⟩, .string ⟨#[]⟩, .int .i64 0, .int .i64 0, .int .i64 2, .int .i64 8, .string ⟨#[]⟩, .string ⟨#[]⟩, .int .i64 0, .int .i64 0]) (t := 60) (fr := (0, 0)) (heap_alloc_new _ _)) (by simp [Value.oneCell']) (by unfold maxLen; omega) (by omega) ?_; intro Aga cga X6 R1 R2 hG hin))
          have HG := Lib.hid (grown_trans (World.grownBy_alloc _ (.cells #[.int .i64 3, .int .i64 7, .string ⟨#[]⟩, .string ⟨#[]⟩, .int .i64 0, .int .i64 0, .int .i64 2, .int .i64 8, .string ⟨#[]⟩, .string ⟨#[]⟩, .int .i64 0, .int .i64 0] 60) _) hG)
          have GgOa : Hid (∀ g, Value.ownBlock (.slice Aga (k + 2) cga) = some g → (zk ≤ g ∧ g < p1) ∨ zs ≤ g) := Lib.hid (fun g hg => (hin g hg).imp (fun h => Ga.out g h) (fun h => by rw [World.size_alloc] at h; omega))
          replace R1 := Lib.hid R1
          replace R2 := Lib.hid R2
          clear hG hin hs13
          replace Ol := Lib.hid (own_apart Ol.out HG.out (fun g hg hx => by have a := Ga.out g hg; have b := Gl.out g hx; omega))
          replace Ou1 := Lib.hid (own_apart Ou1.out HG.out (fun g hg hx => by have a := Ga.out g hg; have b := G1.out g hx; omega))
          replace Ou2 := Lib.hid (own_apart Ou2.out HG.out (fun g hg hx => by have a := Ga.out g hg; have b := G2.out g hx; omega))
          replace Ou3 := Lib.hid (own_apart Ou3.out HG.out (fun g hg hx => by have a := Ga.out g hg; have b := G3.out g hx; omega))
          replace UB := Lib.hid (blk_grown UB.out HG.out (fun e => by have a := Ga.out _ e; omega))
          replace MD := Lib.hid (Mid.grown MD.out HG.out (fun g hg => by have a := Ga.out g hg; omega))
          have Oa := R2
          have gOa := R1
          clear R1 R2 HG
          
          have hs13 := MD.out.size
          go_upto_region 27 with (at_builtin; go_loud (refine wpList_append_apart _ rfl _ _ _ rfl xa.heap.size 3 i1 _ 1 8 Tryd.underlying27 hi1 hx0 hx1 hx2 rfl (by omega) (Value.slice Al L.length cl) _ _ rfl (World.ownsRow.alloc Ol.out (.cells #[.int .i64 (-7), .int .i64 (-6)] 3)) (by rw [World.size_alloc]; omega) ⟨_, 0, none⟩ 2 2 [.int .i64 (-7), .int .i64 (-6)] rfl rfl (by omega) (World.news_of_block (cs := #[.int .i64 (-7), .int .i64 (-6)]) (t := 3) (fr := (0, 0)) (heap_alloc_new _ _)) (by simp [Value.oneCell']) (by unfold maxLen; omega) (by omega) ?_; intro Agl cgl X7 R1 R2 hG hin))
          have HG := Lib.hid (grown_trans (World.grownBy_alloc _ (.cells #[.int .i64 (-7), .int .i64 (-6)] 3) _) hG)
          have GgOl : Hid (∀ g, Value.ownBlock (.slice Agl (L.length + 2) cgl) = some g → (p1 ≤ g ∧ g < p2) ∨ zs ≤ g) := Lib.hid (fun g hg => (hin g hg).imp (fun h => Gl.out g h) (fun h => by rw [World.size_alloc] at h; omega))
          replace R1 := Lib.hid R1
          replace R2 := Lib.hid R2
          clear hG hin hs13
          replace Oa := Lib.hid (own_apart Oa.out HG.out (fun g hg hx => by have a := Gl.out g hg; have b := Ga.out g hx; omega))
          replace Ou1 := Lib.hid (own_apart Ou1.out HG.out (fun g hg hx => by have a := Gl.out g hg; have b := G1.out g hx; omega))
          replace Ou2 := Lib.hid (own_apart Ou2.out HG.out (fun g hg hx => by have a := Gl.out g hg; have b := G2.out g hx; omega))
          replace Ou3 := Lib.hid (own_apart Ou3.out HG.out (fun g hg hx => by have a := Gl.out g hg; have b := G3.out g hx; omega))
          replace gOa := Lib.hid (own_apart gOa.out HG.out (fun g hg hx => by have a := Gl.out g hg; have b := GgOa.out g hx; omega))
          replace UB := Lib.hid (blk_grown UB.out HG.out (fun e => by have a := Gl.out _ e; omega))
          replace MD := Lib.hid (Mid.grown MD.out HG.out (fun g hg => by have a := Gl.out g hg; omega))
          have Ol := R2
          have gOl := R1
          clear R1 R2 HG
          
          obtain ⟨z0, z1, z2⟩ := blk3 UB.out
          have hs13 := MD.out.size
          go_upto_region 28 with (at_builtin; go_loud (refine wpList_append_apart _ rfl _ _ _ rfl xl.heap.size 3 i1 _ 1 8 Tryd.underlying27 hi1 hx0 hx1 hx2 rfl (by omega) (Value.slice Au1 U1.length cu1) _ _ rfl (World.ownsRow.alloc Ou1.out (.cells #[.int .i64 (-8), .int .i64 (-5)] 3)) (by rw [World.size_alloc]; omega) ⟨_, 0, none⟩ 2 2 [.int .i64 (-8), .int .i64 (-5)] rfl rfl (by omega) (World.news_of_block (cs := #[.int .i64 (-8), .int .i64 (-5)]) (t := 3) (fr := (0, 0)) (heap_alloc_new _ _)) (by simp [Value.oneCell']) (by unfold maxLen; omega) (by omega) ?_; intro Ag1 cg1 X8 R1 R2 hG hin))
          have HG := Lib.hid (grown_trans (World.grownBy_alloc _ (.cells #[.int .i64 (-8), .int .i64 (-5)] 3) _) hG)
          have GgOu1 : Hid (∀ g, Value.ownBlock (.slice Ag1 (U1.length + 2) cg1) = some g → (p2 ≤ g ∧ g < z1Ou ∧ g < ub) ∨ zs ≤ g) := Lib.hid (fun g hg => (hin g hg).imp (fun h => G1.out g h) (fun h => by rw [World.size_alloc] at h; omega))
          replace R1 := Lib.hid R1
          replace R2 := Lib.hid R2
          clear hG hin hs13
          replace Oa := Lib.hid (own_apart Oa.out HG.out (fun g hg hx => by have a := G1.out g hg; have b := Ga.out g hx; omega))
          replace Ol := Lib.hid (own_apart Ol.out HG.out (fun g hg hx => by have a := G1.out g hg; have b := Gl.out g hx; omega))
          replace Ou2 := Lib.hid (own_apart Ou2.out HG.out (fun g hg hx => by have a := G1.out g hg; have b := G2.out g hx; omega))
          replace Ou3 := Lib.hid (own_apart Ou3.out HG.out (fun g hg hx => by have a := G1.out g hg; have b := G3.out g hx; omega))
          replace gOa := Lib.hid (own_apart gOa.out HG.out (fun g hg hx => by have a := G1.out g hg; have b := GgOa.out g hx; omega))
          replace gOl := Lib.hid (own_apart gOl.out HG.out (fun g hg hx => by have a := G1.out g hg; have b := GgOl.out g hx; omega))
          replace UB := Lib.hid (blk_grown UB.out HG.out (fun e => by have a := G1.out _ e; omega))
          replace MD := Lib.hid (Mid.grown MD.out HG.out (fun g hg => by have a := G1.out g hg; omega))
          have Ou1 := R2
          have gOu1 := R1
          clear R1 R2 HG
          clear z0 z1 z2
          obtain ⟨z0, z1, z2⟩ := blk3 UB.out
          have hs13 := MD.out.size
          go_upto_region 29 with (at_builtin; go_loud (refine wpList_append_apart _ rfl _ _ _ rfl xl.heap.size 3 i1 _ 1 8 Tryd.underlying27 hi1 hx0 hx1 hx2 rfl (by omega) (Value.slice Au2 U2.length cu2) _ _ rfl (World.ownsRow.alloc Ou2.out (.cells #[.int .i64 (-9), .int .i64 (-4)] 3)) (by rw [World.size_alloc]; omega) ⟨_, 0, none⟩ 2 2 [.int .i64 (-9), .int .i64 (-4)] rfl rfl (by omega) (World.news_of_block (cs := #[.int .i64 (-9), .int .i64 (-4)]) (t := 3) (fr := (0, 0)) (heap_alloc_new _ _)) (by simp [Value.oneCell']) (by unfold maxLen; omega) (by omega) ?_; intro Ag2 cg2 X9 R1 R2 hG hin))
          have HG := Lib.hid (grown_trans (World.grownBy_alloc _ (.cells #[.int .i64 (-9), .int .i64 (-4)] 3) _) hG)
          have GgOu2 : Hid (∀ g, Value.ownBlock (.slice Ag2 (U2.length + 2) cg2) = some g → (p2 ≤ z1Ou ∧ z1Ou ≤ g ∧ g < z2Ou ∧ g < ub) ∨ zs ≤ g) := Lib.hid (fun g hg => (hin g hg).imp (fun h => G2.out g h) (fun h => by rw [World.size_alloc] at h; omega))
          replace R1 := Lib.hid R1
          replace R2 := Lib.hid R2
          clear hG hin hs13
          replace Oa := Lib.hid (own_apart Oa.out HG.out (fun g hg hx => by have a := G2.out g hg; have b := Ga.out g hx; omega))
          replace Ol := Lib.hid (own_apart Ol.out HG.out (fun g hg hx => by have a := G2.out g hg; have b := Gl.out g hx; omega))
          replace Ou1 := Lib.hid (own_apart Ou1.out HG.out (fun g hg hx => by have a := G2.out g hg; have b := G1.out g hx; omega))
          replace Ou3 := Lib.hid (own_apart Ou3.out HG.out (fun g hg hx => by have a := G2.out g hg; have b := G3.out g hx; omega))
          replace gOa := Lib.hid (own_apart gOa.out HG.out (fun g hg hx => by have a := G2.out g hg; have b := GgOa.out g hx; omega))
          replace gOl := Lib.hid (own_apart gOl.out HG.out (fun g hg hx => by have a := G2.out g hg; have b := GgOl.out g hx; omega))
          replace gOu1 := Lib.hid (own_apart gOu1.out HG.out (fun g hg hx => by have a := G2.out g hg; have b := GgOu1.out g hx; omega))
          replace UB := Lib.hid (blk_grown UB.out HG.out (fun e => by have a := G2.out _ e; omega))
          replace MD := Lib.hid (Mid.grown MD.out HG.out (fun g hg => by have a := G2.out g hg; omega))
          have Ou2 := R2
          have gOu2 := R1
          clear R1 R2 HG
          clear z0 z1 z2
          obtain ⟨z0, z1, z2⟩ := blk3 UB.out
          have hs13 := MD.out.size
          go_upto_region 30 with (at_builtin; go_loud (refine wpList_append_apart _ rfl _ _ _ rfl xl.heap.size 3 i1 _ 1 8 Tryd.underlying27 hi1 hx0 hx1 hx2 rfl (by omega) (Value.slice Au3 U3.length cu3) _ _ rfl (World.ownsRow.alloc Ou3.out (.cells #[.int .i64 (-10), .int .i64 (-3)] 3)) (by rw [World.size_alloc]; omega) ⟨_, 0, none⟩ 2 2 [.int .i64 (-10), .int .i64 (-3)] rfl rfl (by omega) (World.news_of_block (cs := #[.int .i64 (-10), .int .i64 (-3)]) (t := 3) (fr := (0, 0)) (heap_alloc_new _ _)) (by simp [Value.oneCell']) (by unfold maxLen; omega) (by omega) ?_; intro Ag3 cg3 X10 R1 R2 hG hin))
          have HG := Lib.hid (grown_trans (World.grownBy_alloc _ (.cells #[.int .i64 (-10), .int .i64 (-3)] 3) _) hG)
          have GgOu3 : Hid (∀ g, Value.ownBlock (.slice Ag3 (U3.length + 2) cg3) = some g → (p2 ≤ z1Ou ∧ z1Ou ≤ z2Ou ∧ z2Ou ≤ g ∧ g < ub) ∨ zs ≤ g) := Lib.hid (fun g hg => (hin g hg).imp (fun h => G3.out g h) (fun h => by rw [World.size_alloc] at h; omega))
          replace R1 := Lib.hid R1
          replace R2 := Lib.hid R2
          clear hG hin hs13
          replace Oa := Lib.hid (own_apart Oa.out HG.out (fun g hg hx => by have a := G3.out g hg; have b := Ga.out g hx; omega))
          replace Ol := Lib.hid (own_apart Ol.out HG.out (fun g hg hx => by have a := G3.out g hg; have b := Gl.out g hx; omega))
          replace Ou1 := Lib.hid (own_apart Ou1.out HG.out (fun g hg hx => by have a := G3.out g hg; have b := G1.out g hx; omega))
          replace Ou2 := Lib.hid (own_apart Ou2.out HG.out (fun g hg hx => by have a := G3.out g hg; have b := G2.out g hx; omega))
          replace gOa := Lib.hid (own_apart gOa.out HG.out (fun g hg hx => by have a := G3.out g hg; have b := GgOa.out g hx; omega))
          replace gOl := Lib.hid (own_apart gOl.out HG.out (fun g hg hx => by have a := G3.out g hg; have b := GgOl.out g hx; omega))
          replace gOu1 := Lib.hid (own_apart gOu1.out HG.out (fun g hg hx => by have a := G3.out g hg; have b := GgOu1.out g hx; omega))
          replace gOu2 := Lib.hid (own_apart gOu2.out HG.out (fun g hg hx => by have a := G3.out g hg; have b := GgOu2.out g hx; omega))
          replace UB := Lib.hid (blk_grown UB.out HG.out (fun e => by have a := G3.out _ e; omega))
          replace MD := Lib.hid (Mid.grown MD.out HG.out (fun g hg => by have a := G3.out g hg; omega))
          have Ou3 := R2
          have gOu3 := R1
          clear R1 R2 HG
          clear z0 z1 z2
          have hbc : Below w.heap.size w X10 := Mid.low MD.out hbz hkz
          have NA := Lib.hid (show NodRd X10 X10.heap.size Aa k (fun j => mrk j) from rowown_rd Oa.out (by omega))
          have I0 := Lib.hid (show IntRd X10 X10.heap.size Al L.length (fun j => 100 + (j : Int)) from rowown_rd Ol.out (by omega))
          have I1 := Lib.hid (show IntRd X10 X10.heap.size Au1 U1.length (fun j => 200 + (j : Int)) from rowown_rd Ou1.out (by omega))
          have I2 := Lib.hid (show IntRd X10 X10.heap.size Au2 U2.length (fun j => 300 + (j : Int)) from rowown_rd Ou2.out (by omega))
          have I3 := Lib.hid (show IntRd X10 X10.heap.size Au3 U3.length (fun j => 400 + (j : Int)) from rowown_rd Ou3.out (by omega))
          have NAA := Lib.hid (show NodRd X10 X10.heap.size AA k gs from rowown_rd (Mid.own MD.out OA.out (by omega)) (by omega))
          have Nw := Lib.hid (show NodRd X10 X10.heap.size Aw k gs from rowown_rd (Mid.own MD.out Ow.out s8) (by omega))
          have IAL := Lib.hid (natrow_rd (Mid.own MD.out OL.out s5) (by omega))
          have Ic := Lib.hid (show IntRd X10 X10.heap.size Axc L.length _ from rowown_rd (Mid.own MD.out Oc.out s9) (by omega))
          have IA1 := Lib.hid (natrow_rd (Mid.own MD.out OU1.out s6) (by omega))
          have IA2 := Lib.hid (natrow_rd (Mid.own MD.out OU2.out s6) (by omega))
          have IA3 := Lib.hid (natrow_rd (Mid.own MD.out OU3.out s6) (by omega))
          have Ix := Lib.hid (show IntRd X10 X10.heap.size Axx U1.length _ from rowown_rd (Mid.own MD.out Ox.out s10) (by omega))
          have Iy := Lib.hid (show IntRd X10 X10.heap.size Axy U2.length _ from rowown_rd (Mid.own MD.out Oy.out s11) (by omega))
          have Iz := Lib.hid (show IntRd X10 X10.heap.size Axz U3.length _ from rowown_rd (Mid.own MD.out Oz.out s12) (by omega))
          have NK := Lib.hid (show NodRd X10 X10.heap.size Ak n f from rowown_rd (Mid.own0 MD.out OK.out GK.out) hn6)
          replace VB := Lib.hid (Mid.blk MD.out VB.out (.inr s7))
          replace BX := Lib.hid (Mid.blk MD.out BX.out (.inl hks))
          obtain ⟨g0, rfl, ca0⟩ := own_cells gOa.out (by omega)
          obtain ⟨g1, rfl, cb0⟩ := own_cells gOl.out (by omega)
          obtain ⟨g2, rfl, cc0⟩ := own_cells gOu1.out (by omega)
          obtain ⟨g3, rfl, cd0⟩ := own_cells gOu2.out (by omega)
          obtain ⟨g4, rfl, ce0⟩ := own_cells gOu3.out (by omega)
          have KA1 := Lib.hid (show X10.cell? ⟨g0, k * 6 + 1, none⟩ = some (.int .i64 7) by rw [ca0 _ (by omega)]; exact tail_at (i := 1) (by simp [flat_length]) rfl)
          have KA2 := Lib.hid (show X10.cell? ⟨g0, (k + 1) * 6 + 1, none⟩ = some (.int .i64 8) by rw [ca0 _ (by omega), show (k + 1) * 6 + 1 = k * 6 + 7 by omega]; exact tail_at (i := 7) (by simp [flat_length]) rfl)
          have KB1 := Lib.hid (show X10.cell? ⟨g1, L.length, none⟩ = some (.int .i64 (-7)) by rw [cb0 _ (by omega)]; exact tail_at (i := 0) (by simp [flat_length]) rfl)
          have KB2 := Lib.hid (show X10.cell? ⟨g1, L.length + 1, none⟩ = some (.int .i64 (-6)) by rw [cb0 _ (by omega)]; exact tail_at (i := 1) (by simp [flat_length]) rfl)
          have KC1 := Lib.hid (show X10.cell? ⟨g2, U1.length, none⟩ = some (.int .i64 (-8)) by rw [cc0 _ (by omega)]; exact tail_at (i := 0) (by simp [flat_length]) rfl)
          have KC2 := Lib.hid (show X10.cell? ⟨g2, U1.length + 1, none⟩ = some (.int .i64 (-5)) by rw [cc0 _ (by omega)]; exact tail_at (i := 1) (by simp [flat_length]) rfl)
          have KD1 := Lib.hid (show X10.cell? ⟨g3, U2.length, none⟩ = some (.int .i64 (-9)) by rw [cd0 _ (by omega)]; exact tail_at (i := 0) (by simp [flat_length]) rfl)
          have KD2 := Lib.hid (show X10.cell? ⟨g3, U2.length + 1, none⟩ = some (.int .i64 (-4)) by rw [cd0 _ (by omega)]; exact tail_at (i := 1) (by simp [flat_length]) rfl)
          have KE1 := Lib.hid (show X10.cell? ⟨g4, U3.length, none⟩ = some (.int .i64 (-10)) by rw [ce0 _ (by omega)]; exact tail_at (i := 0) (by simp [flat_length]) rfl)
          have KE2 := Lib.hid (show X10.cell? ⟨g4, U3.length + 1, none⟩ = some (.int .i64 (-3)) by rw [ce0 _ (by omega)]; exact tail_at (i := 1) (by simp [flat_length]) rfl)
          clear ca0 cb0 cc0 cd0 ce0 Oa Ol Ou1 Ou2 Ou3 gOa gOl gOu1 gOu2 gOu3 OA OL OU1 OU2 OU3 Ow Oc Ox Oy Oz OK
          obtain ⟨z0, z1, z2⟩ := blk3 VB.out
          go_wp2_with fail
          refine (sameTreeLaw6_same AA Aw k cA cw _ _ ((NAA.out).later (Below.refl _ _)) ((Nw.out).later (Below.refl _ _))).mono ?_
          rintro e xx ⟨rfl, q0, rfl⟩
          go_wp2_with fail
          refine (sameIntsLaw_same AL Axc L.length cL cxc _ _ ((IAL.out).later (bdrewN (Below.refl _ _) (q0))) ((Ic.out).later (bdrewN (Below.refl _ _) (q0)))).mono ?_
          rintro e xx ⟨rfl, q1, rfl⟩
          go_wp2_with fail
          refine (sameIntsLaw_same AU1 Axx U1.length cU1 cxx _ _ ((IA1.out).later (bdrewN (Below.refl _ _) (q0 + q1))) ((Ix.out).later (bdrewN (Below.refl _ _) (q0 + q1)))).mono ?_
          rintro e xx ⟨rfl, q2, rfl⟩
          go_wp2_with fail
          refine (sameIntsLaw_same AU2 Axy U2.length cU2 cxy _ _ ((IA2.out).later (bdrewN (Below.refl _ _) (q0 + q1 + q2))) ((Iy.out).later (bdrewN (Below.refl _ _) (q0 + q1 + q2)))).mono ?_
          rintro e xx ⟨rfl, q3, rfl⟩
          go_wp2_with fail
          refine (sameIntsLaw_same AU3 Axz U3.length cU3 cxz _ _ ((IA3.out).later (bdrewN (Below.refl _ _) (q0 + q1 + q2 + q3))) ((Iz.out).later (bdrewN (Below.refl _ _) (q0 + q1 + q2 + q3)))).mono ?_
          rintro e xx ⟨rfl, q4, rfl⟩
          clear z0 z1 z2
          go_upto_region 32 with fail
          have DN : Below X10.heap.size X10 (World.drewN X10 (q0 + q1 + q2 + q3 + q4)) := bdrewN (Below.refl _ _) _
          generalize World.drewN X10 _ = Y1 at *
          replace hbc := bcall hbc DN
          have D := DN
          clear DN
          go_wp2_with fail
          refine (checkSub_any A n cap f root _ (HT.out.later hbc) hl (block_below HK.out hbc)).mono ?_
          rw [HM.out, HGS.out]
          rintro e Y2 ⟨v0, rfl, e2, ob⟩
          obtain ⟨Ab, cb, rfl, _⟩ := rowown_shape ob
          have Nb := Lib.hid (show NodRd Y2 Y2.heap.size Ab k gs from rowown_rd ob (by omega))
          replace hbc := bcall hbc e2
          replace D := bcall D e2
          clear ob
          go_wp2_with fail
          refine (checkConj_any A n cap f _ (HT.out.later hbc) (block_below HK.out hbc)).mono ?_
          rw [HL.out]
          rintro e Y3 ⟨v0, rfl, e3, ob⟩
          obtain ⟨Am, cm, rfl, _⟩ := rowown_shape ob
          have Im := Lib.hid (natrow_rd ob (by omega))
          replace hbc := bcall hbc e3
          replace D := bcall D e3
          clear ob
          obtain ⟨y0, y1, y2, y3, y4, y5, y6⟩ := blk7 (blk_below BX.out D)
          go_wp2_with fail
          refine (uses_any ⟨aI, cI, aW, cW, aR, cR⟩ Q A n cap f _ (HQ.out.later hbc) HWF.out (HT.out.later hbc) HNW.out).mono ?_
          rw [HU1.out, HU2.out, HU3.out]
          rintro e Y4 ⟨v1, v2, v3, rfl, e4, o1, o2, o3⟩
          obtain ⟨Av1, cv1, rfl, _⟩ := rowown_shape o1
          obtain ⟨Av2, cv2, rfl, _⟩ := rowown_shape o2
          obtain ⟨Av3, cv3, rfl, _⟩ := rowown_shape o3
          have f4 := bnew (Below.refl Y4.heap.size Y4) (.cells #[.slice Av1 U1.length cv1, .slice Av2 U2.length cv2, .slice Av3 U3.length cv3] 57)
          have e4' := bnew e4 (.cells #[.slice Av1 U1.length cv1, .slice Av2 U2.length cv2, .slice Av3 U3.length cv3] 57)
          have TB := Lib.hid (blk_new Y4 #[.slice Av1 U1.length cv1, .slice Av2 U2.length cv2, .slice Av3 U3.length cv3] 57)
          have J1 := Lib.hid ((natrow_rd o1 (by omega)).later f4)
          have J2 := Lib.hid ((natrow_rd o2 (by omega)).later f4)
          have J3 := Lib.hid ((natrow_rd o3 (by omega)).later f4)
          replace hbc := bcall hbc e4'
          replace D := bcall D e4'
          replace Nb := Lib.hid (Nb.out.later (bcall e3 e4'))
          replace Im := Lib.hid (Im.out.later e4')
          clear o1 o2 o3 f4 e4' y0 y1 y2 y3 y4 y5 y6
          obtain ⟨tb, htb⟩ : ∃ b, Y4.heap.size = b := ⟨_, rfl⟩
          go_upto_region 35 with fail
          generalize Y4.alloc _ = Y5 at *
          rw [htb] at TB
          try rw [htb]
          clear htb e4 e3 e2
          obtain ⟨z0, z1, z2⟩ := blk3 (blk_below VB.out D)
          go_wp2_with fail
          refine (sameTreeLaw6_same AA Aw k cA cw _ _ ((NAA.out.later D).later (Below.refl _ _)) ((Nw.out.later D).later (Below.refl _ _))).mono ?_
          rintro e xx ⟨rfl, q0, rfl⟩
          go_wp2_with fail
          refine (sameIntsLaw_same AL Axc L.length cL cxc _ _ ((IAL.out.later D).later (bdrewN (Below.refl _ _) (q0))) ((Ic.out.later D).later (bdrewN (Below.refl _ _) (q0)))).mono ?_
          rintro e xx ⟨rfl, q1, rfl⟩
          go_wp2_with fail
          refine (sameIntsLaw_same AU1 Axx U1.length cU1 cxx _ _ ((IA1.out.later D).later (bdrewN (Below.refl _ _) (q0 + q1))) ((Ix.out.later D).later (bdrewN (Below.refl _ _) (q0 + q1)))).mono ?_
          rintro e xx ⟨rfl, q2, rfl⟩
          go_wp2_with fail
          refine (sameIntsLaw_same AU2 Axy U2.length cU2 cxy _ _ ((IA2.out.later D).later (bdrewN (Below.refl _ _) (q0 + q1 + q2))) ((Iy.out.later D).later (bdrewN (Below.refl _ _) (q0 + q1 + q2)))).mono ?_
          rintro e xx ⟨rfl, q3, rfl⟩
          go_wp2_with fail
          refine (sameIntsLaw_same AU3 Axz U3.length cU3 cxz _ _ ((IA3.out.later D).later (bdrewN (Below.refl _ _) (q0 + q1 + q2 + q3))) ((Iz.out.later D).later (bdrewN (Below.refl _ _) (q0 + q1 + q2 + q3)))).mono ?_
          rintro e xx ⟨rfl, q4, rfl⟩
          clear z0 z1 z2
          have DQ : Below Y5.heap.size Y5 (World.drewN Y5 (q0 + q1 + q2 + q3 + q4)) := bdrewN (Below.refl _ _) _
          replace Nb := Lib.hid (Nb.out.later DQ)
          replace Im := Lib.hid (Im.out.later DQ)
          replace J1 := Lib.hid (J1.out.later DQ)
          replace J2 := Lib.hid (J2.out.later DQ)
          replace J3 := Lib.hid (J3.out.later DQ)
          replace TB := Lib.hid (blk_below TB.out DQ)
          go_upto_region 37 with fail
          have DN : Below Y5.heap.size Y5 (World.drewN Y5 (q0 + q1 + q2 + q3 + q4)) := bdrewN (Below.refl _ _) _
          generalize World.drewN Y5 _ = Y6 at *
          replace hbc := bcall hbc DN
          replace D := bcall D DN
          clear DN
          clear DQ
          obtain ⟨z0, z1, z2⟩ := blk3 TB.out
          go_wp2_with fail
          refine (sameTreeLaw6_same A Ak n cap ck _ _ ((HT.out.later hbc).later (Below.refl _ _)) ((NK.out.later D).later (Below.refl _ _))).mono ?_
          rintro e xx ⟨rfl, q0, rfl⟩
          go_wp2_with fail
          refine (sameTreeLaw6_same Ab Aw k cb cw _ _ ((Nb.out).later (bdrewN (Below.refl _ _) (q0))) ((Nw.out.later D).later (bdrewN (Below.refl _ _) (q0)))).mono ?_
          rintro e xx ⟨rfl, q1, rfl⟩
          go_wp2_with fail
          refine (sameIntsLaw_same Am Axc L.length cm cxc _ _ ((Im.out).later (bdrewN (Below.refl _ _) (q0 + q1))) ((Ic.out.later D).later (bdrewN (Below.refl _ _) (q0 + q1)))).mono ?_
          rintro e xx ⟨rfl, q2, rfl⟩
          go_wp2_with fail
          refine (sameIntsLaw_same Av1 Axx U1.length cv1 cxx _ _ ((J1.out).later (bdrewN (Below.refl _ _) (q0 + q1 + q2))) ((Ix.out.later D).later (bdrewN (Below.refl _ _) (q0 + q1 + q2)))).mono ?_
          rintro e xx ⟨rfl, q3, rfl⟩
          go_wp2_with fail
          refine (sameIntsLaw_same Av2 Axy U2.length cv2 cxy _ _ ((J2.out).later (bdrewN (Below.refl _ _) (q0 + q1 + q2 + q3))) ((Iy.out.later D).later (bdrewN (Below.refl _ _) (q0 + q1 + q2 + q3)))).mono ?_
          rintro e xx ⟨rfl, q4, rfl⟩
          go_wp2_with fail
          refine (sameIntsLaw_same Av3 Axz U3.length cv3 cxz _ _ ((J3.out).later (bdrewN (Below.refl _ _) (q0 + q1 + q2 + q3 + q4))) ((Iz.out.later D).later (bdrewN (Below.refl _ _) (q0 + q1 + q2 + q3 + q4)))).mono ?_
          rintro e xx ⟨rfl, q5, rfl⟩
          clear z0 z1 z2
          go_upto_region 39 with fail
          have DN : Below Y6.heap.size Y6 (World.drewN Y6 (q0 + q1 + q2 + q3 + q4 + q5)) := bdrewN (Below.refl _ _) _
          generalize World.drewN Y6 _ = Y7 at *
          replace hbc := bcall hbc DN
          replace D := bcall D DN
          clear DN
          replace NA := Lib.hid (NA.out.later D)
          have hbY := hbc
          go_wp2_with fail
          go_loop [28] (fun i => ∃ j : Nat, j ≤ k ∧ i = .int .i64 j) (fun i => k - (intOf i).toNat)
          case atStart => exact ⟨0, Nat.zero_le _, rfl⟩
          case round =>
            obtain ⟨j, hj, rfl⟩ := hrel
            by_cases hlt2 : j < k
            · obtain ⟨b, off, rfl, hbl, hcs⟩ := NA.out.spot (by omega)
              obtain ⟨c0, c1, c2, c3, c4, c5⟩ := hcs j hlt2
              clear hcs
              replace c0 : Y7.cell? ⟨b, off + j * 6, none⟩ = some (.int .i64 1) := c0
              replace c1 : Y7.cell? ⟨b, off + j * 6 + 1, none⟩ = some (.int .i64 j) := c1
              replace c2 : Y7.cell? ⟨b, off + j * 6 + 2, none⟩ = some (.string ⟨#[109, 97, 114, 107]⟩) := c2
              replace c3 : Y7.cell? ⟨b, off + j * 6 + 3, none⟩ = some (.string ⟨#[]⟩) := c3
              replace c4 : Y7.cell? ⟨b, off + j * 6 + 4, none⟩ = some (.int .i64 0) := c4
              replace c5 : Y7.cell? ⟨b, off + j * 6 + 5, none⟩ = some (.int .i64 0) := c5
              go_wp2_with fail
              go_round
              case rel => exact ⟨j + 1, by omega, by go_num⟩
              case measure => simp [intOf]; omega
            · obtain rfl : j = k := by omega
              obtain ⟨z0, z1, z2⟩ := blk3 (blk_below UB.out D)
              go_wp2_with fail
              refine (marked_any Al L.length cl 100 _ (I0.out.later D) ⟨by decide, by decide⟩ (by omega)).mono ?_
              rintro e xx ⟨rfl, rfl⟩
              go_wp2_with fail
              refine (marked_any Au1 U1.length cu1 200 _ (I1.out.later D) ⟨by decide, by decide⟩ (by omega)).mono ?_
              rintro e xx ⟨rfl, rfl⟩
              go_wp2_with fail
              refine (marked_any Au2 U2.length cu2 300 _ (I2.out.later D) ⟨by decide, by decide⟩ (by omega)).mono ?_
              rintro e xx ⟨rfl, rfl⟩
              go_wp2_with fail
              refine (marked_any Au3 U3.length cu3 400 _ (I3.out.later D) ⟨by decide, by decide⟩ (by omega)).mono ?_
              rintro e xx ⟨rfl, rfl⟩
              obtain ⟨y0, y1, y2, y3, y4, y5, y6⟩ := blk7 (blk_below BX.out D)
              clear z0 z1 z2
              go_wp2_with fail
              refine (anew_any ⟨aI, cI, aW, cW, aR, cR⟩ Q A n cap f root _ (HQ.out.later hbc) HWF.out hl HA.out (HT.out.later hbc) HNW.out (block_below HK.out hbc)).mono ?_
              rintro e Y8 ⟨rfl, e8⟩
              replace D := bcall D e8
              replace hbc := bcall hbc e8
              clear y0 y1 y2 y3 y4 y5 y6
              obtain ⟨z0, z1, z2⟩ := blk3 (blk_below UB.out D)
              have a1 := rd_later KA1.out D
              have a2 := rd_later KA2.out D
              have b1 := rd_later KB1.out D
              have b2 := rd_later KB2.out D
              have c1 := rd_later KC1.out D
              have c2 := rd_later KC2.out D
              have d1 := rd_later KD1.out D
              have d2 := rd_later KD2.out D
              have e1 := rd_later KE1.out D
              have e2 := rd_later KE2.out D
              go_wp2_with fail
              first
                | (go_quiet (fail); go_wp2_with fail; go_ret; exact ⟨rfl, bdrewN hbc _⟩)
                | (go_ret; exact ⟨rfl, hbc⟩)
    · go_wp2_with fail
      go_ret
      exact ⟨rfl, hb3⟩
  · go_wp2_with fail
    go_ret
    exact ⟨rfl, hb2⟩
set_option maxRecDepth 8000 in
theorem checkFresh_main {H : Type} {enc : TypeId × Value → H} (W : World) (base : Nat) {v0 v1 v2 : Value} {d0 d1 d2 : DataW H} {p0 p1 p2 : List MemPlace} {X C Z : Prop}
    (o0 : Value.okWide Tryd.prog W .any base 40 v0) (h0 : DataW.Trod enc Tryd.prog W 0 (fun _ => true) true 40 v0 d0 p0) (o1 : Value.okWide Tryd.prog W .any base 22 v1) (h1 : DataW.Trod enc Tryd.prog W 0 (fun _ => true) true 22 v1 d1 p1) (o2 : Value.okWide Tryd.prog W .any base 3 v2) (h2 : DataW.Trod enc Tryd.prog W 0 (fun _ => true) true 3 v2 d2 p2)
    (_ : X) (hz : ReachedAll Tryd.prog ([40, 22, 3] ++ (OpenSpec.ofChange Rows.checkFreshSpec).bare.plain.varTypes Tryd.prog) ([d0, d1, d2] ++ [])) (_ : C)
    (h : laidMetH Tryd.prog Rows.checkFreshRow.laid W) (_ : Z) :
    Calls Tryd.prog 10 #[v0, v1, v2] W fun e W' => e = .returned (.bool true) ∧ Below W.heap.size W W' := by
  have hv0 := kwVar (laid := Rows.checkFreshRow.laid) h 0 rfl
  obtain ⟨t0, f0, g0⟩ := var_block gKeywords hv0
  have z0 := reach_cons hz
  have z1 := reach_cons z0.2
  obtain ⟨V, Q, rfl, hQ, hwf⟩ := open_query o0 h0 z0.1
  obtain ⟨fuel1, hf1⟩ := h1
  obtain ⟨a1, len1, cap1, rfl⟩ := okWide_slice Tryd.underlying22 o1
  have hf1' : DataW.trod enc Tryd.prog W 0 (fun _ => true) true fuel1 22 [.slice a1 len1 cap1] = some (d1, p1) := by simpa [Value.cells] using hf1
  obtain ⟨A1, n1, c1, f1, e1, l1, m1, r1, u1⟩ := rd_nodes (y := (d1, p1)) hf1' z1.1
  injection e1 with e11 e12 e13
  subst e11 e12 e13
  obtain ⟨root, rfl⟩ := okWide_int Tryd.underlying3 o2
  exact checkFresh_walk V Q a1 len1 cap1 f1 root W hQ hwf l1 m1 r1 u1 g0
end Go.Proofs.YtagcbljfaflhoaaDoor

/-! ### The statement on the law CheckFresh of package sluicelaw6, out of its walk: for every input that the row speaks of the call returns true, and its arguments read as before. -/
namespace Go.Proofs.YtagcbljfaflhoaaDoor.checkFresh
open Go.ChangeShapes Go.WideShapes Go.ChangeAt Go.RowKit
theorem own : ownKnob Tryd.prog.godebug = none := by kernel_rfl
theorem readable : ∀ t ∈ Tryd.f10.params.toList, Tryd.prog.readableRec t = true ∧ t < Tryd.prog.types.size := by
  rw [Tryd.params10]
  intro t ht
  simp only [List.mem_cons, List.not_mem_nil, or_false] at ht
  rcases ht with rfl | rfl | rfl
  · exact ⟨by kernel_rfl, of_decide_eq_true (by kernel_rfl)⟩
  · exact ⟨by kernel_rfl, of_decide_eq_true (by kernel_rfl)⟩
  · exact ⟨by kernel_rfl, of_decide_eq_true (by kernel_rfl)⟩
set_option maxRecDepth 8000 in
theorem contract (H : Type) (enc : TypeId × Value → H) (W : World) (base : Nat) (args : Array Value) (ds gs : List (DataW H)) (before : List MemPlace)
    (hval : ∀ (j : Nat) t v, Tryd.f10.params[j]? = some t → args[j]? = some v → Value.okWide Tryd.prog W .any base t v)
    (hW : DataW.Whole enc Tryd.prog Tryd.f10.params.toList Rows.checkFreshSpec.vars false W args.toList ds gs before)
    (hz : (DataW.weightsEach Tryd.prog (Tryd.f10.params.toList ++ (OpenSpec.ofChange Rows.checkFreshSpec).bare.plain.varTypes Tryd.prog) (ds ++ gs)).all (· ≤ reachBytes) = true)
    (hcond : ∀ k, (OpenSpec.ofChange Rows.checkFreshSpec).cond = some k → k H (ds ++ gs) = true)
    (hL : laidMetH Tryd.prog Rows.checkFreshRow.laid W) (hsh : W.ShapedOpen Tryd.prog) :
    Calls Tryd.prog 10 args W fun e W' => ∃ v, e = .returned v ∧ Rows.checkFreshSpec.post enc Tryd.prog Tryd.f10 false true false false W args v W' := by
  have hW' := hW
  obtain ⟨p, q, hA0, hV, rfl, hfz, hnd⟩ := hW
  have hA : DataW.TrodAll enc Tryd.prog W 0 (fun _ => true) true Tryd.f10.params.toList args.toList ds p := hA0
  rw [Tryd.params10] at hA hval
  rw [Tryd.params10] at hz
  obtain ⟨v0, vs0, d0, ds0, p0, q0, hargs, rfl, rfl, h0, r0⟩ := trodAll_cons hA
  obtain ⟨v1, vs1, d1, ds1, p1, q1, rfl, rfl, rfl, h1, r1⟩ := trodAll_cons r0
  obtain ⟨v2, vs2, d2, ds2, p2, q2, rfl, rfl, rfl, h2, r2⟩ := trodAll_cons r1
  obtain ⟨rfl, rfl, rfl⟩ := trodAll_nil r2
  obtain rfl : args = #[v0, v1, v2] := by cases args; simp_all
  have hlt := hW'.lt
  obtain ⟨rfl, rfl⟩ := trodVars_none hV
  simp only [List.append_nil] at hlt
  refine (checkFresh_main W base (hval 0 40 v0 rfl rfl) h0 (hval 1 22 v1 rfl rfl) h1 (hval 2 3 v2 rfl rfl) h2 hlt hz hcond hL hsh).mono fun e W' ⟨he, hb⟩ => ?_
  subst he
  exact ⟨_, rfl, law_post (by kernel_rfl) readable rfl Tryd.underlying4 rfl hW' rfl hb⟩
noncomputable def laidWorld (os : Os) : World := { World.holding Tryd.prog os ⟨#[], #[], []⟩ with heap := ((World.holding Tryd.prog os ⟨#[], #[], []⟩).heap.modify 0 (setCells (kwList.map fun s => Value.string ⟨s.toArray⟩).toArray)) }
theorem laid_met (os : Os) : laidMet Tryd.prog Rows.checkFreshRow.laid ((laidWorld os).forCall (fun _ _ => 0) ⟨#[], #[.agg #[.slice none 0 0, .int .i64 0, .int .i64 0, .slice none 0 0, .int .i64 0, .string .empty, .slice none 0 0], .slice none 0 0, .int .i64 0], []⟩).memory :=
  laidMet_of_run' 8 (by kernel_rfl) (by kernel_rfl)
theorem reads (os : Os) {H : Type} (enc : TypeId × Value → H) : ∃ places, DataW.whole enc Tryd.prog ((laidWorld os).forCall (fun _ _ => 0) ⟨#[], #[.agg #[.slice none 0 0, .int .i64 0, .int .i64 0, .slice none 0 0, .int .i64 0, .string .empty, .slice none 0 0], .slice none 0 0, .int .i64 0], []⟩).memory Tryd.f10.params.toList Rows.checkFreshSpec.vars false (#[.agg #[.slice none 0 0, .int .i64 0, .int .i64 0, .slice none 0 0, .int .i64 0, .string .empty, .slice none 0 0], .slice none 0 0, .int .i64 0] : Array Value).toList 8 = some ([.agg [.nil, .lit (.int .i64 0), .lit (.int .i64 0), .nil, .lit (.int .i64 0), .lit (.string []), .nil], .nil, .lit (.int .i64 0)], [], places) :=
  ⟨[], by kernel_rfl⟩
set_option maxRecDepth 100000 in
theorem lifted (os : Os) (started : os.Started) (H : Type) (enc : TypeId × Value → H) (F : Stop.Interp) :
    ReturnsInHanded {} Tryd.checked os 10 .any ((OpenSpec.ofChange Rows.checkFreshSpec).preRow enc Tryd.prog Tryd.f10 Rows.checkFreshRow.domain false Rows.checkFreshRow.laid) (((OpenSpec.ofChange Rows.checkFreshSpec).at F).post enc Tryd.prog Tryd.f10 false true false false) := by
  obtain ⟨places, hx⟩ := reads os enc
  refine returnsInHanded_of_row (C := Tryd.checked) (s := (OpenSpec.ofChange Rows.checkFreshSpec)) own started (by kernel_rfl) Tryd.func10
    (witness_row_at (enc := enc) (C := Tryd.checked) false (laidWorld os) #[.agg #[.slice none 0 0, .int .i64 0, .int .i64 0, .slice none 0 0, .int .i64 0, .string .empty, .slice none 0 0], .slice none 0 0, .int .i64 0] rfl (by kernel_rfl) (by kernel_rfl) (by kernel_rfl)
      (OpenSpec.preRow_of_cond 8 hx (by kernel_rfl) (fun k hk => by cases hk) (by kernel_rfl) (laid_met os))) ?_
  intro W base args ds gs before hval hW _ hcond hz hL hsh _
  exact contract H enc W base args ds gs before hval hW hz hcond hL hsh
theorem said : Rows.CheckFreshSaid :=
  OpenClaim.holds_of_cond 10 Tryd.f10 rfl rfl rfl rfl rfl rfl rfl ⟨rfl, rfl, rfl, rfl, rfl⟩ rfl rfl rfl rfl rfl (by kernel_rfl) Tryd.func10 (by kernel_rfl)
    (of_decide_eq_true (by kernel_rfl)) (by unfold Func.isWrapper; first | (rw [if_pos (by decide +kernel)]; kernel_rfl) | (rw [if_neg (by decide +kernel)]; exact ⟨rfl, rfl⟩))
    (fun os started H enc _ F => by rw [OpenClaim.pre_eq_preRow]; exact lifted os started H enc F)
theorem plain (f : FuncId) (fn : Func) (hf : Tryd.pinned.checked.prog.funcNamed "sluice/sluicelaw6.CheckFresh" = some f) (hfn : Tryd.pinned.checked.prog.funcs[f]? = some fn) :
    false = Tryd.pinned.checked.prog.looks [] ∧ ∀ (j : Nat) t, fn.params[j]? = some t → Tryd.pinned.checked.prog.wantsStandIn t = false := by
  obtain rfl : f = 10 := Option.some.inj ((show Tryd.prog.funcNamed "sluice/sluicelaw6.CheckFresh" = some 10 by kernel_rfl).symm.trans hf) |>.symm
  obtain rfl : fn = Tryd.f10 := (Option.some.inj (Tryd.func10.symm.trans hfn)).symm
  refine ⟨by kernel_rfl, fun j t ht => ?_⟩
  rw [Tryd.params10] at ht
  have hm := Array.mem_of_getElem? ht
  simp only [List.mem_toArray, List.mem_cons, List.not_mem_nil, or_false] at hm
  rcases hm with rfl | rfl | rfl
  · exact (show Tryd.prog.wantsStandIn 40 = false by kernel_rfl)
  · exact (show Tryd.prog.wantsStandIn 22 = false by kernel_rfl)
  · exact (show Tryd.prog.wantsStandIn 3 = false by kernel_rfl)
theorem card : Rows.CheckFreshCardSaid :=
  Claim7.holds_tied_plain_at .later [] _ _ _ _ said (fun _ h => by cases h) (by kernel_rfl) (fun _ h => by cases h) checkFresh_row_tie rfl ⟨rfl, rfl⟩ (by kernel_rfl) rfl plain (by kernel_rfl)
end Go.Proofs.YtagcbljfaflhoaaDoor.checkFresh

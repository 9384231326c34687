/-
  Several texts in one: Ask, Walk6, Mixed, WhereP, Where, Results, CheckAll, AliveP, Alive.
-/
import Derived.Test.YtagcbljfaflhoaaDoorMention
import Derived.Test.YtagcbljfaflhoaaDoorKinds
import Derived.Test.YtagcbljfaflhoaaDoorQuerySame
import Derived.Test.YtagcbljfaflhoaaDoorSubWalk
import Derived.Test.YtagcbljfaflhoaaDoorConjWalk
import Derived.Test.YtagcbljfaflhoaaDoorInts
import Derived.Deep.RegionHeld3
import Derived.Deep.CutRange
import Derived.Test.YtagcbljfaflhoaaDoorCheckSchema
set_option linter.unusedSimpArgs false
set_option linter.unusedVariables false
/-! ### The closures that ask what is wrong with a node: Check$1, where$1, results$1. -/
namespace Go.Proofs.YtagcbljfaflhoaaDoor
open Go.RowKit Go.ChangeShapes Go.WideShapes Go.ChangeAt Go.Deep Go.Joins
/-- The closure's value. -/
def askV (sb qb mb : Nat) : Value := .func (.func 57) #[] #[.pointer (some ⟨sb, 0, none⟩), .pointer (some ⟨qb, 0, none⟩), .pointer (some ⟨mb, 0, none⟩)]
/-- What the closures look at. -/
structure AskRd (w : World) (sb qb mb bn : Nat) (A : Option Addr) (cap : Nat) (S : Sch) (V : QryV) (Q : Qry) (DN : DataW Unit) : Prop where
  s : w.heap[sb]? = some (.cells #[.slice A S.n cap] 34 (0, 0))
  q : w.heap[qb]? = some (.cells (qryArr V Q) 40 (0, 0))
  m : w.heap[mb]? = some (.cells #[.map (some bn)] 81 (0, 0))
  sch : TypRd w w.heap.size A S
  qry : QryRd w w.heap.size V Q
  own : NmOwn w bn Q.n DN
  nm : NmMap Q.it Q.n DN
theorem AskRd.later {w w' : World} {sb qb mb bn cap : Nat} {A : Option Addr} {S : Sch} {V : QryV} {Q : Qry} {DN : DataW Unit} (h : AskRd w sb qb mb bn A cap S V Q DN) (hb : Below w.heap.size w w') : AskRd w' sb qb mb bn A cap S V Q DN :=
  ⟨blk_below h.s hb, blk_below h.q hb, blk_below h.m hb, h.sch.later hb, h.qry.later hb, nmo_below h.own hb h.own.lt, h.nm⟩
set_option maxRecDepth 100000 in
set_option maxHeartbeats 2000000 in
theorem ask_any {sb qb mb bn cap : Nat} {A : Option Addr} {S : Sch} {V : QryV} {Q : Qry} {DN : DataW Unit} (r : Bool) (x : Nod) (w : World) (h : AskRd w sb qb mb bn A cap S V Q DN) (hx : NodWf x) :
    Calls Tryd.prog 57 #[.agg (nodArr x), .bool r, .pointer (some ⟨sb, 0, none⟩), .pointer (some ⟨qb, 0, none⟩), .pointer (some ⟨mb, 0, none⟩)] w fun e w' => e = .returned (.int .i64 (mentE S Q r x)) ∧ Below w.heap.size w w' := by
  obtain ⟨aI, cI, aW, cW, aR, cR⟩ := V
  obtain ⟨op, nn, vr, at_, a, b⟩ := x
  show Calls _ _ #[.agg #[.int .i64 op, .int .i64 nn, .string vr, .string at_, .int .i64 a, .int .i64 b], .bool r, _, _, _] w _
  have hb0 := bnew (Below.refl w.heap.size w) (.cells #[.int .i64 op, .int .i64 nn, .string vr, .string at_, .int .i64 a, .int .i64 b] 60)
  have X0 := Lib.hid (blk_new w #[.int .i64 op, .int .i64 nn, .string vr, .string at_, .int .i64 a, .int .i64 b] 60)
  have H0 := Lib.hid (h.later hb0)
  have HX := Lib.hid hx
  clear h hx
  go_enter Tryd.func57, Tryd.ntmps57
  go_upto_region 1 with fail
  generalize w.alloc _ = w0 at *
  have p0 := blk_cell H0.out.s (j := 0) rfl
  have m0 := blk_cell H0.out.m (j := 0) rfl
  obtain ⟨y0, y1, y2, y3, y4, y5, y6⟩ := blk7 H0.out.q
  have t0 := blk_cell X0.out (j := 0) rfl
  have t1 := blk_cell X0.out (j := 1) rfl
  have t2 := blk_cell X0.out (j := 2) rfl
  have t3 := blk_cell X0.out (j := 3) rfl
  have t4 := blk_cell X0.out (j := 4) rfl
  have t5 := blk_cell X0.out (j := 5) rfl
  go_wp2_with fail
  refine (mention_any A cap S ⟨aI, cI, aW, cW, aR, cR⟩ Q bn DN r ⟨op, nn, vr, at_, a, b⟩ _ H0.out.sch H0.out.qry H0.out.own H0.out.nm HX.out).mono ?_
  rintro e w1 ⟨rfl, hb1⟩
  go_wp2_with fail
  go_ret
  exact ⟨rfl, bcall hb0 hb1⟩
set_option maxRecDepth 100000 in
set_option maxHeartbeats 2000000 in
theorem askWhere_any {sb qb mb bn cap ab : Nat} {A : Option Addr} {S : Sch} {V : QryV} {Q : Qry} {DN : DataW Unit} {T : TypeId} (x : Nod) (w : World) (h : AskRd w sb qb mb bn A cap S V Q DN) (ha : w.heap[ab]? = some (.cells #[askV sb qb mb] T (0, 0))) (hx : NodWf x) :
    Calls Tryd.prog 88 #[.agg (nodArr x), .pointer (some ⟨ab, 0, none⟩)] w fun e w' => e = .returned (.int .i64 (mentE S Q false x)) ∧ Below w.heap.size w w' := by
  obtain ⟨op, nn, vr, at_, a, b⟩ := x
  show Calls _ _ #[.agg #[.int .i64 op, .int .i64 nn, .string vr, .string at_, .int .i64 a, .int .i64 b], _] w _
  have hb0 := bnew (Below.refl w.heap.size w) (.cells #[.int .i64 op, .int .i64 nn, .string vr, .string at_, .int .i64 a, .int .i64 b] 60)
  have X0 := Lib.hid (blk_new w #[.int .i64 op, .int .i64 nn, .string vr, .string at_, .int .i64 a, .int .i64 b] 60)
  have H0 := Lib.hid (h.later hb0)
  have HX := Lib.hid hx
  have A0 := Lib.hid (blk_below ha hb0)
  clear h hx ha
  unfold askV at A0
  go_enter Tryd.func88, Tryd.ntmps88
  go_upto_region 1 with fail
  generalize w.alloc _ = w0 at *
  have a0 := blk_cell A0.out (j := 0) rfl
  have t0 := blk_cell X0.out (j := 0) rfl
  have t1 := blk_cell X0.out (j := 1) rfl
  have t2 := blk_cell X0.out (j := 2) rfl
  have t3 := blk_cell X0.out (j := 3) rfl
  have t4 := blk_cell X0.out (j := 4) rfl
  have t5 := blk_cell X0.out (j := 5) rfl
  go_wp2_with fail
  refine (ask_any false ⟨op, nn, vr, at_, a, b⟩ _ H0.out HX.out).mono ?_
  rintro e w1 ⟨rfl, hb1⟩
  go_wp2_with fail
  go_ret
  exact ⟨rfl, bcall hb0 hb1⟩
set_option maxRecDepth 100000 in
set_option maxHeartbeats 2000000 in
theorem askRet_any {sb qb mb bn cap ab : Nat} {A : Option Addr} {S : Sch} {V : QryV} {Q : Qry} {DN : DataW Unit} {T : TypeId} (x : Nod) (w : World) (h : AskRd w sb qb mb bn A cap S V Q DN) (ha : w.heap[ab]? = some (.cells #[askV sb qb mb] T (0, 0))) (hx : NodWf x) :
    Calls Tryd.prog 90 #[.agg (nodArr x), .pointer (some ⟨ab, 0, none⟩)] w fun e w' => e = .returned (.int .i64 (mentE S Q true x)) ∧ Below w.heap.size w w' := by
  obtain ⟨op, nn, vr, at_, a, b⟩ := x
  show Calls _ _ #[.agg #[.int .i64 op, .int .i64 nn, .string vr, .string at_, .int .i64 a, .int .i64 b], _] w _
  have hb0 := bnew (Below.refl w.heap.size w) (.cells #[.int .i64 op, .int .i64 nn, .string vr, .string at_, .int .i64 a, .int .i64 b] 60)
  have X0 := Lib.hid (blk_new w #[.int .i64 op, .int .i64 nn, .string vr, .string at_, .int .i64 a, .int .i64 b] 60)
  have H0 := Lib.hid (h.later hb0)
  have HX := Lib.hid hx
  have A0 := Lib.hid (blk_below ha hb0)
  clear h hx ha
  unfold askV at A0
  go_enter Tryd.func90, Tryd.ntmps90
  go_upto_region 1 with fail
  generalize w.alloc _ = w0 at *
  have a0 := blk_cell A0.out (j := 0) rfl
  have t0 := blk_cell X0.out (j := 0) rfl
  have t1 := blk_cell X0.out (j := 1) rfl
  have t2 := blk_cell X0.out (j := 2) rfl
  have t3 := blk_cell X0.out (j := 3) rfl
  have t4 := blk_cell X0.out (j := 4) rfl
  have t5 := blk_cell X0.out (j := 5) rfl
  go_wp2_with fail
  refine (ask_any true ⟨op, nn, vr, at_, a, b⟩ _ H0.out HX.out).mono ?_
  rintro e w1 ⟨rfl, hb1⟩
  go_wp2_with fail
  go_ret
  exact ⟨rfl, bcall hb0 hb1⟩
end Go.Proofs.YtagcbljfaflhoaaDoor

/-! ### The first node of a tree that something is wrong with: plain, and the walk of check.walk. -/
namespace Go.Proofs.YtagcbljfaflhoaaDoor
open Go.RowKit Go.ChangeShapes Go.WideShapes Go.ChangeAt Go.Deep Go.Joins
/-- What is wrong with node i. -/
def nodeE (S : Sch) (Q : Qry) (r : Bool) (f : Nat → Nod) (i : Nat) : Int := if mentE S Q r (f i) ≠ 0 then mentE S Q r (f i) else if kindsB f (f i) = true then 0 else 75
/-- The first node that something is wrong with, and what. -/
def walkP (S : Sch) (Q : Qry) (r : Bool) (n : Nat) (f : Nat → Nod) : Int × Int :=
  if firstI (fun i => nodeE S Q r f i != 0) n = -1 then (0, 0) else (firstI (fun i => nodeE S Q r f i != 0) n, nodeE S Q r f (firstI (fun i => nodeE S Q r f i != 0) n).toNat)
theorem walkP_hit {S : Sch} {Q : Qry} {r : Bool} {n k : Nat} {f : Nat → Nod} {e : Int} (hk : k < n) (he : nodeE S Q r f k = e) (h0 : e ≠ 0) (hn : ∀ j, j < k → (nodeE S Q r f j != 0) = false) : walkP S Q r n f = ((k : Int), e) := by
  have e1 := firstI_hit (p := fun i => nodeE S Q r f i != 0) hk (by rw [bne_iff_ne, he]; exact h0) hn
  rw [walkP, e1, if_neg (by omega)]
  exact Prod.ext rfl he
theorem walkP_none {S : Sch} {Q : Qry} {r : Bool} {n : Nat} {f : Nat → Nod} (hn : ∀ j, j < n → (nodeE S Q r f j != 0) = false) : walkP S Q r n f = (0, 0) := by
  rw [walkP, if_pos (firstI_none hn)]
theorem nod_eta (x : Nod) : nodArr x = #[.int .i64 x.op, .int .i64 x.n, .string x.vr, .string x.at_, .int .i64 x.a, .int .i64 x.b] := rfl
set_option maxRecDepth 100000 in
set_option maxHeartbeats 4000000 in
theorem walkWhere_any {sb qb mb bn cap ab : Nat} {A : Option Addr} {S : Sch} {V : QryV} {Q : Qry} {DN : DataW Unit} {T : TypeId} (aT : Option Addr) (n c : Nat) (f : Nat → Nod) (w : World) (h : AskRd w sb qb mb bn A cap S V Q DN) (ha : w.heap[ab]? = some (.cells #[askV sb qb mb] T (0, 0)))
    (hT : NodRd w w.heap.size aT n f) (hN : ∀ j, j < n → NodWf (f j)) (hab : ∀ j, j < n → (f j).a < n ∧ (f j).b < n) :
    Calls Tryd.prog 87 #[.slice aT n c, .func (.func 88) #[] #[.pointer (some ⟨ab, 0, none⟩)]] w fun e w' => e = .returned (.tuple #[.int .i64 (walkP S Q false n f).1, .int .i64 (walkP S Q false n f).2]) ∧ Below w.heap.size w w' := by
  have hn := hT.small
  have H0 := Lib.hid h
  have A0 := Lib.hid ha
  have HT := Lib.hid hT
  have HNW := Lib.hid hN
  have HAB := Lib.hid hab
  clear h ha hT hN hab
  go_enter Tryd.func87, Tryd.ntmps87
  go_wp2_with fail
  go_loopw [11] (fun i wr => ∃ k : Nat, k ≤ n ∧ i = .int .i64 k ∧ Hid (∀ j, j < k → (nodeE S Q false f j != 0) = false) ∧ Below w.heap.size w wr) (fun i _ => n - (intOf i).toNat)
  case atStart => exact ⟨0, Nat.zero_le _, rfl, Lib.hid none_zero, Below.refl _ _⟩
  case round =>
    obtain ⟨k, hk, rfl, HN, hb⟩ := hrel
    obtain ⟨W1, e1⟩ : ∃ W1 : World, W1 = wr := ⟨_, rfl⟩
    subst e1
    by_cases hlt : k < n
    · obtain ⟨b, off, rfl, hbl, hcs⟩ := (HT.out.later hb).spot (by omega)
      obtain ⟨g0, g1, g2, g3, g4, g5⟩ := hcs k hlt
      have hwf := HNW.out k hlt
      have hkk := HAB.out k hlt
      obtain ⟨x, hx⟩ : ∃ x, f k = x := ⟨_, rfl⟩
      rw [hx] at g0 g1 g2 g3 g4 g5 hwf hkk
      obtain ⟨op, nn, vr, at_, a, b2⟩ := x
      have HWX := Lib.hid hwf
      have HKK := Lib.hid hkk
      have I4 := Lib.hid (blk_new W1 #[.int .i64 op, .int .i64 nn, .string vr, .string at_, .int .i64 a, .int .i64 b2] 60)
      have hb4 := bnew (Below.refl W1.heap.size W1) (.cells #[.int .i64 op, .int .i64 nn, .string vr, .string at_, .int .i64 a, .int .i64 b2] 60)
      have H4 := Lib.hid (H0.out.later (bcall hb hb4))
      have A4 := Lib.hid (blk_below A0.out (bcall hb hb4))
      have hz4 : W1.heap.size < (W1.alloc (.cells #[.int .i64 op, .int .i64 nn, .string vr, .string at_, .int .i64 a, .int .i64 b2] 60)).heap.size := by simp
      obtain ⟨me, hme⟩ : ∃ me, mentE S Q false ⟨op, nn, vr, at_, a, b2⟩ = me := ⟨_, rfl⟩
      have HME := Lib.hid hme
      have HX := Lib.hid hx
      clear hcs hx hwf hkk hme
      go_upto_region 4 with fail
      generalize W1.alloc _ = w4 at *
      clear g0 g1 g2 g3 g4 g5
      go_wp2_with (refine wpList_load_row rfl 60 _ rfl W1.heap.size rfl 60 _ (0, 0) _ I4.out Tryd.underlying60 rfl (by kernel_rfl) ?_)
      refine (askWhere_any ⟨op, nn, vr, at_, a, b2⟩ _ H4.out A4.out HWX.out).mono ?_
      rw [HME.out]
      rintro e w5 ⟨rfl, hb5⟩
      have hb5' := bcall hb4 hb5
      by_cases hm : me = 0
      · subst hm
        have I5 := Lib.hid (blk_below I4.out hb5)
        obtain ⟨kb, hkb⟩ : ∃ kb, kindsB f ⟨op, nn, vr, at_, a, b2⟩ = kb := ⟨_, rfl⟩
        have HKB := Lib.hid hkb
        clear hkb
        go_wp2_with (refine wpList_load_row rfl 60 _ rfl W1.heap.size rfl 60 _ (0, 0) _ I5.out Tryd.underlying60 rfl (by kernel_rfl) ?_)
        refine (kinds_any (some ⟨b, off, none⟩) n c f ⟨op, nn, vr, at_, a, b2⟩ _ (HT.out.later (bcall hb hb5')) HKK.out.1 HKK.out.2).mono ?_
        rw [HKB.out]
        rintro e w6 ⟨rfl, hb6⟩
        cases kb
        · have HE := Lib.hid (walkP_hit (S := S) (Q := Q) (r := false) (f := f) (e := 75) hlt (by rw [nodeE, HX.out, HME.out, HKB.out]; rfl) (by decide) HN.out)
          go_wp2_with fail
          go_ret2
          exact ⟨by rw [HE.out]; rfl, bcall hb (bcall hb5' hb6)⟩
        · have HY := Lib.hid (none_step (p := fun j => nodeE S Q false f j != 0) HN.out (by show (nodeE S Q false f k != 0) = false; rw [nodeE, HX.out, HME.out, HKB.out]; rfl))
          go_wp2_with fail
          go_roundw
          case rel => exact ⟨k + 1, by omega, by go_num, HY, bcall hb (bcall hb5' hb6)⟩
          case measure => simp [intOf]; omega
      · have hm' : (me != 0) = true := by rw [bne_iff_ne]; exact hm
        have hm2 : (me == 0) = false := by rw [beq_eq_false_iff_ne]; exact hm
        have HE := Lib.hid (walkP_hit (S := S) (Q := Q) (r := false) (f := f) (e := me) hlt (by rw [nodeE, HX.out, HME.out, if_pos hm]) hm HN.out)
        go_wp2_with fail
        go_ret2
        exact ⟨by rw [HE.out]; rfl, bcall hb hb5'⟩
    · obtain rfl : k = n := by omega
      have HE := Lib.hid (walkP_none HN.out)
      go_wp2_with fail
      go_ret2
      exact ⟨by rw [HE.out]; rfl, hb⟩
set_option maxRecDepth 100000 in
set_option maxHeartbeats 4000000 in
theorem walkRet_any {sb qb mb bn cap ab : Nat} {A : Option Addr} {S : Sch} {V : QryV} {Q : Qry} {DN : DataW Unit} {T : TypeId} (aT : Option Addr) (n c : Nat) (f : Nat → Nod) (w : World) (h : AskRd w sb qb mb bn A cap S V Q DN) (ha : w.heap[ab]? = some (.cells #[askV sb qb mb] T (0, 0)))
    (hT : NodRd w w.heap.size aT n f) (hN : ∀ j, j < n → NodWf (f j)) (hab : ∀ j, j < n → (f j).a < n ∧ (f j).b < n) :
    Calls Tryd.prog 87 #[.slice aT n c, .func (.func 90) #[] #[.pointer (some ⟨ab, 0, none⟩)]] w fun e w' => e = .returned (.tuple #[.int .i64 (walkP S Q true n f).1, .int .i64 (walkP S Q true n f).2]) ∧ Below w.heap.size w w' := by
  have hn := hT.small
  have H0 := Lib.hid h
  have A0 := Lib.hid ha
  have HT := Lib.hid hT
  have HNW := Lib.hid hN
  have HAB := Lib.hid hab
  clear h ha hT hN hab
  go_enter Tryd.func87, Tryd.ntmps87
  go_wp2_with fail
  go_loopw [11] (fun i wr => ∃ k : Nat, k ≤ n ∧ i = .int .i64 k ∧ Hid (∀ j, j < k → (nodeE S Q true f j != 0) = false) ∧ Below w.heap.size w wr) (fun i _ => n - (intOf i).toNat)
  case atStart => exact ⟨0, Nat.zero_le _, rfl, Lib.hid none_zero, Below.refl _ _⟩
  case round =>
    obtain ⟨k, hk, rfl, HN, hb⟩ := hrel
    obtain ⟨W1, e1⟩ : ∃ W1 : World, W1 = wr := ⟨_, rfl⟩
    subst e1
    by_cases hlt : k < n
    · obtain ⟨b, off, rfl, hbl, hcs⟩ := (HT.out.later hb).spot (by omega)
      obtain ⟨g0, g1, g2, g3, g4, g5⟩ := hcs k hlt
      have hwf := HNW.out k hlt
      have hkk := HAB.out k hlt
      obtain ⟨x, hx⟩ : ∃ x, f k = x := ⟨_, rfl⟩
      rw [hx] at g0 g1 g2 g3 g4 g5 hwf hkk
      obtain ⟨op, nn, vr, at_, a, b2⟩ := x
      have HWX := Lib.hid hwf
      have HKK := Lib.hid hkk
      have I4 := Lib.hid (blk_new W1 #[.int .i64 op, .int .i64 nn, .string vr, .string at_, .int .i64 a, .int .i64 b2] 60)
      have hb4 := bnew (Below.refl W1.heap.size W1) (.cells #[.int .i64 op, .int .i64 nn, .string vr, .string at_, .int .i64 a, .int .i64 b2] 60)
      have H4 := Lib.hid (H0.out.later (bcall hb hb4))
      have A4 := Lib.hid (blk_below A0.out (bcall hb hb4))
      have hz4 : W1.heap.size < (W1.alloc (.cells #[.int .i64 op, .int .i64 nn, .string vr, .string at_, .int .i64 a, .int .i64 b2] 60)).heap.size := by simp
      obtain ⟨me, hme⟩ : ∃ me, mentE S Q true ⟨op, nn, vr, at_, a, b2⟩ = me := ⟨_, rfl⟩
      have HME := Lib.hid hme
      have HX := Lib.hid hx
      clear hcs hx hwf hkk hme
      go_upto_region 4 with fail
      generalize W1.alloc _ = w4 at *
      clear g0 g1 g2 g3 g4 g5
      go_wp2_with (refine wpList_load_row rfl 60 _ rfl W1.heap.size rfl 60 _ (0, 0) _ I4.out Tryd.underlying60 rfl (by kernel_rfl) ?_)
      refine (askRet_any ⟨op, nn, vr, at_, a, b2⟩ _ H4.out A4.out HWX.out).mono ?_
      rw [HME.out]
      rintro e w5 ⟨rfl, hb5⟩
      have hb5' := bcall hb4 hb5
      by_cases hm : me = 0
      · subst hm
        have I5 := Lib.hid (blk_below I4.out hb5)
        obtain ⟨kb, hkb⟩ : ∃ kb, kindsB f ⟨op, nn, vr, at_, a, b2⟩ = kb := ⟨_, rfl⟩
        have HKB := Lib.hid hkb
        clear hkb
        go_wp2_with (refine wpList_load_row rfl 60 _ rfl W1.heap.size rfl 60 _ (0, 0) _ I5.out Tryd.underlying60 rfl (by kernel_rfl) ?_)
        refine (kinds_any (some ⟨b, off, none⟩) n c f ⟨op, nn, vr, at_, a, b2⟩ _ (HT.out.later (bcall hb hb5')) HKK.out.1 HKK.out.2).mono ?_
        rw [HKB.out]
        rintro e w6 ⟨rfl, hb6⟩
        cases kb
        · have HE := Lib.hid (walkP_hit (S := S) (Q := Q) (r := true) (f := f) (e := 75) hlt (by rw [nodeE, HX.out, HME.out, HKB.out]; rfl) (by decide) HN.out)
          go_wp2_with fail
          go_ret2
          exact ⟨by rw [HE.out]; rfl, bcall hb (bcall hb5' hb6)⟩
        · have HY := Lib.hid (none_step (p := fun j => nodeE S Q true f j != 0) HN.out (by show (nodeE S Q true f k != 0) = false; rw [nodeE, HX.out, HME.out, HKB.out]; rfl))
          go_wp2_with fail
          go_roundw
          case rel => exact ⟨k + 1, by omega, by go_num, HY, bcall hb (bcall hb5' hb6)⟩
          case measure => simp [intOf]; omega
      · have hm' : (me != 0) = true := by rw [bne_iff_ne]; exact hm
        have hm2 : (me == 0) = false := by rw [beq_eq_false_iff_ne]; exact hm
        have HE := Lib.hid (walkP_hit (S := S) (Q := Q) (r := true) (f := f) (e := me) hlt (by rw [nodeE, HX.out, HME.out, if_pos hm]) hm HN.out)
        go_wp2_with fail
        go_ret2
        exact ⟨by rw [HE.out]; rfl, bcall hb hb5'⟩
    · obtain rfl : k = n := by omega
      have HE := Lib.hid (walkP_none HN.out)
      go_wp2_with fail
      go_ret2
      exact ⟨by rw [HE.out]; rfl, hb⟩
end Go.Proofs.YtagcbljfaflhoaaDoor

/-! ### What may not stand together, and what is wrong with WHERE: plain, and the walks of check.mixed, check.where. -/
namespace Go.Proofs.YtagcbljfaflhoaaDoor
open Go.RowKit Go.ChangeShapes Go.WideShapes Go.ChangeAt Go.Deep Go.Joins
def touchB (y : Itm) : Bool := y.neg || decide (1 < y.hi)
/-- How many of the first k of a list touch. -/
def cntT (Q : Qry) (L : List Nat) (k : Nat) : Nat := ((L.take k).filter fun i => touchB (Q.it i)).length
def mixB (Q : Qry) (L : List Nat) : Bool := decide (1 < (L.filter fun i => touchB (Q.it i)).length)
theorem cntT_le (Q : Qry) (L : List Nat) (k : Nat) : cntT Q L k ≤ k := by
  unfold cntT
  refine Nat.le_trans (List.length_filter_le _ _) ?_
  simp
  omega
theorem getD_at {L : List Nat} {k : Nat} (hk : k < L.length) : L.getD k 0 = L[k] := by
  rw [List.getD_eq_getElem?_getD, List.getElem?_eq_getElem hk]
  rfl
theorem cntT_next {Q : Qry} {L : List Nat} {k : Nat} (hk : k < L.length) : cntT Q L (k + 1) = cntT Q L k + if touchB (Q.it (L.getD k 0)) = true then 1 else 0 := by
  unfold cntT
  have e : L.take (k + 1) = L.take k ++ [L[k]] := by
    rw [List.take_add_one, List.getElem?_eq_getElem hk]
    rfl
  rw [e, List.filter_append, List.length_append, getD_at hk]
  cases h : touchB (Q.it L[k]) <;> simp [h]
theorem cntT_all (Q : Qry) (L : List Nat) : cntT Q L L.length = (L.filter fun i => touchB (Q.it i)).length := by
  unfold cntT
  rw [List.take_length]
theorem natrow_rd {w : World} {B : Nat} {A : Option Addr} {c : Nat} {L : List Nat} (h : w.ownsRow B 3 1 (.slice A L.length c) L.length (L.map natV)) (hL : L.length ≤ 2199023255488) : IntRd w w.heap.size A L.length (fun j => (L.getD j 0 : Nat)) := by
  rw [natV_flat] at h
  exact rowown_rd h (by omega)
theorem getD_mem {L : List Nat} {k : Nat} (hk : k < L.length) : L.getD k 0 ∈ L := by
  rw [getD_at hk]
  exact List.getElem_mem hk
set_option maxRecDepth 100000 in
set_option maxHeartbeats 2000000 in
theorem mixed_any (V : QryV) (Q : Qry) (L : List Nat) (B1 : Option Addr) (c1 : Nat) (v2 v3 : Value) (w : World) (h : QryRd w w.heap.size V Q) (hB : IntRd w w.heap.size B1 L.length (fun j => (L.getD j 0 : Nat))) (hL : ∀ i ∈ L, i < Q.n) :
    Calls Tryd.prog 89 #[.agg (qryArr V Q), .agg #[.slice B1 L.length c1, v2, v3]] w fun e w' => e = .returned (.bool (mixB Q L)) ∧ Below w.heap.size w w' := by
  obtain ⟨aI, cI, aW, cW, aR, cR⟩ := V
  show Calls _ _ #[.agg #[.slice aI Q.n cI, .int .i64 Q.mode, .int .i64 Q.after, .slice aW Q.wn cW, .int .i64 Q.within, .string Q.by_, .slice aR Q.m cR], _] w _
  have hn := hB.1
  have hnI := h.rI.small
  have hb0 := bnew (bnew (Below.refl w.heap.size w) (.cells #[.slice aI Q.n cI, .int .i64 Q.mode, .int .i64 Q.after, .slice aW Q.wn cW, .int .i64 Q.within, .string Q.by_, .slice aR Q.m cR] 40)) (.cells #[.slice B1 L.length c1, v2, v3] 57)
  have q0 := blk_alloc (blk_new w #[.slice aI Q.n cI, .int .i64 Q.mode, .int .i64 Q.after, .slice aW Q.wn cW, .int .i64 Q.within, .string Q.by_, .slice aR Q.m cR] 40) (.cells #[.slice B1 L.length c1, v2, v3] 57)
  have u0 := blk_new (w.alloc (.cells #[.slice aI Q.n cI, .int .i64 Q.mode, .int .i64 Q.after, .slice aW Q.wn cW, .int .i64 Q.within, .string Q.by_, .slice aR Q.m cR] 40)) #[.slice B1 L.length c1, v2, v3] 57
  rw [World.size_alloc] at u0
  have B0 := Lib.hid q0
  have U0 := Lib.hid u0
  have HQ := Lib.hid (h.later hb0)
  obtain ⟨g, hg⟩ : ∃ g : Nat → Nat, (fun j => L.getD j 0) = g := ⟨_, rfl⟩
  have HG := Lib.hid (fun j => congrFun hg j)
  have HI := Lib.hid (show IntRd _ _ B1 L.length (fun j => (g j : Nat)) by rw [← hg]; exact IntRd.later hB hb0)
  have HL := Lib.hid hL
  clear h hB hL q0 u0 hg
  go_enter Tryd.func89, Tryd.ntmps89
  go_upto_region 1 with fail
  generalize (w.alloc _).alloc _ = w0 at *
  have x0 := blk_cell B0.out (j := 0) rfl
  have y0 := blk_cell U0.out (j := 0) rfl
  go_wp2_with fail
  go_loop [12, 5, 6] (fun i p q => ∃ (k a b : Nat), k ≤ L.length ∧ i = .int .i64 k ∧ p = .int .i64 a ∧ q = .int .i64 b ∧ a + b = cntT Q L k) (fun i _ _ => L.length - (intOf i).toNat)
  case atStart => exact ⟨0, 0, 0, Nat.zero_le _, rfl, rfl, rfl, rfl⟩
  case round =>
    obtain ⟨k, a, b, hk, rfl, rfl, rfl, hab⟩ := hrel
    have hkl := cntT_le Q L k
    by_cases hlt : k < L.length
    · obtain ⟨lb, lo_, rfl, hbl, hcs⟩ := HI.out.spot (by omega)
      have d0 := hcs k hlt
      have hnx := cntT_next (Q := Q) hlt
      have hin := HL.out _ (getD_mem hlt)
      have hgk : L.getD k 0 = g k := HG.out k
      rw [hgk] at hnx hin
      clear hgk
      obtain ⟨i, hi⟩ : ∃ i, g k = i := ⟨_, rfl⟩
      rw [hi] at hnx hin d0
      obtain ⟨ib, off, eI, hbi, hci⟩ := HQ.out.rI.spot (by omega)
      have eI : aI = some ⟨ib, off, none⟩ := eI
      subst eI
      obtain ⟨g0, _, _, _, g4⟩ := hci i hin
      obtain ⟨y, hy⟩ : ∃ y, Q.it i = y := ⟨_, rfl⟩
      rw [hy] at g0 g4 hnx
      obtain ⟨ng, tn, ty, vr, lo, hi'⟩ := y
      have g0 : w0.cell? ⟨ib, off + i * 5, none⟩ = some (.bool ng) := g0
      have g4 : w0.cell? ⟨ib, off + i * 5 + 4, none⟩ = some (.int .i64 hi') := g4
      clear hcs hci hi hy
      cases ng
      · by_cases hh : 1 < hi'
        · have e : cntT Q L (k + 1) = cntT Q L k + 1 := by rw [hnx, if_pos (by simp [touchB, hh])]
          go_wp2_with fail
          go_round
          case rel => exact ⟨k + 1, a, b + 1, by omega, by go_num, rfl, by go_num, by omega⟩
          case measure => simp [intOf]; omega
        · have e : cntT Q L (k + 1) = cntT Q L k := by rw [hnx, if_neg (by simp [touchB, hh])]; omega
          go_wp2_with fail
          go_round
          case rel => exact ⟨k + 1, a, b, by omega, by go_num, rfl, rfl, by omega⟩
          case measure => simp [intOf]; omega
      · have e : cntT Q L (k + 1) = cntT Q L k + 1 := by rw [hnx, if_pos (by simp [touchB])]
        go_wp2_with fail
        go_round
        case rel => exact ⟨k + 1, a + 1, b, by omega, by go_num, by go_num, rfl, by omega⟩
        case measure => simp [intOf]; omega
    · obtain rfl : k = L.length := by omega
      have hs : a + b ≤ 17592186044416 := by omega
      rw [cntT_all] at hab
      have HE := Lib.hid (show mixB Q L = decide ((1 : Int) < (a : Int) + (b : Int)) by rw [mixB, ← hab, decide_eq_decide]; omega)
      go_wp2_with fail
      go_ret
      exact ⟨by rw [HE.out]; rfl, hb0⟩
end Go.Proofs.YtagcbljfaflhoaaDoor

/-! ### What is wrong with WHERE: plain. -/
namespace Go.Proofs.YtagcbljfaflhoaaDoor
open Go.RowKit Go.ChangeShapes Go.WideShapes Go.ChangeAt Go.Deep Go.Joins
/-- What is wrong with the tree's nodes, or with its kind (want: must it give a truth?). -/
def treeP (S : Sch) (Q : Qry) (r : Bool) (n : Nat) (f : Nat → Nod) : Int × Int :=
  if (walkP S Q r n f).2 = 0 ∧ isTruthB n f = r then ((n : Int) - 1, 75) else walkP S Q r n f
def whereF (S : Sch) (Q : Qry) : Flw :=
  if Q.wn = 0 then ⟨0, 0, 0, 0⟩ else if (treeP S Q false Q.wn Q.wh).2 ≠ 0 then ⟨(treeP S Q false Q.wn Q.wh).2, 4, (treeP S Q false Q.wn Q.wh).1, 0⟩
  else match (conjL Q.wn Q.wh).find? (fun root : Nat => mixB Q (usesL bareB Q.n Q.it (subF Q.wn Q.wh root) (sizeI Q.wn Q.wh root) Q.n)) with
    | some root => ⟨77, 4, root, 0⟩
    | none => ⟨0, 0, 0, 0⟩
theorem conjL_eq {n : Nat} {f : Nat → Nod} (ht : treeB n f = true) : conjL n f = (List.range n).filter (fun i => topB n f (begF n f) i && (f i).op != 25) := conjL_filter ht
theorem size_le {n : Nat} {f : Nat → Nod} {root : Int} : sizeI n f root ≤ n := by
  unfold sizeI
  split
  · omega
  · exact Nat.zero_le _
theorem find_hit {p : Nat → Bool} {L : List Nat} {k root : Nat} (hk : k < L.length) (hr : L.getD k 0 = root) (hp : p root = true) (hn : ∀ j, j < k → p (L.getD j 0) = false) : L.find? p = some root := by
  rw [List.find?_eq_some_iff_getElem]
  refine ⟨hp, k, hk, ?_, fun j hj => ?_⟩
  · rw [← hr, getD_at hk]
  · have := hn j hj
    rw [getD_at (by omega)] at this
    simp [this]
theorem find_no {p : Nat → Bool} {L : List Nat} (hn : ∀ j, j < L.length → p (L.getD j 0) = false) : L.find? p = none := by
  rw [List.find?_eq_none]
  intro x hx
  obtain ⟨j, hj, rfl⟩ := List.getElem_of_mem hx
  have := hn j hj
  rw [getD_at hj] at this
  simp [this]
theorem sub_wf {n : Nat} {f : Nat → Nod} (ht : treeB n f = true) (hn : n ≤ 2199023255488) (hw : ∀ j, j < n → NodWf (f j)) (root : Int) : ∀ j, j < sizeI n f root → NodWf (subF n f root j) := by
  intro j hj
  unfold sizeI at hj
  split at hj
  · rename_i hc
    have hs := (tree_shp ht).2.1
    have hle := hs.le root.toNat (by omega)
    have h := hw (begF n f root.toNat + j) (by omega)
    have hr := hs.rng (j := begF n f root.toNat + j) (by omega)
    have ha := h.a
    have hb := h.b
    unfold I64 at ha hb
    refine ⟨h.op, h.n, ?_, ?_, h.vr, h.at_⟩
    · show I64 (if 0 ≤ (f (begF n f root.toNat + j)).a then (f (begF n f root.toNat + j)).a - (begF n f root.toNat : Nat) else (f (begF n f root.toNat + j)).a)
      unfold I64
      split <;> omega
    · show I64 (if 0 ≤ (f (begF n f root.toNat + j)).b then (f (begF n f root.toNat + j)).b - (begF n f root.toNat : Nat) else (f (begF n f root.toNat + j)).b)
      unfold I64
      split <;> omega
  · omega
theorem uses_lt {P : Int → Bool} {n : Nat} {it : Nat → Itm} {t : Nat → Nod} {k m : Nat} : ∀ i ∈ usesL P n it t k m, i < m := by
  intro i hi
  unfold usesL at hi
  exact List.mem_range.1 (List.mem_filter.1 hi).1
theorem conjL_lt {n : Nat} {f : Nat → Nod} (ht : treeB n f = true) : ∀ i ∈ conjL n f, i < n := by
  intro i hi
  rw [conjL_eq ht] at hi
  exact List.mem_range.1 (List.mem_filter.1 hi).1
theorem conj_len {n : Nat} {f : Nat → Nod} : (conjL n f).length ≤ n := by
  cases ht : treeB n f
  · rw [conjL, ht]; simp
  · rw [conjL_eq ht]
    refine Nat.le_trans (List.length_filter_le _ _) ?_
    simp
end Go.Proofs.YtagcbljfaflhoaaDoor

/-! ### The walk of check.where. -/
namespace Go.Proofs.YtagcbljfaflhoaaDoor
open Go.RowKit Go.ChangeShapes Go.WideShapes Go.ChangeAt Go.Deep Go.Joins
set_option maxRecDepth 100000 in
set_option maxHeartbeats 8000000 in
theorem where_any {sb qb mb bn cap : Nat} {A : Option Addr} {S : Sch} (V : QryV) {Q : Qry} {DN : DataW Unit} (w : World) (h : AskRd w sb qb mb bn A cap S V Q DN) (hwf : QryWf Q) (ht : Q.wn ≠ 0 → treeB Q.wn Q.wh = true) {tt : TypeId} {fr : Nat × Nat} (hkw : w.heap[0]? = some (.cells kwArr tt fr)) :
    Calls Tryd.prog 59 #[.agg (qryArr V Q), askV sb qb mb] w fun e w' => e = .returned (.agg (flwArr (whereF S Q))) ∧ Below w.heap.size w w' := by
  obtain ⟨aI, cI, aW, cW, aR, cR⟩ := V
  show Calls _ _ #[.agg #[.slice aI Q.n cI, .int .i64 Q.mode, .int .i64 Q.after, .slice aW Q.wn cW, .int .i64 Q.within, .string Q.by_, .slice aR Q.m cR], .func (.func 57) #[] #[.pointer (some ⟨sb, 0, none⟩), .pointer (some ⟨qb, 0, none⟩), .pointer (some ⟨mb, 0, none⟩)]] w _
  have hnI := h.qry.rI.small
  have hnW := h.qry.rW.small
  have hlW := h.qry.lW
  have hb0 := bnew (bnew (bnew (Below.refl w.heap.size w) (.cells #[.slice aI Q.n cI, .int .i64 Q.mode, .int .i64 Q.after, .slice aW Q.wn cW, .int .i64 Q.within, .string Q.by_, .slice aR Q.m cR] 40)) (.cells #[askV sb qb mb] 84)) (.cells #[.int .i64 0, .int .i64 0, .int .i64 0, .int .i64 0] 47)
  have q0 := blk_alloc (blk_alloc (blk_new w #[.slice aI Q.n cI, .int .i64 Q.mode, .int .i64 Q.after, .slice aW Q.wn cW, .int .i64 Q.within, .string Q.by_, .slice aR Q.m cR] 40) (.cells #[askV sb qb mb] 84)) (.cells #[.int .i64 0, .int .i64 0, .int .i64 0, .int .i64 0] 47)
  have a0 := blk_alloc (blk_new (w.alloc (.cells #[.slice aI Q.n cI, .int .i64 Q.mode, .int .i64 Q.after, .slice aW Q.wn cW, .int .i64 Q.within, .string Q.by_, .slice aR Q.m cR] 40)) #[askV sb qb mb] 84) (.cells #[.int .i64 0, .int .i64 0, .int .i64 0, .int .i64 0] 47)
  have r0 := blk_new ((w.alloc (.cells #[.slice aI Q.n cI, .int .i64 Q.mode, .int .i64 Q.after, .slice aW Q.wn cW, .int .i64 Q.within, .string Q.by_, .slice aR Q.m cR] 40)).alloc (.cells #[askV sb qb mb] 84)) #[.int .i64 0, .int .i64 0, .int .i64 0, .int .i64 0] 47
  have hz0 : w.heap.size + 2 < (((w.alloc (.cells #[.slice aI Q.n cI, .int .i64 Q.mode, .int .i64 Q.after, .slice aW Q.wn cW, .int .i64 Q.within, .string Q.by_, .slice aR Q.m cR] 40)).alloc (.cells #[askV sb qb mb] 84)).alloc (.cells #[.int .i64 0, .int .i64 0, .int .i64 0, .int .i64 0] 47)).heap.size := by simp
  rw [World.size_alloc] at a0
  rw [World.size_alloc, World.size_alloc] at r0
  have A0 := Lib.hid a0
  have B0 := Lib.hid q0
  have R0 := Lib.hid r0
  have H0 := Lib.hid (h.later hb0)
  have HK := Lib.hid (block_below hkw hb0)
  have HWF := Lib.hid hwf
  clear h q0 a0 r0 hwf hkw
  unfold askV at A0 B0 R0 H0 HK hb0 hz0
  go_enter Tryd.func59, Tryd.ntmps59
  go_upto_region 1 with fail
  generalize ((w.alloc _).alloc _).alloc _ = w0 at *
  have x3 := blk_cell B0.out (j := 3) rfl
  by_cases hw0 : Q.wn = 0
  · have HE := Lib.hid (show whereF S Q = ⟨0, 0, 0, 0⟩ by rw [whereF, if_pos hw0])
    have hz : ((Q.wn : Int) == 0) = true := by rw [beq_iff_eq]; omega
    go_wp2_with (refine wpList_store_row rfl 47 _ _ rfl (w.heap.size + 2) #[.int .i64 0, .int .i64 0, .int .i64 0, .int .i64 0] rfl rfl 47 _ (R0.out) (by kernel_rfl) rfl (by simp [Value.oneCell']) ?_)
    (try simp only [Exit.inBlock, Exit.then])
    have BF := Lib.hid (row_set (R0.out) #[.int .i64 0, .int .i64 0, .int .i64 0, .int .i64 0])
    have hbf := below_setRow (cs := #[.int .i64 0, .int .i64 0, .int .i64 0, .int .i64 0]) (hb0) (show w.heap.size ≤ w.heap.size + 2 by omega)
    generalize World.setRow _ _ _ = wf at *
    refine bodyPost_ret (v := .agg #[.int .i64 0, .int .i64 0, .int .i64 0, .int .i64 0]) ?_ rfl ?_
    · exact results_cell_row Tryd.results59 _ _ (w.heap.size + 2) 47 _ (0, 0) _ rfl BF.out Tryd.underlying47 rfl (by kernel_rfl)
    · exact ⟨by rw [HE.out]; rfl, hbf⟩
  · have hz : ((Q.wn : Int) == 0) = false := by rw [beq_eq_false_iff_ne]; omega
    have ht := ht hw0
    obtain ⟨_, hshp, _, _⟩ := tree_shp ht
    have HTR := Lib.hid ht
    have HAB : Hid (∀ j, j < Q.wn → (Q.wh j).a < Q.wn ∧ (Q.wh j).b < Q.wn) := Lib.hid (fun j hj => by have := hshp.rng hj; omega)
    clear ht hshp
    go_wp2_with fail
    refine (walkWhere_any aW Q.wn cW Q.wh _ H0.out A0.out H0.out.qry.rW HWF.out.wh HAB.out).mono ?_
    obtain ⟨pi, pe, hp⟩ : ∃ pi pe, walkP S Q false Q.wn Q.wh = (pi, pe) := ⟨_, _, rfl⟩
    rw [hp]
    have HP := Lib.hid hp
    clear hp
    rintro e w1 ⟨rfl, hb1⟩
    have hb1' := bcall hb0 hb1
    have B1 := Lib.hid (blk_below B0.out hb1)
    have R1 := Lib.hid (blk_below R0.out hb1)
    have H1 := Lib.hid (H0.out.later hb1)
    have HK1 := Lib.hid (block_below HK.out hb1)
    have z3 := blk_cell B1.out (j := 3) rfl
    clear x3 B0 R0 H0 HK A0
    by_cases hpe : pe = 0
    · subst hpe
      cases hit : isTruthB Q.wn Q.wh
      · have HE := Lib.hid (show whereF S Q = ⟨75, 4, (Q.wn : Int) - 1, 0⟩ by
          have e1 : treeP S Q false Q.wn Q.wh = ((Q.wn : Int) - 1, 75) := by rw [treeP, HP.out, if_pos ⟨rfl, hit⟩]
          rw [whereF, if_neg hw0, e1, if_pos (show (75 : Int) ≠ 0 by decide)])
        go_upto_region 7 with (go_at_call 16; refine (isTruth_any aW Q.wn cW Q.wh _ H1.out.qry.rW).mono ?_; rw [hit]; rintro e wq ⟨rfl, hq⟩; have hq := hq.symm; subst hq)
        go_wp2_with (refine wpList_store_row rfl 47 _ _ rfl (w.heap.size + 2) #[.int .i64 75, .int .i64 4, .int .i64 ((Q.wn : Int) - 1), .int .i64 0] rfl rfl 47 _ (R1.out) (by kernel_rfl) rfl (by simp [Value.oneCell']) ?_)
        (try simp only [Exit.inBlock, Exit.then])
        have BF := Lib.hid (row_set (R1.out) #[.int .i64 75, .int .i64 4, .int .i64 ((Q.wn : Int) - 1), .int .i64 0])
        have hbf := below_setRow (cs := #[.int .i64 75, .int .i64 4, .int .i64 ((Q.wn : Int) - 1), .int .i64 0]) (hb1') (show w.heap.size ≤ w.heap.size + 2 by omega)
        generalize World.setRow _ _ _ = wf at *
        refine bodyPost_ret (v := .agg #[.int .i64 75, .int .i64 4, .int .i64 ((Q.wn : Int) - 1), .int .i64 0]) ?_ rfl ?_
        · exact results_cell_row Tryd.results59 _ _ (w.heap.size + 2) 47 _ (0, 0) _ rfl BF.out Tryd.underlying47 rfl (by kernel_rfl)
        · exact ⟨by rw [HE.out]; rfl, hbf⟩
      · have HT0 := Lib.hid (show treeP S Q false Q.wn Q.wh = (pi, 0) by rw [treeP, HP.out, if_neg (by rw [hit]; simp)])
        have HE0 := Lib.hid (show whereF S Q = match (conjL Q.wn Q.wh).find? (fun root : Nat => mixB Q (usesL bareB Q.n Q.it (subF Q.wn Q.wh root) (sizeI Q.wn Q.wh root) Q.n)) with
            | some root => ⟨77, 4, root, 0⟩
            | none => ⟨0, 0, 0, 0⟩ by rw [whereF, if_neg hw0, HT0.out, if_neg (by simp)]; try rfl)
        go_wp2_with (first | (go_at_call 16; refine (isTruth_any aW Q.wn cW Q.wh _ H1.out.qry.rW).mono ?_; rw [hit]; rintro e wq ⟨rfl, hq⟩; have hq := hq.symm; subst hq) | (go_at_call 15; refine (checkConj_any aW Q.wn cW Q.wh _ H1.out.qry.rW HK1.out).mono ?_; rintro e w2 ⟨v2, rfl, hb2, hown2⟩; obtain ⟨A2, c2, rfl, _⟩ := rowown_shape hown2))
        have hcl := conj_len (n := Q.wn) (f := Q.wh)
        obtain ⟨g, hg⟩ : ∃ g : Nat → Nat, (fun j => (conjL Q.wn Q.wh).getD j 0) = g := ⟨_, rfl⟩
        have HG := Lib.hid (fun j => congrFun hg j)
        have HR2 := Lib.hid (show IntRd _ _ A2 (conjL Q.wn Q.wh).length (fun j => (g j : Nat)) by rw [← hg]; exact natrow_rd hown2 (by omega))
        have hb2' := bcall hb1' hb2
        clear hown2 z3 hg
        go_loopw [42] (fun i wr => ∃ k : Nat, k ≤ (conjL Q.wn Q.wh).length ∧ i = .int .i64 k ∧ Hid (∀ j, j < k → mixB Q (usesL bareB Q.n Q.it (subF Q.wn Q.wh ((conjL Q.wn Q.wh).getD j 0 : Nat)) (sizeI Q.wn Q.wh ((conjL Q.wn Q.wh).getD j 0 : Nat)) Q.n) = false) ∧ Below w2.heap.size w2 wr) (fun i _ => (conjL Q.wn Q.wh).length - (intOf i).toNat)
        case atStart => exact ⟨0, Nat.zero_le _, rfl, Lib.hid (none_zero (p := fun j => mixB Q (usesL bareB Q.n Q.it (subF Q.wn Q.wh ((conjL Q.wn Q.wh).getD j 0 : Nat)) (sizeI Q.wn Q.wh ((conjL Q.wn Q.wh).getD j 0 : Nat)) Q.n))), Below.refl _ _⟩
        case round =>
          obtain ⟨k, hk, rfl, HN, hb⟩ := hrel
          obtain ⟨W1, e1⟩ : ∃ W1 : World, W1 = wr := ⟨_, rfl⟩
          subst e1
          have hb12 := bcall hb2 hb
          have hbk := bcall hb1' hb12
          have R2 := Lib.hid (blk_below R1.out hb12)
          by_cases hlt : k < (conjL Q.wn Q.wh).length
          · obtain ⟨lb, lo_, rfl, hbl, hcs⟩ := (IntRd.later HR2.out hb).spot (by omega)
            have d0 := hcs k hlt
            have hroot := conjL_lt HTR.out _ (getD_mem hlt)
            have hgk : (conjL Q.wn Q.wh).getD k 0 = g k := HG.out k
            rw [hgk] at hroot
            obtain ⟨root, hr⟩ : ∃ root, g k = root := ⟨_, rfl⟩
            rw [hr] at d0 hroot hgk
            have HRT := Lib.hid hgk
            clear hgk
            have B2 := Lib.hid (blk_below B1.out hb12)
            have H2 := Lib.hid (H1.out.later hb12)
            have HK2 := Lib.hid (block_below HK1.out hb12)
            obtain ⟨y0, y1, y2, y3, y4, y5, y6⟩ := blk7 B2.out
            obtain ⟨mx, hmx⟩ : ∃ mx, mixB Q (usesL bareB Q.n Q.it (subF Q.wn Q.wh root) (sizeI Q.wn Q.wh root) Q.n) = mx := ⟨_, rfl⟩
            have HMX := Lib.hid hmx
            have HSW := Lib.hid (sub_wf HTR.out hnW HWF.out.wh root)
            have hsz := size_le (n := Q.wn) (f := Q.wh) (root := (root : Int))
            clear hcs hr hmx
            go_upto_region 11 with fail
            go_region_held3 (fun w' => w'.cell? ⟨w.heap.size, 0, none⟩ = some (.slice aI Q.n cI) ∧ w'.cell? ⟨w.heap.size, 1, none⟩ = some (.int .i64 Q.mode) ∧ w'.cell? ⟨w.heap.size, 2, none⟩ = some (.int .i64 Q.after) ∧ w'.cell? ⟨w.heap.size, 3, none⟩ = some (.slice aW Q.wn cW) ∧ w'.cell? ⟨w.heap.size, 4, none⟩ = some (.int .i64 Q.within) ∧ w'.cell? ⟨w.heap.size, 5, none⟩ = some (.string Q.by_) ∧ w'.cell? ⟨w.heap.size, 6, none⟩ = some (.slice aR Q.m cR) ∧ Below W1.heap.size W1 w')
              (first
                | exact ⟨y0, y1, y2, y3, y4, y5, y6, (Below.refl _ _).drew⟩
                | (go_split_ands; have hbq := bcall (show Below W1.heap.size W1 _ by assumption) hbz; have q7 := blk7 (blk_below B2.out hbq); exact ⟨q7.1, q7.2.1, q7.2.2.1, q7.2.2.2.1, q7.2.2.2.2.1, q7.2.2.2.2.2.1, q7.2.2.2.2.2.2, hbq⟩))
              (first
                | (go_at_call 14; go_split_ands; refine (checkSub_any aW Q.wn cW Q.wh root _ (H2.out.qry.rW.later (by assumption)) hlW (block_below HK2.out (by assumption))).mono ?_; rintro e w3 ⟨v3, rfl, hbz, hown3⟩; obtain ⟨A3, c3, rfl, _⟩ := rowown_shape hown3; have HN3 := Lib.hid (show NodRd w3 w3.heap.size A3 (sizeI Q.wn Q.wh root) (subF Q.wn Q.wh root) from rowown_rd hown3 (by omega)))
                | (go_at_call 37; go_split_ands; refine (uses_any ⟨aI, cI, aW, cW, aR, cR⟩ Q A3 (sizeI Q.wn Q.wh root) c3 (subF Q.wn Q.wh root) _ (H2.out.qry.later (by assumption)) HWF.out HN3.out HSW.out).mono ?_; rintro e w4 ⟨u1, u2, u3, rfl, hbz, o1, o2, o3⟩; obtain ⟨A4, c4, rfl, _⟩ := rowown_shape o1; have HI4 := Lib.hid (natrow_rd o1 (Nat.le_trans uses_len hnI)))
                | (go_at_call 89; go_split_ands; refine (mixed_any ⟨aI, cI, aW, cW, aR, cR⟩ Q _ A4 c4 u2 u3 _ (H2.out.qry.later (by assumption)) HI4.out uses_lt).mono ?_; rw [HMX.out]; rintro e w5 ⟨rfl, hbz⟩))
            all_goals
              go_split_ands
              have hb15 : Below W1.heap.size W1 w5 := by assumption
              have R5 := Lib.hid (blk_below R2.out hb15)
              have hbf0 := bcall hbk hb15
              clear y0 y1 y2 y3 y4 y5 y6 d0
              cases mx
              · have HY := Lib.hid (none_step (p := fun j => mixB Q (usesL bareB Q.n Q.it (subF Q.wn Q.wh ((conjL Q.wn Q.wh).getD j 0 : Nat)) (sizeI Q.wn Q.wh ((conjL Q.wn Q.wh).getD j 0 : Nat)) Q.n)) HN.out (by show mixB Q (usesL bareB Q.n Q.it (subF Q.wn Q.wh ((conjL Q.wn Q.wh).getD k 0 : Nat)) (sizeI Q.wn Q.wh ((conjL Q.wn Q.wh).getD k 0 : Nat)) Q.n) = false; rw [HRT.out]; exact HMX.out))
                go_wp2_with fail
                go_roundw
                case rel => exact ⟨k + 1, by omega, by go_num, HY, bcall hb hb15⟩
                case measure => simp [intOf]; omega
              · have HE := Lib.hid (show whereF S Q = ⟨77, 4, root, 0⟩ by rw [HE0.out, find_hit hlt HRT.out HMX.out HN.out])
                go_wp2_with (refine wpList_store_row rfl 47 _ _ rfl (w.heap.size + 2) #[.int .i64 77, .int .i64 4, .int .i64 (root : Nat), .int .i64 0] rfl rfl 47 _ (R5.out) (by kernel_rfl) rfl (by simp [Value.oneCell']) ?_)
                (try simp only [Exit.inBlock, Exit.then])
                have BF := Lib.hid (row_set (R5.out) #[.int .i64 77, .int .i64 4, .int .i64 (root : Nat), .int .i64 0])
                have hbf := below_setRow (cs := #[.int .i64 77, .int .i64 4, .int .i64 (root : Nat), .int .i64 0]) (hbf0) (show w.heap.size ≤ w.heap.size + 2 by omega)
                generalize World.setRow _ _ _ = wf at *
                refine bodyPost_ret (v := .agg #[.int .i64 77, .int .i64 4, .int .i64 (root : Nat), .int .i64 0]) ?_ rfl ?_
                · exact results_cell_row Tryd.results59 _ _ (w.heap.size + 2) 47 _ (0, 0) _ rfl BF.out Tryd.underlying47 rfl (by kernel_rfl)
                · exact ⟨by rw [HE.out]; rfl, hbf⟩
          · obtain rfl : k = (conjL Q.wn Q.wh).length := by omega
            have HE := Lib.hid (show whereF S Q = ⟨0, 0, 0, 0⟩ by rw [HE0.out, find_no HN.out])
            go_wp2_with (refine wpList_store_row rfl 47 _ _ rfl (w.heap.size + 2) #[.int .i64 0, .int .i64 0, .int .i64 0, .int .i64 0] rfl rfl 47 _ (R2.out) (by kernel_rfl) rfl (by simp [Value.oneCell']) ?_)
            (try simp only [Exit.inBlock, Exit.then])
            have BF := Lib.hid (row_set (R2.out) #[.int .i64 0, .int .i64 0, .int .i64 0, .int .i64 0])
            have hbf := below_setRow (cs := #[.int .i64 0, .int .i64 0, .int .i64 0, .int .i64 0]) (hbk) (show w.heap.size ≤ w.heap.size + 2 by omega)
            generalize World.setRow _ _ _ = wf at *
            refine bodyPost_ret (v := .agg #[.int .i64 0, .int .i64 0, .int .i64 0, .int .i64 0]) ?_ rfl ?_
            · exact results_cell_row Tryd.results59 _ _ (w.heap.size + 2) 47 _ (0, 0) _ rfl BF.out Tryd.underlying47 rfl (by kernel_rfl)
            · exact ⟨by rw [HE.out]; rfl, hbf⟩
    · have hpe' : (pe != 0) = true := by rw [bne_iff_ne]; exact hpe
      have hpe2 : (pe == 0) = false := by rw [beq_eq_false_iff_ne]; exact hpe
      have HE := Lib.hid (show whereF S Q = ⟨pe, 4, pi, 0⟩ by
        have e1 : treeP S Q false Q.wn Q.wh = (pi, pe) := by rw [treeP, HP.out, if_neg (fun h => hpe h.1)]
        rw [whereF, if_neg hw0, e1, if_pos hpe])
      go_wp2_with (refine wpList_store_row rfl 47 _ _ rfl (w.heap.size + 2) #[.int .i64 pe, .int .i64 4, .int .i64 pi, .int .i64 0] rfl rfl 47 _ (R1.out) (by kernel_rfl) rfl (by simp [Value.oneCell']) ?_)
      (try simp only [Exit.inBlock, Exit.then])
      have BF := Lib.hid (row_set (R1.out) #[.int .i64 pe, .int .i64 4, .int .i64 pi, .int .i64 0])
      have hbf := below_setRow (cs := #[.int .i64 pe, .int .i64 4, .int .i64 pi, .int .i64 0]) (hb1') (show w.heap.size ≤ w.heap.size + 2 by omega)
      generalize World.setRow _ _ _ = wf at *
      refine bodyPost_ret (v := .agg #[.int .i64 pe, .int .i64 4, .int .i64 pi, .int .i64 0]) ?_ rfl ?_
      · exact results_cell_row Tryd.results59 _ _ (w.heap.size + 2) 47 _ (0, 0) _ rfl BF.out Tryd.underlying47 rfl (by kernel_rfl)
      · exact ⟨by rw [HE.out]; rfl, hbf⟩
end Go.Proofs.YtagcbljfaflhoaaDoor

/-! ### What is wrong with RETURN: plain, and the walk of check.results. -/
namespace Go.Proofs.YtagcbljfaflhoaaDoor
open Go.RowKit Go.ChangeShapes Go.WideShapes Go.ChangeAt Go.Deep Go.Joins
/-- What is wrong with a result. -/
def retE (S : Sch) (Q : Qry) (k : Nat) : Int × Int := treeP S Q true (Q.ln k) (Q.rt k)
def retF (S : Sch) (Q : Qry) : Flw := if 8 < Q.m then ⟨78, 5, 8, 0⟩ else
  if firstI (fun k => (retE S Q k).2 != 0) Q.m = -1 then ⟨0, 0, 0, 0⟩
  else ⟨(retE S Q (firstI (fun k => (retE S Q k).2 != 0) Q.m).toNat).2, 5, firstI (fun k => (retE S Q k).2 != 0) Q.m, (retE S Q (firstI (fun k => (retE S Q k).2 != 0) Q.m).toNat).1⟩
theorem retF_many {S : Sch} {Q : Qry} (h : 8 < Q.m) : retF S Q = ⟨78, 5, 8, 0⟩ := by rw [retF, if_pos h]
theorem retF_hit {S : Sch} {Q : Qry} {k : Nat} {i e : Int} (h : ¬ 8 < Q.m) (hk : k < Q.m) (he : retE S Q k = (i, e)) (hb : e ≠ 0) (hn : ∀ j, j < k → ((retE S Q j).2 != 0) = false) : retF S Q = ⟨e, 5, k, i⟩ := by
  have e1 := firstI_hit (p := fun k => (retE S Q k).2 != 0) hk (by rw [bne_iff_ne, he]; exact hb) hn
  rw [retF, if_neg h, e1, if_neg (by omega), Int.toNat_natCast, he]
theorem retF_end {S : Sch} {Q : Qry} (h : ¬ 8 < Q.m) (hn : ∀ j, j < Q.m → ((retE S Q j).2 != 0) = false) : retF S Q = ⟨0, 0, 0, 0⟩ := by
  rw [retF, if_neg h, firstI_none hn, if_pos rfl]
set_option maxRecDepth 100000 in
set_option maxHeartbeats 8000000 in
theorem results_any {sb qb mb bn cap : Nat} {A : Option Addr} {S : Sch} (V : QryV) {Q : Qry} {DN : DataW Unit} (w : World) (h : AskRd w sb qb mb bn A cap S V Q DN) (hwf : QryWf Q) (ht : ∀ k, k < Q.m → treeB (Q.ln k) (Q.rt k) = true) :
    Calls Tryd.prog 61 #[.agg (qryArr V Q), askV sb qb mb] w fun e w' => e = .returned (.agg (flwArr (retF S Q))) ∧ Below w.heap.size w w' := by
  obtain ⟨aI, cI, aW, cW, aR, cR⟩ := V
  show Calls _ _ #[.agg #[.slice aI Q.n cI, .int .i64 Q.mode, .int .i64 Q.after, .slice aW Q.wn cW, .int .i64 Q.within, .string Q.by_, .slice aR Q.m cR], .func (.func 57) #[] #[.pointer (some ⟨sb, 0, none⟩), .pointer (some ⟨qb, 0, none⟩), .pointer (some ⟨mb, 0, none⟩)]] w _
  have hnR := h.qry.rR.small
  have hlR := h.qry.lR
  have hb0 := bnew (bnew (bnew (Below.refl w.heap.size w) (.cells #[.slice aI Q.n cI, .int .i64 Q.mode, .int .i64 Q.after, .slice aW Q.wn cW, .int .i64 Q.within, .string Q.by_, .slice aR Q.m cR] 40)) (.cells #[askV sb qb mb] 84)) (.cells #[.int .i64 0, .int .i64 0, .int .i64 0, .int .i64 0] 47)
  have q0 := blk_alloc (blk_alloc (blk_new w #[.slice aI Q.n cI, .int .i64 Q.mode, .int .i64 Q.after, .slice aW Q.wn cW, .int .i64 Q.within, .string Q.by_, .slice aR Q.m cR] 40) (.cells #[askV sb qb mb] 84)) (.cells #[.int .i64 0, .int .i64 0, .int .i64 0, .int .i64 0] 47)
  have a0 := blk_alloc (blk_new (w.alloc (.cells #[.slice aI Q.n cI, .int .i64 Q.mode, .int .i64 Q.after, .slice aW Q.wn cW, .int .i64 Q.within, .string Q.by_, .slice aR Q.m cR] 40)) #[askV sb qb mb] 84) (.cells #[.int .i64 0, .int .i64 0, .int .i64 0, .int .i64 0] 47)
  have r0 := blk_new ((w.alloc (.cells #[.slice aI Q.n cI, .int .i64 Q.mode, .int .i64 Q.after, .slice aW Q.wn cW, .int .i64 Q.within, .string Q.by_, .slice aR Q.m cR] 40)).alloc (.cells #[askV sb qb mb] 84)) #[.int .i64 0, .int .i64 0, .int .i64 0, .int .i64 0] 47
  have hz0 : w.heap.size + 2 < (((w.alloc (.cells #[.slice aI Q.n cI, .int .i64 Q.mode, .int .i64 Q.after, .slice aW Q.wn cW, .int .i64 Q.within, .string Q.by_, .slice aR Q.m cR] 40)).alloc (.cells #[askV sb qb mb] 84)).alloc (.cells #[.int .i64 0, .int .i64 0, .int .i64 0, .int .i64 0] 47)).heap.size := by simp
  rw [World.size_alloc] at a0
  rw [World.size_alloc, World.size_alloc] at r0
  have A0 := Lib.hid a0
  have B0 := Lib.hid q0
  have R0 := Lib.hid r0
  have H0 := Lib.hid (h.later hb0)
  have HWF := Lib.hid hwf
  have HTR := Lib.hid ht
  clear h q0 a0 r0 hwf ht
  unfold askV at A0 B0 R0 H0 hb0 hz0
  go_enter Tryd.func61, Tryd.ntmps61
  go_upto_region 1 with fail
  generalize ((w.alloc _).alloc _).alloc _ = w0 at *
  have x6 := blk_cell B0.out (j := 6) rfl
  by_cases h8 : 8 < Q.m
  · have HE := Lib.hid (retF_many (S := S) h8)
    go_wp2_with (refine wpList_store_row rfl 47 _ _ rfl (w.heap.size + 2) #[.int .i64 78, .int .i64 5, .int .i64 8, .int .i64 0] rfl rfl 47 _ (R0.out) (by kernel_rfl) rfl (by simp [Value.oneCell']) ?_)
    (try simp only [Exit.inBlock, Exit.then])
    have BF := Lib.hid (row_set (R0.out) #[.int .i64 78, .int .i64 5, .int .i64 8, .int .i64 0])
    have hbf := below_setRow (cs := #[.int .i64 78, .int .i64 5, .int .i64 8, .int .i64 0]) (hb0) (show w.heap.size ≤ w.heap.size + 2 by omega)
    generalize World.setRow _ _ _ = wf at *
    refine bodyPost_ret (v := .agg #[.int .i64 78, .int .i64 5, .int .i64 8, .int .i64 0]) ?_ rfl ?_
    · exact results_cell_row Tryd.results61 _ _ (w.heap.size + 2) 47 _ (0, 0) _ rfl BF.out Tryd.underlying47 rfl (by kernel_rfl)
    · exact ⟨by rw [HE.out]; rfl, hbf⟩
  · go_wp2_with fail
    go_loopw [17] (fun i wr => ∃ k : Nat, k ≤ Q.m ∧ i = .int .i64 k ∧ Hid (∀ j, j < k → ((retE S Q j).2 != 0) = false) ∧ Below w0.heap.size w0 wr) (fun i _ => Q.m - (intOf i).toNat)
    case atStart => exact ⟨0, Nat.zero_le _, rfl, Lib.hid (none_zero (p := fun j => (retE S Q j).2 != 0)), Below.refl _ _⟩
    case round =>
      obtain ⟨k, hk, rfl, HN, hb⟩ := hrel
      obtain ⟨W1, e1⟩ : ∃ W1 : World, W1 = wr := ⟨_, rfl⟩
      subst e1
      have hbk := bcall hb0 hb
      have R1 := Lib.hid (blk_below R0.out hb)
      by_cases hlt : k < Q.m
      · have H1 := Lib.hid (H0.out.later hb)
        have A1 := Lib.hid (blk_below A0.out hb)
        obtain ⟨lb, lo_, rfl, hbl, hcs⟩ := H1.out.qry.rR.spot (by omega)
        obtain ⟨aT, cT, d0, hlT, hzT, hT⟩ := hcs k hlt
        have HT := Lib.hid hT
        have htr := HTR.out k hlt
        obtain ⟨_, hshp, _, _⟩ := tree_shp htr
        have HAB : Hid (∀ j, j < Q.ln k → (Q.rt k j).a < Q.ln k ∧ (Q.rt k j).b < Q.ln k) := Lib.hid (fun j hj => by have := hshp.rng hj; omega)
        have HNT := Lib.hid (HWF.out.rt k hlt)
        have hln := hT.small
        clear hcs hT hshp htr
        obtain ⟨nT, hnT⟩ : ∃ nT, Q.ln k = nT := ⟨_, rfl⟩
        obtain ⟨fT, hfT⟩ : ∃ fT, Q.rt k = fT := ⟨_, rfl⟩
        have HNF : Hid (retE S Q k = treeP S Q true nT fT) := Lib.hid (by rw [retE, hnT, hfT])
        rw [hnT, hfT] at HT HAB HNT
        rw [hnT] at d0 hlT hln
        clear hnT hfT
        go_wp2_with fail
        refine (walkRet_any aT nT cT fT _ H1.out A1.out HT.out HNT.out HAB.out).mono ?_
        obtain ⟨pi, pe, hp⟩ : ∃ pi pe, walkP S Q true nT fT = (pi, pe) := ⟨_, _, rfl⟩
        rw [hp]
        have HP := Lib.hid hp
        clear hp
        rintro e w1 ⟨rfl, hb1⟩
        have hb1' := bcall hb hb1
        have hbk1 := bcall hbk hb1
        have R2 := Lib.hid (blk_below R1.out hb1)
        have HT1 := Lib.hid (HT.out.later hb1)
        clear R1 H1 A1 HT
        by_cases hpe : pe = 0
        · subst hpe
          cases hit : isTruthB nT fT
          · have HY := Lib.hid (none_step (p := fun j => (retE S Q j).2 != 0) HN.out (by show ((retE S Q k).2 != 0) = false; rw [HNF.out, treeP, HP.out, if_neg (by rw [hit]; simp)]; rfl))
            go_wp2_with (go_at_call 16; refine (isTruth_any aT nT cT fT _ HT1.out).mono ?_; rw [hit]; rintro e wq ⟨rfl, hq⟩; have hq := hq.symm; subst hq)
            go_roundw
            case rel => exact ⟨k + 1, by omega, by go_num, HY, hb1'⟩
            case measure => simp [intOf]; omega
          · have HE := Lib.hid (retF_hit (S := S) (e := 75) (i := (nT : Int) - 1) h8 hlt (by rw [HNF.out, treeP, HP.out, if_pos ⟨rfl, hit⟩]) (by decide) HN.out)
            go_upto_region 9 with (go_at_call 16; refine (isTruth_any aT nT cT fT _ HT1.out).mono ?_; rw [hit]; rintro e wq ⟨rfl, hq⟩; have hq := hq.symm; subst hq)
            go_wp2_with (refine wpList_store_row rfl 47 _ _ rfl (w.heap.size + 2) #[.int .i64 75, .int .i64 5, .int .i64 (k : Nat), .int .i64 ((nT : Int) - 1)] rfl rfl 47 _ (R2.out) (by kernel_rfl) rfl (by simp [Value.oneCell']) ?_)
            (try simp only [Exit.inBlock, Exit.then])
            have BF := Lib.hid (row_set (R2.out) #[.int .i64 75, .int .i64 5, .int .i64 (k : Nat), .int .i64 ((nT : Int) - 1)])
            have hbf := below_setRow (cs := #[.int .i64 75, .int .i64 5, .int .i64 (k : Nat), .int .i64 ((nT : Int) - 1)]) (hbk1) (show w.heap.size ≤ w.heap.size + 2 by omega)
            generalize World.setRow _ _ _ = wf at *
            refine bodyPost_ret (v := .agg #[.int .i64 75, .int .i64 5, .int .i64 (k : Nat), .int .i64 ((nT : Int) - 1)]) ?_ rfl ?_
            · exact results_cell_row Tryd.results61 _ _ (w.heap.size + 2) 47 _ (0, 0) _ rfl BF.out Tryd.underlying47 rfl (by kernel_rfl)
            · exact ⟨by rw [HE.out]; rfl, hbf⟩
        · have hpe' : (pe != 0) = true := by rw [bne_iff_ne]; exact hpe
          have hpe2 : (pe == 0) = false := by rw [beq_eq_false_iff_ne]; exact hpe
          have HE := Lib.hid (retF_hit (S := S) (e := pe) (i := pi) h8 hlt (by rw [HNF.out, treeP, HP.out, if_neg (fun h => hpe h.1)]) hpe HN.out)
          go_wp2_with (refine wpList_store_row rfl 47 _ _ rfl (w.heap.size + 2) #[.int .i64 pe, .int .i64 5, .int .i64 (k : Nat), .int .i64 pi] rfl rfl 47 _ (R2.out) (by kernel_rfl) rfl (by simp [Value.oneCell']) ?_)
          (try simp only [Exit.inBlock, Exit.then])
          have BF := Lib.hid (row_set (R2.out) #[.int .i64 pe, .int .i64 5, .int .i64 (k : Nat), .int .i64 pi])
          have hbf := below_setRow (cs := #[.int .i64 pe, .int .i64 5, .int .i64 (k : Nat), .int .i64 pi]) (hbk1) (show w.heap.size ≤ w.heap.size + 2 by omega)
          generalize World.setRow _ _ _ = wf at *
          refine bodyPost_ret (v := .agg #[.int .i64 pe, .int .i64 5, .int .i64 (k : Nat), .int .i64 pi]) ?_ rfl ?_
          · exact results_cell_row Tryd.results61 _ _ (w.heap.size + 2) 47 _ (0, 0) _ rfl BF.out Tryd.underlying47 rfl (by kernel_rfl)
          · exact ⟨by rw [HE.out]; rfl, hbf⟩
      · obtain rfl : k = Q.m := by omega
        have HE := Lib.hid (retF_end h8 HN.out)
        go_wp2_with (refine wpList_store_row rfl 47 _ _ rfl (w.heap.size + 2) #[.int .i64 0, .int .i64 0, .int .i64 0, .int .i64 0] rfl rfl 47 _ (R1.out) (by kernel_rfl) rfl (by simp [Value.oneCell']) ?_)
        (try simp only [Exit.inBlock, Exit.then])
        have BF := Lib.hid (row_set (R1.out) #[.int .i64 0, .int .i64 0, .int .i64 0, .int .i64 0])
        have hbf := below_setRow (cs := #[.int .i64 0, .int .i64 0, .int .i64 0, .int .i64 0]) (hbk) (show w.heap.size ≤ w.heap.size + 2 by omega)
        generalize World.setRow _ _ _ = wf at *
        refine bodyPost_ret (v := .agg #[.int .i64 0, .int .i64 0, .int .i64 0, .int .i64 0]) ?_ rfl ?_
        · exact results_cell_row Tryd.results61 _ _ (w.heap.size + 2) 47 _ (0, 0) _ rfl BF.out Tryd.underlying47 rfl (by kernel_rfl)
        · exact ⟨by rw [HE.out]; rfl, hbf⟩
end Go.Proofs.YtagcbljfaflhoaaDoor

/-! ### What is wrong with a query over a schema: plain, and the walk of check.Check. -/
namespace Go.Proofs.YtagcbljfaflhoaaDoor
open Go.RowKit Go.ChangeShapes Go.WideShapes Go.ChangeAt Go.Deep Go.Joins
/-- What is wrong behind a sound pattern and WHERE. -/
def restF (S : Sch) (Q : Qry) : Flw := if 1099511627776 < Q.within then ⟨66, 2, 0, 0⟩ else if (!Q.by_.toList.isEmpty && !partB S Q) = true then ⟨67, 3, 0, 0⟩ else retF S Q
/-- What is wrong with a query over a schema. -/
def checkF (S : Sch) (Q : Qry) : Flw :=
  if schErr S ≠ 0 then ⟨schErr S, 0, 0, 0⟩ else if shapedB Q = false then ⟨50, 0, 0, 0⟩
  else if (itemsF S Q).code ≠ 0 then itemsF S Q else if (whereF S Q).code ≠ 0 then whereF S Q else restF S Q
theorem blk4f {w : World} {b : Nat} {v0 v1 v2 v3 : Value} {T : TypeId} (h : w.heap[b]? = some (.cells #[v0, v1, v2, v3] T (0, 0))) : w.cell? ⟨b, 0, none⟩ = some v0 ∧ w.cell? ⟨b, 1, none⟩ = some v1 ∧ w.cell? ⟨b, 2, none⟩ = some v2 ∧ w.cell? ⟨b, 3, none⟩ = some v3 :=
  ⟨blk_cell h (j := 0) rfl, blk_cell h (j := 1) rfl, blk_cell h (j := 2) rfl, blk_cell h (j := 3) rfl⟩
theorem shaped_where {Q : Qry} (h : shapedB Q = true) : Q.wn ≠ 0 → treeB Q.wn Q.wh = true := by
  intro h0
  simp only [shapedB, Bool.and_eq_true, Bool.or_eq_true, decide_eq_true_eq] at h
  exact h.1.1.2.resolve_left h0
theorem shaped_ret {Q : Qry} (h : shapedB Q = true) : ∀ k, k < Q.m → treeB (Q.ln k) (Q.rt k) = true := by
  intro k hk
  simp only [shapedB, Bool.and_eq_true] at h
  exact of_all h.2 hk
set_option maxRecDepth 100000 in
set_option maxHeartbeats 8000000 in
theorem check_any (A : Option Addr) (cap : Nat) (S : Sch) (V : QryV) (Q : Qry) (w : World) (hS : TypRd w w.heap.size A S) (h : QryRd w w.heap.size V Q) (hwf : QryWf Q) {tt : TypeId} {fr : Nat × Nat} (hkw : w.heap[0]? = some (.cells kwArr tt fr)) :
    Calls Tryd.prog 26 #[.agg #[.slice A S.n cap], .agg (qryArr V Q)] w fun e w' => e = .returned (.agg (flwArr (checkF S Q))) ∧ Below w.heap.size w w' := by
  obtain ⟨aI, cI, aW, cW, aR, cR⟩ := V
  show Calls _ _ #[.agg #[.slice A S.n cap], .agg #[.slice aI Q.n cI, .int .i64 Q.mode, .int .i64 Q.after, .slice aW Q.wn cW, .int .i64 Q.within, .string Q.by_, .slice aR Q.m cR]] w _
  have hwi := hwf.within
  have hb0 := bnew (bnew (bnew (Below.refl w.heap.size w) (.cells #[.slice A S.n cap] 34)) (.cells #[.slice aI Q.n cI, .int .i64 Q.mode, .int .i64 Q.after, .slice aW Q.wn cW, .int .i64 Q.within, .string Q.by_, .slice aR Q.m cR] 40)) (.cells #[.int .i64 0, .int .i64 0, .int .i64 0, .int .i64 0] 47)
  have s0 := blk_alloc (blk_alloc (blk_new w #[.slice A S.n cap] 34) (.cells #[.slice aI Q.n cI, .int .i64 Q.mode, .int .i64 Q.after, .slice aW Q.wn cW, .int .i64 Q.within, .string Q.by_, .slice aR Q.m cR] 40)) (.cells #[.int .i64 0, .int .i64 0, .int .i64 0, .int .i64 0] 47)
  have q0 := blk_alloc (blk_new (w.alloc (.cells #[.slice A S.n cap] 34)) #[.slice aI Q.n cI, .int .i64 Q.mode, .int .i64 Q.after, .slice aW Q.wn cW, .int .i64 Q.within, .string Q.by_, .slice aR Q.m cR] 40) (.cells #[.int .i64 0, .int .i64 0, .int .i64 0, .int .i64 0] 47)
  have r0 := blk_new ((w.alloc (.cells #[.slice A S.n cap] 34)).alloc (.cells #[.slice aI Q.n cI, .int .i64 Q.mode, .int .i64 Q.after, .slice aW Q.wn cW, .int .i64 Q.within, .string Q.by_, .slice aR Q.m cR] 40)) #[.int .i64 0, .int .i64 0, .int .i64 0, .int .i64 0] 47
  have hz0 : w.heap.size + 2 < (((w.alloc (.cells #[.slice A S.n cap] 34)).alloc (.cells #[.slice aI Q.n cI, .int .i64 Q.mode, .int .i64 Q.after, .slice aW Q.wn cW, .int .i64 Q.within, .string Q.by_, .slice aR Q.m cR] 40)).alloc (.cells #[.int .i64 0, .int .i64 0, .int .i64 0, .int .i64 0] 47)).heap.size := by simp
  rw [World.size_alloc] at q0
  rw [World.size_alloc, World.size_alloc] at r0
  have S0 := Lib.hid s0
  have B0 := Lib.hid q0
  have R0 := Lib.hid r0
  have HQ0 := Lib.hid (h.later hb0)
  have HS0 := Lib.hid (TypRd.later hS hb0)
  have HK0 := Lib.hid (block_below hkw hb0)
  have HWF := Lib.hid hwf
  clear h hS s0 q0 r0 hwf hkw
  go_enter Tryd.func26, Tryd.ntmps26
  go_upto_region 1 with fail
  generalize (((w.alloc _).alloc _).alloc _) = w0 at *
  have s1 := blk_cell S0.out (j := 0) rfl
  obtain ⟨se, hse⟩ : ∃ se, schErr S = se := ⟨_, rfl⟩
  have HSE := Lib.hid hse
  clear hse
  go_wp2_with fail
  refine (checkSchema_any A cap S _ HS0.out HK0.out).mono ?_
  rw [HSE.out]
  rintro e w1 ⟨rfl, d1⟩
  have hb1 := bcall hb0 d1
  have R1 := Lib.hid (blk_below R0.out d1)
  clear s1
  by_cases hse0 : se = 0
  · subst hse0
    obtain ⟨sh, hsh⟩ : ∃ sh, shapedB Q = sh := ⟨_, rfl⟩
    have HSH := Lib.hid hsh
    clear hsh
    have B1 := Lib.hid (blk_below B0.out d1)
    obtain ⟨y0, y1, y2, y3, y4, y5, y6⟩ := blk7 B1.out
    go_wp2_with fail
    refine (showShaped_any ⟨aI, cI, aW, cW, aR, cR⟩ Q _ (HQ0.out.later d1) (block_below HK0.out d1)).mono ?_
    rw [HSH.out]
    rintro e w2 ⟨rfl, hb2⟩
    have d2 := bcall d1 hb2
    have hb2 := bcall hb0 d2
    have R2 := Lib.hid (blk_below R0.out d2)
    clear y0 y1 y2 y3 y4 y5 y6
    cases sh
    · have HE := Lib.hid (show checkF S Q = ⟨50, 0, 0, 0⟩ by rw [checkF, if_neg (by rw [HSE.out]; simp), if_pos HSH.out])
      go_wp2_with (refine wpList_store_row rfl 47 _ _ rfl (w.heap.size + 2) #[.int .i64 50, .int .i64 0, .int .i64 0, .int .i64 0] rfl rfl 47 _ (R2.out) (by kernel_rfl) rfl (by simp [Value.oneCell']) ?_)
      (try simp only [Exit.inBlock, Exit.then])
      have BF := Lib.hid (row_set (R2.out) #[.int .i64 50, .int .i64 0, .int .i64 0, .int .i64 0])
      have hbf := below_setRow (cs := #[.int .i64 50, .int .i64 0, .int .i64 0, .int .i64 0]) (hb2) (show w.heap.size ≤ w.heap.size + 2 by omega)
      generalize World.setRow _ _ _ = wf at *
      refine bodyPost_ret (v := .agg #[.int .i64 50, .int .i64 0, .int .i64 0, .int .i64 0]) ?_ rfl ?_
      · exact results_cell_row Tryd.results26 _ _ (w.heap.size + 2) 47 _ (0, 0) _ rfl BF.out Tryd.underlying47 rfl (by kernel_rfl)
      · exact ⟨by rw [HE.out]; rfl, hbf⟩
    · have HT : Hid (Q.wn ≠ 0 → treeB Q.wn Q.wh = true) := Lib.hid (shaped_where HSH.out)
      have HTR := Lib.hid (shaped_ret HSH.out)
      have HE1 := Lib.hid (show checkF S Q = if (itemsF S Q).code ≠ 0 then itemsF S Q else if (whereF S Q).code ≠ 0 then whereF S Q else restF S Q by rw [checkF, if_neg (by rw [HSE.out]; simp), if_neg (by rw [HSH.out]; simp)])
      have B2 := Lib.hid (blk_below B0.out d2)
      have S2 := Lib.hid (blk_below S0.out d2)
      obtain ⟨y0, y1, y2, y3, y4, y5, y6⟩ := blk7 B2.out
      have s2 := blk_cell S2.out (j := 0) rfl
      go_wp2_with fail
      refine (items_any A cap S ⟨aI, cI, aW, cW, aR, cR⟩ Q _ (HS0.out.later d2) (HQ0.out.later d2) HWF.out).mono ?_
      obtain ⟨⟨ic, ip, ii, is⟩, hif⟩ : ∃ x, itemsF S Q = x := ⟨_, rfl⟩
      rw [hif, show flwArr ⟨ic, ip, ii, is⟩ = #[.int .i64 ic, .int .i64 ip, .int .i64 ii, .int .i64 is] from rfl]
      rw [hif] at HE1
      clear hif
      rintro e w3 ⟨rfl, hb3⟩
      have d3 := bcall d2 hb3
      clear y0 y1 y2 y3 y4 y5 y6 s2
      have f3 := blk_new w3 #[.int .i64 ic, .int .i64 ip, .int .i64 ii, .int .i64 is] 47
      have d4 := bnew d3 (.cells #[.int .i64 ic, .int .i64 ip, .int .i64 ii, .int .i64 is] 47)
      have F4 := Lib.hid f3
      clear f3
      go_upto_region 7 with fail
      generalize w3.alloc _ = w4 at *
      have hb4 := bcall hb0 d4
      have R4 := Lib.hid (blk_below R0.out d4)
      obtain ⟨g0, g1, g2, g3⟩ := blk4f F4.out
      by_cases hic : ic = 0
      · subst hic
        have HE2 := Lib.hid (show checkF S Q = if (whereF S Q).code ≠ 0 then whereF S Q else restF S Q by rw [HE1.out, if_neg (by simp)])
        have B4 := Lib.hid (blk_below B0.out d4)
        obtain ⟨y0, y1, y2, y3, y4, y5, y6⟩ := blk7 B4.out
        go_wp2_with fail
        refine (byName_any ⟨aI, cI, aW, cW, aR, cR⟩ Q _ (HQ0.out.later d4) HWF.out).mono ?_
        rintro e w5 ⟨bn, DN, rfl, hb5, hbn, hown, hnm⟩
        have d5 := bcall d4 hb5
        clear y0 y1 y2 y3 y4 y5 y6 g0 g1 g2 g3
        have m5 := blk_new w5 #[.map (some bn)] 81
        have d6 := bnew d5 (.cells #[.map (some bn)] 81)
        have hb56 := bnew (Below.refl w5.heap.size w5) (.cells #[.map (some bn)] 81)
        have HA6 := Lib.hid (show AskRd (w5.alloc (.cells #[.map (some bn)] 81)) w.heap.size (w.heap.size + 1) w5.heap.size bn A cap S ⟨aI, cI, aW, cW, aR, cR⟩ Q DN from ⟨blk_below S0.out d6, blk_below B0.out d6, m5, HS0.out.later d6, HQ0.out.later d6, nmo_below hown hb56 hown.lt, hnm⟩)
        have hs6 : w5.heap.size < (w5.alloc (.cells #[.map (some bn)] 81)).heap.size := by simp
        clear m5 hown hnm
        go_upto_region 10 with fail
        generalize w5.alloc _ = w6 at *
        have B6 := Lib.hid (blk_below B0.out d6)
        obtain ⟨y0, y1, y2, y3, y4, y5, y6⟩ := blk7 B6.out
        go_wp2_with fail
        refine (where_any ⟨aI, cI, aW, cW, aR, cR⟩ _ HA6.out HWF.out HT.out (block_below HK0.out d6)).mono ?_
        obtain ⟨⟨wc, wp, wi, ws⟩, hwq⟩ : ∃ x, whereF S Q = x := ⟨_, rfl⟩
        rw [hwq, show flwArr ⟨wc, wp, wi, ws⟩ = #[.int .i64 wc, .int .i64 wp, .int .i64 wi, .int .i64 ws] from rfl]
        rw [hwq] at HE2
        clear hwq
        rintro e w7 ⟨rfl, hb7⟩
        have d7 := bcall d6 hb7
        clear y0 y1 y2 y3 y4 y5 y6
        have f7 := blk_new w7 #[.int .i64 wc, .int .i64 wp, .int .i64 wi, .int .i64 ws] 47
        have hb68 := bnew hb7 (.cells #[.int .i64 wc, .int .i64 wp, .int .i64 wi, .int .i64 ws] 47)
        have d8 := bnew d7 (.cells #[.int .i64 wc, .int .i64 wp, .int .i64 wi, .int .i64 ws] 47)
        have F8 := Lib.hid f7
        clear f7
        go_upto_region 12 with fail
        generalize w7.alloc _ = w8 at *
        have hb8 := bcall hb0 d8
        have R8 := Lib.hid (blk_below R0.out d8)
        obtain ⟨g0, g1, g2, g3⟩ := blk4f F8.out
        by_cases hwc : wc = 0
        · subst hwc
          have HE3 := Lib.hid (show checkF S Q = restF S Q by rw [HE2.out, if_neg (by simp)])
          have B8 := Lib.hid (blk_below B0.out d8)
          have HA8 := Lib.hid (HA6.out.later hb68)
          obtain ⟨y0, y1, y2, y3, y4, y5, y6⟩ := blk7 B8.out
          by_cases hw : 1099511627776 < Q.within
          · have HE := Lib.hid (show checkF S Q = ⟨66, 2, 0, 0⟩ by rw [HE3.out, restF, if_pos hw])
            go_wp2_with (refine wpList_store_row rfl 47 _ _ rfl (w.heap.size + 2) #[.int .i64 66, .int .i64 2, .int .i64 0, .int .i64 0] rfl rfl 47 _ (R8.out) (by kernel_rfl) rfl (by simp [Value.oneCell']) ?_)
            (try simp only [Exit.inBlock, Exit.then])
            have BF := Lib.hid (row_set (R8.out) #[.int .i64 66, .int .i64 2, .int .i64 0, .int .i64 0])
            have hbf := below_setRow (cs := #[.int .i64 66, .int .i64 2, .int .i64 0, .int .i64 0]) (hb8) (show w.heap.size ≤ w.heap.size + 2 by omega)
            generalize World.setRow _ _ _ = wf at *
            refine bodyPost_ret (v := .agg #[.int .i64 66, .int .i64 2, .int .i64 0, .int .i64 0]) ?_ rfl ?_
            · exact results_cell_row Tryd.results26 _ _ (w.heap.size + 2) 47 _ (0, 0) _ rfl BF.out Tryd.underlying47 rfl (by kernel_rfl)
            · exact ⟨by rw [HE.out]; rfl, hbf⟩
          · cases hby : Q.by_.toList.isEmpty
            · have S8 := Lib.hid (blk_below S0.out d8)
              have s8 := blk_cell S8.out (j := 0) rfl
              obtain ⟨pb, hpb⟩ : ∃ pb, partB S Q = pb := ⟨_, rfl⟩
              have HPB := Lib.hid hpb
              clear hpb
              cases pb
              · have HE := Lib.hid (show checkF S Q = ⟨67, 3, 0, 0⟩ by rw [HE3.out, restF, if_neg hw, if_pos (by rw [hby, HPB.out]; rfl)])
                go_upto_region 17 with (go_at_call 60; refine (partable_any A cap S ⟨aI, cI, aW, cW, aR, cR⟩ Q _ (HS0.out.later d8) (HQ0.out.later d8)).mono ?_; rw [HPB.out]; rintro e w9 ⟨rfl, hb9⟩)
                have d9 := bcall d8 hb9
                have R9 := Lib.hid (blk_below R0.out d9)
                have hbk9 := bcall hb0 d9
                go_wp2_with (refine wpList_store_row rfl 47 _ _ rfl (w.heap.size + 2) #[.int .i64 67, .int .i64 3, .int .i64 0, .int .i64 0] rfl rfl 47 _ (R9.out) (by kernel_rfl) rfl (by simp [Value.oneCell']) ?_)
                (try simp only [Exit.inBlock, Exit.then])
                have BF := Lib.hid (row_set (R9.out) #[.int .i64 67, .int .i64 3, .int .i64 0, .int .i64 0])
                have hbf := below_setRow (cs := #[.int .i64 67, .int .i64 3, .int .i64 0, .int .i64 0]) (hbk9) (show w.heap.size ≤ w.heap.size + 2 by omega)
                generalize World.setRow _ _ _ = wf at *
                refine bodyPost_ret (v := .agg #[.int .i64 67, .int .i64 3, .int .i64 0, .int .i64 0]) ?_ rfl ?_
                · exact results_cell_row Tryd.results26 _ _ (w.heap.size + 2) 47 _ (0, 0) _ rfl BF.out Tryd.underlying47 rfl (by kernel_rfl)
                · exact ⟨by rw [HE.out]; rfl, hbf⟩
              · have HEX := Lib.hid (show checkF S Q = retF S Q by rw [HE3.out, restF, if_neg hw, if_neg (by rw [HPB.out]; simp)])
                go_upto_region 18 with (go_at_call 60; refine (partable_any A cap S ⟨aI, cI, aW, cW, aR, cR⟩ Q _ (HS0.out.later d8) (HQ0.out.later d8)).mono ?_; rw [HPB.out]; rintro e w9 ⟨rfl, hb9⟩)
                have d9 := bcall d8 hb9
                have HAX := Lib.hid (HA8.out.later hb9)
                have dX := d9
                have hbX := bcall hb0 d9
                clear y0 y1 y2 y3 y4 y5 y6 s8
                have BX := Lib.hid (blk_below B0.out d9)
                obtain ⟨y0, y1, y2, y3, y4, y5, y6⟩ := blk7 BX.out
                go_wp2_with fail
                refine (results_any ⟨aI, cI, aW, cW, aR, cR⟩ _ HAX.out HWF.out HTR.out).mono ?_
                obtain ⟨⟨rc, rp, ri, rs⟩, hrf⟩ : ∃ x, retF S Q = x := ⟨_, rfl⟩
                rw [hrf, show flwArr ⟨rc, rp, ri, rs⟩ = #[.int .i64 rc, .int .i64 rp, .int .i64 ri, .int .i64 rs] from rfl]
                have HE := Lib.hid (HEX.out.trans hrf)
                clear hrf
                rintro e w10 ⟨rfl, hb10⟩
                have RX := Lib.hid (blk_below R0.out (bcall dX hb10))
                have hbX' := bcall hbX hb10
                go_wp2_with (refine wpList_store_row rfl 47 _ _ rfl (w.heap.size + 2) #[.int .i64 rc, .int .i64 rp, .int .i64 ri, .int .i64 rs] rfl rfl 47 _ (RX.out) (by kernel_rfl) rfl (by simp [Value.oneCell']) ?_)
                (try simp only [Exit.inBlock, Exit.then])
                have BF := Lib.hid (row_set (RX.out) #[.int .i64 rc, .int .i64 rp, .int .i64 ri, .int .i64 rs])
                have hbf := below_setRow (cs := #[.int .i64 rc, .int .i64 rp, .int .i64 ri, .int .i64 rs]) (hbX') (show w.heap.size ≤ w.heap.size + 2 by omega)
                generalize World.setRow _ _ _ = wf at *
                refine bodyPost_ret (v := .agg #[.int .i64 rc, .int .i64 rp, .int .i64 ri, .int .i64 rs]) ?_ rfl ?_
                · exact results_cell_row Tryd.results26 _ _ (w.heap.size + 2) 47 _ (0, 0) _ rfl BF.out Tryd.underlying47 rfl (by kernel_rfl)
                · exact ⟨by rw [HE.out]; rfl, hbf⟩
            · have HEX := Lib.hid (show checkF S Q = retF S Q by rw [HE3.out, restF, if_neg hw, if_neg (by rw [hby]; simp)])
              have HAX := HA8
              have dX := d8
              have hbX := hb8
              go_wp2_with fail
              refine (results_any ⟨aI, cI, aW, cW, aR, cR⟩ _ HAX.out HWF.out HTR.out).mono ?_
              obtain ⟨⟨rc, rp, ri, rs⟩, hrf⟩ : ∃ x, retF S Q = x := ⟨_, rfl⟩
              rw [hrf, show flwArr ⟨rc, rp, ri, rs⟩ = #[.int .i64 rc, .int .i64 rp, .int .i64 ri, .int .i64 rs] from rfl]
              have HE := Lib.hid (HEX.out.trans hrf)
              clear hrf
              rintro e w10 ⟨rfl, hb10⟩
              have RX := Lib.hid (blk_below R0.out (bcall dX hb10))
              have hbX' := bcall hbX hb10
              go_wp2_with (refine wpList_store_row rfl 47 _ _ rfl (w.heap.size + 2) #[.int .i64 rc, .int .i64 rp, .int .i64 ri, .int .i64 rs] rfl rfl 47 _ (RX.out) (by kernel_rfl) rfl (by simp [Value.oneCell']) ?_)
              (try simp only [Exit.inBlock, Exit.then])
              have BF := Lib.hid (row_set (RX.out) #[.int .i64 rc, .int .i64 rp, .int .i64 ri, .int .i64 rs])
              have hbf := below_setRow (cs := #[.int .i64 rc, .int .i64 rp, .int .i64 ri, .int .i64 rs]) (hbX') (show w.heap.size ≤ w.heap.size + 2 by omega)
              generalize World.setRow _ _ _ = wf at *
              refine bodyPost_ret (v := .agg #[.int .i64 rc, .int .i64 rp, .int .i64 ri, .int .i64 rs]) ?_ rfl ?_
              · exact results_cell_row Tryd.results26 _ _ (w.heap.size + 2) 47 _ (0, 0) _ rfl BF.out Tryd.underlying47 rfl (by kernel_rfl)
              · exact ⟨by rw [HE.out]; rfl, hbf⟩
        · have HE := Lib.hid (show checkF S Q = ⟨wc, wp, wi, ws⟩ by rw [HE2.out, if_pos hwc])
          have hc1 : (wc != 0) = true := by rw [bne_iff_ne]; exact hwc
          have hc2 : (wc == 0) = false := by rw [beq_eq_false_iff_ne]; exact hwc
          go_wp2_with (refine wpList_store_row rfl 47 _ _ rfl (w.heap.size + 2) #[.int .i64 wc, .int .i64 wp, .int .i64 wi, .int .i64 ws] rfl rfl 47 _ (R8.out) (by kernel_rfl) rfl (by simp [Value.oneCell']) ?_)
          (try simp only [Exit.inBlock, Exit.then])
          have BF := Lib.hid (row_set (R8.out) #[.int .i64 wc, .int .i64 wp, .int .i64 wi, .int .i64 ws])
          have hbf := below_setRow (cs := #[.int .i64 wc, .int .i64 wp, .int .i64 wi, .int .i64 ws]) (hb8) (show w.heap.size ≤ w.heap.size + 2 by omega)
          generalize World.setRow _ _ _ = wf at *
          refine bodyPost_ret (v := .agg #[.int .i64 wc, .int .i64 wp, .int .i64 wi, .int .i64 ws]) ?_ rfl ?_
          · exact results_cell_row Tryd.results26 _ _ (w.heap.size + 2) 47 _ (0, 0) _ rfl BF.out Tryd.underlying47 rfl (by kernel_rfl)
          · exact ⟨by rw [HE.out]; rfl, hbf⟩
      · have HE := Lib.hid (show checkF S Q = ⟨ic, ip, ii, is⟩ by rw [HE1.out, if_pos hic])
        have hc1 : (ic != 0) = true := by rw [bne_iff_ne]; exact hic
        have hc2 : (ic == 0) = false := by rw [beq_eq_false_iff_ne]; exact hic
        go_wp2_with (refine wpList_store_row rfl 47 _ _ rfl (w.heap.size + 2) #[.int .i64 ic, .int .i64 ip, .int .i64 ii, .int .i64 is] rfl rfl 47 _ (R4.out) (by kernel_rfl) rfl (by simp [Value.oneCell']) ?_)
        (try simp only [Exit.inBlock, Exit.then])
        have BF := Lib.hid (row_set (R4.out) #[.int .i64 ic, .int .i64 ip, .int .i64 ii, .int .i64 is])
        have hbf := below_setRow (cs := #[.int .i64 ic, .int .i64 ip, .int .i64 ii, .int .i64 is]) (hb4) (show w.heap.size ≤ w.heap.size + 2 by omega)
        generalize World.setRow _ _ _ = wf at *
        refine bodyPost_ret (v := .agg #[.int .i64 ic, .int .i64 ip, .int .i64 ii, .int .i64 is]) ?_ rfl ?_
        · exact results_cell_row Tryd.results26 _ _ (w.heap.size + 2) 47 _ (0, 0) _ rfl BF.out Tryd.underlying47 rfl (by kernel_rfl)
        · exact ⟨by rw [HE.out]; rfl, hbf⟩
  · have HE := Lib.hid (show checkF S Q = ⟨se, 0, 0, 0⟩ by rw [checkF, HSE.out, if_pos hse0])
    have hc1 : (se != 0) = true := by rw [bne_iff_ne]; exact hse0
    have hc2 : (se == 0) = false := by rw [beq_eq_false_iff_ne]; exact hse0
    go_wp2_with (refine wpList_store_row rfl 47 _ _ rfl (w.heap.size + 2) #[.int .i64 se, .int .i64 0, .int .i64 0, .int .i64 0] rfl rfl 47 _ (R1.out) (by kernel_rfl) rfl (by simp [Value.oneCell']) ?_)
    (try simp only [Exit.inBlock, Exit.then])
    have BF := Lib.hid (row_set (R1.out) #[.int .i64 se, .int .i64 0, .int .i64 0, .int .i64 0])
    have hbf := below_setRow (cs := #[.int .i64 se, .int .i64 0, .int .i64 0, .int .i64 0]) (hb1) (show w.heap.size ≤ w.heap.size + 2 by omega)
    generalize World.setRow _ _ _ = wf at *
    refine bodyPost_ret (v := .agg #[.int .i64 se, .int .i64 0, .int .i64 0, .int .i64 0]) ?_ rfl ?_
    · exact results_cell_row Tryd.results26 _ _ (w.heap.size + 2) 47 _ (0, 0) _ rfl BF.out Tryd.underlying47 rfl (by kernel_rfl)
    · exact ⟨by rw [HE.out]; rfl, hbf⟩
end Go.Proofs.YtagcbljfaflhoaaDoor

/-! ### The schema and the query of the law's head: what is wrong with them (plain). -/
namespace Go.Proofs.YtagcbljfaflhoaaDoor
open Go.RowKit Go.ChangeShapes Go.WideShapes Go.ChangeAt Go.Deep Go.Joins
def tA : ByteArray := ⟨#[65]⟩
def tB : ByteArray := ⟨#[66]⟩
def ta : ByteArray := ⟨#[97]⟩
def tx : ByteArray := ⟨#[120]⟩
def nod0 : Nod := ⟨0, 0, .empty, .empty, 0, 0⟩
def schA : Sch := ⟨1, fun _ => tA, fun _ => 1, fun _ _ => tx⟩
def qryA (b : ByteArray) : Qry := ⟨1, fun _ => ⟨false, 1, fun _ => b, ta, 1, 1⟩, 0, 0, 0, fun _ => nod0, 0, ⟨#[]⟩, 0, fun _ => 0, fun _ _ => nod0⟩
def treeA : Nat → Nod
  | 0 => ⟨4, 0, ta, tx, -1, -1⟩
  | 1 => ⟨1, 1, .empty, .empty, -1, -1⟩
  | _ => ⟨19, 0, .empty, .empty, 0, 1⟩
theorem toList_one (a : UInt8) : (⟨#[a]⟩ : ByteArray).toList = [a] := by rw [Go.ByteArray.toList_eq]
theorem toList_none : (⟨#[]⟩ : ByteArray).toList = [] := by rw [Go.ByteArray.toList_eq]
theorem toList_empty : ByteArray.empty.toList = [] := by rw [Go.ByteArray.toList_eq]; rfl
theorem lA : tA.toList = [65] := toList_one 65
theorem lB : tB.toList = [66] := toList_one 66
theorem la : ta.toList = [97] := toList_one 97
theorem lx : tx.toList = [120] := toList_one 120
theorem nA : nameB tA = true := by decide
theorem nB : nameB tB = true := by decide
theorem na : nameB ta = true := by decide
theorem nx : nameB tx = true := by decide
theorem schA_ok : schErr schA = 0 := by
  have h1 : List.range 1 = [0] := rfl
  have h0 : List.range 0 = [] := rfl
  simp only [schErr, schA, firstNZ, h1, List.find?, typeErr, attrErr, twiceB, inB, h0, List.any_nil, nA, nx, lx]
  decide
theorem qryA_shaped (b : ByteArray) (hb : nameB b = true) : shapedB (qryA b) = true := by
  have h1 : List.range 1 = [0] := rfl
  have h0 : List.range 0 = [] := rfl
  simp only [shapedB, qryA, itemShB, allB, h1, h0, List.all_cons, List.all_nil, hb, na, toList_none]
  rfl
theorem qryA_item (b : ByteArray) : itemsF schA (qryA b) = if b.toList = [65] then ⟨0, 0, 0, 0⟩ else ⟨61, 1, 0, 0⟩ := by
  have h1 : List.range 1 = [0] := rfl
  have h0 : List.range 0 = [] := rfl
  by_cases hb : b.toList = [65]
  · rw [if_pos hb]
    simp only [itemsF, schA, qryA, firstI, h1, List.find?, badI, itemE, knownB, onceB, allB, List.all_cons, List.all_nil, typeI, placeI, twiceB, inB, h0, List.any_nil, itemI, lA, hb]
    rfl
  · rw [if_neg hb]
    have hc : ([65] == b.toList) = false := by rw [beq_eq_false_iff_ne]; exact Ne.symm hb
    simp only [itemsF, schA, qryA, firstI, h1, List.find?, badI, itemE, knownB, onceB, allB, List.all_cons, List.all_nil, typeI, placeI, twiceB, inB, h0, List.any_nil, itemI, lA, hc]
    rfl
theorem checkA : checkF schA (qryA tA) = ⟨0, 0, 0, 0⟩ := by
  rw [checkF, if_neg (by rw [schA_ok]; simp), if_neg (by rw [qryA_shaped _ nA]; simp), qryA_item, if_pos lA, if_neg (by simp)]
  have hw : whereF schA (qryA tA) = ⟨0, 0, 0, 0⟩ := by rw [whereF, if_pos (show (qryA tA).wn = 0 from rfl)]
  rw [hw, if_neg (by simp), restF, if_neg (by decide), if_neg (by show ¬ ((!(⟨#[]⟩ : ByteArray).toList.isEmpty && _) = true); rw [toList_none]; simp)]
  rfl
theorem checkB : checkF schA (qryA tB) = ⟨61, 1, 0, 0⟩ := by
  have hi : itemsF schA (qryA tB) = ⟨61, 1, 0, 0⟩ := by rw [qryA_item, if_neg (by rw [lB]; decide)]
  rw [checkF, if_neg (by rw [schA_ok]; simp), if_neg (by rw [qryA_shaped _ nB]; simp), hi, if_pos (by decide)]
theorem treeA_ok : treeB 3 treeA = true := by
  have hf : ∀ j, j < 3 → fieldsB (treeA j) = true := by
    intro j hj
    obtain rfl | rfl | rfl : j = 0 ∨ j = 1 ∨ j = 2 := by omega
    · simp only [fieldsB, treeA, numB, varB, attB, na, nx]; decide
    · simp only [fieldsB, treeA, numB, varB, attB, toList_empty]; decide
    · simp only [fieldsB, treeA, numB, varB, attB, toList_empty]; decide
  have e0 : bg treeA 1 = some [0] := by rw [bg, bg]; simp only [nodeRes, hf 0 (by omega)]; rfl
  have e1 : bg treeA 2 = some [0, 1] := by rw [bg, e0]; simp only [nodeRes, hf 1 (by omega)]; rfl
  have e2 : bg treeA 3 = some [0, 1, 0] := by rw [bg, e1]; simp only [nodeRes, hf 2 (by omega)]; rfl
  rw [treeB, e2]
  decide
theorem begA : begF 3 treeA 2 = 0 := by
  have := (tree_shp treeA_ok).2.2.1
  exact this
theorem sizeA : sizeI 3 treeA 2 = 3 := by
  rw [sizeI, if_pos ⟨treeA_ok, by decide, by decide⟩]
  show 2 - begF 3 treeA 2 + 1 = 3
  rw [begA]
theorem conjA : conjL 3 treeA = [2] := by
  rw [conjL, if_pos treeA_ok]
  rfl
theorem truthA : isTruthB 3 treeA = true := by decide
theorem usesA (b : ByteArray) : (usesL bareB 1 (qryA b).it treeA 3 1).length = 1 := by
  have h1 : List.range 1 = [0] := rfl
  have h3 : List.range 3 = [0, 1, 2] := rfl
  simp only [usesL, anyU, h1, h3, List.filter_cons, List.filter_nil, List.any_cons, List.any_nil, itemI, firstI, List.find?, qryA, treeA, la, toList_empty]
  rfl
end Go.Proofs.YtagcbljfaflhoaaDoor

/-! ### The walk of the law's head: the calls answer as the head asks. -/
namespace Go.Proofs.YtagcbljfaflhoaaDoor
open Go.RowKit Go.ChangeShapes Go.WideShapes Go.ChangeAt Go.Deep Go.Joins
theorem allocs6 (w : World) (c1 c2 c3 c4 c5 c6 : Array Value) (t1 t2 t3 t4 t5 t6 : TypeId) :
    ((((((w.alloc (.cells c1 t1)).alloc (.cells c2 t2)).alloc (.cells c3 t3)).alloc (.cells c4 t4)).alloc (.cells c5 t5)).alloc (.cells c6 t6)).heap[w.heap.size]? = some (.cells c1 t1 (0, 0)) ∧
    ((((((w.alloc (.cells c1 t1)).alloc (.cells c2 t2)).alloc (.cells c3 t3)).alloc (.cells c4 t4)).alloc (.cells c5 t5)).alloc (.cells c6 t6)).heap[w.heap.size + 1]? = some (.cells c2 t2 (0, 0)) ∧
    ((((((w.alloc (.cells c1 t1)).alloc (.cells c2 t2)).alloc (.cells c3 t3)).alloc (.cells c4 t4)).alloc (.cells c5 t5)).alloc (.cells c6 t6)).heap[w.heap.size + 1 + 1]? = some (.cells c3 t3 (0, 0)) ∧
    ((((((w.alloc (.cells c1 t1)).alloc (.cells c2 t2)).alloc (.cells c3 t3)).alloc (.cells c4 t4)).alloc (.cells c5 t5)).alloc (.cells c6 t6)).heap[w.heap.size + 1 + 1 + 1]? = some (.cells c4 t4 (0, 0)) ∧
    ((((((w.alloc (.cells c1 t1)).alloc (.cells c2 t2)).alloc (.cells c3 t3)).alloc (.cells c4 t4)).alloc (.cells c5 t5)).alloc (.cells c6 t6)).heap[w.heap.size + 1 + 1 + 1 + 1]? = some (.cells c5 t5 (0, 0)) ∧
    ((((((w.alloc (.cells c1 t1)).alloc (.cells c2 t2)).alloc (.cells c3 t3)).alloc (.cells c4 t4)).alloc (.cells c5 t5)).alloc (.cells c6 t6)).heap[w.heap.size + 1 + 1 + 1 + 1 + 1]? = some (.cells c6 t6 (0, 0)) := by
  have e : ∀ (W : World) (o : Obj), (W.alloc o).heap.size = W.heap.size + 1 := fun W o => World.size_alloc W o
  have h1 := blk_new w c1 t1
  have h2 := blk_new (w.alloc (.cells c1 t1)) c2 t2
  have h3 := blk_new ((w.alloc (.cells c1 t1)).alloc (.cells c2 t2)) c3 t3
  have h4 := blk_new (((w.alloc (.cells c1 t1)).alloc (.cells c2 t2)).alloc (.cells c3 t3)) c4 t4
  have h5 := blk_new ((((w.alloc (.cells c1 t1)).alloc (.cells c2 t2)).alloc (.cells c3 t3)).alloc (.cells c4 t4)) c5 t5
  have h6 := blk_new (((((w.alloc (.cells c1 t1)).alloc (.cells c2 t2)).alloc (.cells c3 t3)).alloc (.cells c4 t4)).alloc (.cells c5 t5)) c6 t6
  simp only [e] at h2 h3 h4 h5 h6
  exact ⟨blk_alloc (blk_alloc (blk_alloc (blk_alloc (blk_alloc h1 _) _) _) _) _, blk_alloc (blk_alloc (blk_alloc (blk_alloc h2 _) _) _) _, blk_alloc (blk_alloc (blk_alloc h3 _) _) _, blk_alloc (blk_alloc h4 _) _, blk_alloc h5 _, h6⟩
theorem schA_rd {W : World} {g : Nat} {T T' : TypeId} (h1 : W.heap[g]? = some (.cells #[.string tx] T (0, 0))) (h2 : W.heap[g + 1]? = some (.cells #[.string tA, .slice (some ⟨g, 0, none⟩) 1 1] T' (0, 0))) : TypRd W W.heap.size (some ⟨g + 1, 0, none⟩) schA := by
  refine ⟨by show 1 * 40 ≤ _; omega, fun _ => ⟨g + 1, 0, rfl, blk_lt h2, fun j hj => ?_⟩⟩
  obtain rfl : j = 0 := by have : j < 1 := hj; omega
  refine ⟨blk_cell h2 (j := 0) rfl, _, _, blk_cell h2 (j := 1) rfl, ⟨by show 1 * 16 ≤ _; omega, fun _ => ⟨g, 0, rfl, blk_lt h1, fun i hi => ?_⟩⟩⟩
  obtain rfl : i = 0 := by have : i < 1 := hi; omega
  exact blk_cell h1 (j := 0) rfl
theorem qryA_rd {W : World} {g : Nat} {b : ByteArray} {T T' : TypeId} (h1 : W.heap[g]? = some (.cells #[.string b] T (0, 0))) (h2 : W.heap[g + 1]? = some (.cells #[.bool false, .slice (some ⟨g, 0, none⟩) 1 1, .string ta, .int .i64 1, .int .i64 1] T' (0, 0))) :
    QryRd W W.heap.size ⟨some ⟨g + 1, 0, none⟩, 1, none, 0, none, 0⟩ (qryA b) := by
  refine ⟨Nat.le_refl _, fun h => by simp at h, ⟨fun _ => .slice (some ⟨g, 0, none⟩) 1 1, ⟨by show 1 * 64 ≤ _; omega, fun _ => ⟨g + 1, 0, rfl, blk_lt h2, fun j hj i hi => ?_⟩⟩, fun j hj => ⟨_, _, rfl, Nat.le_refl _, fun h => by simp at h, ⟨by show 1 * 16 ≤ _; omega, fun _ => ⟨g, 0, rfl, blk_lt h1, fun j hj i hi => ?_⟩⟩⟩⟩, Nat.le_refl _, fun _ => rfl, RowRd.nil .., Nat.le_refl _, fun _ => rfl, ⟨fun _ => .slice none 0 0, RowRd.nil .., fun j hj => absurd hj (Nat.not_lt_zero _)⟩⟩
  · obtain rfl : j = 0 := by have : j < 1 := hj; omega
    obtain rfl | rfl | rfl | rfl | rfl : i = 0 ∨ i = 1 ∨ i = 2 ∨ i = 3 ∨ i = 4 := by omega
    · exact blk_cell h2 (j := 0) rfl
    · exact blk_cell h2 (j := 1) rfl
    · exact blk_cell h2 (j := 2) rfl
    · exact blk_cell h2 (j := 3) rfl
    · exact blk_cell h2 (j := 4) rfl
  · obtain rfl : j = 0 := by have : j < 1 := hj; omega
    obtain rfl : i = 0 := by omega
    exact blk_cell h1 (j := 0) rfl
theorem qryA_wf (b : ByteArray) : QryWf (qryA b) := by
  have i1 : I64 1 := ⟨by decide, by decide⟩
  have i0 : I64 0 := ⟨by decide, by decide⟩
  have hz : ta.size ≤ maxLen := by decide
  have hb : (⟨#[]⟩ : ByteArray).size ≤ maxLen := by decide
  exact ⟨fun j hj => ⟨i1, i1, hz⟩, fun j hj => absurd hj (Nat.not_lt_zero _), fun j hj => absurd hj (Nat.not_lt_zero _), i0, hb⟩
theorem treeA_wf : ∀ j, j < 3 → NodWf (treeA j) := by
  intro j hj
  obtain rfl | rfl | rfl : j = 0 ∨ j = 1 ∨ j = 2 := by omega
  all_goals exact ⟨⟨by decide, by decide⟩, ⟨by decide, by decide⟩, ⟨by decide, by decide⟩, ⟨by decide, by decide⟩, by decide, by decide⟩
def treeArr : Array Value := #[.int .i64 4, .int .i64 0, .string ⟨#[97]⟩, .string ⟨#[120]⟩, .int .i64 (-1), .int .i64 (-1), .int .i64 1, .int .i64 1, .string ⟨#[]⟩, .string ⟨#[]⟩, .int .i64 (-1), .int .i64 (-1), .int .i64 19, .int .i64 0, .string ⟨#[]⟩, .string ⟨#[]⟩, .int .i64 0, .int .i64 1]
theorem treeA_rd {W : World} {g : Nat} {T : TypeId} (h : W.heap[g]? = some (.cells treeArr T (0, 0))) : NodRd W W.heap.size (some ⟨g, 0, none⟩) 3 treeA := by
  refine ⟨by omega, fun _ => ⟨g, 0, rfl, blk_lt h, fun j hj i hi => ?_⟩⟩
  refine blk_cell h ?_
  have key : ∀ j, j < 3 → ∀ i, i < 6 → treeArr[0 + (j * 6 + i)]? = some (nodCell (treeA j) i) := by
    intro j hj i hi
    obtain rfl | rfl | rfl : j = 0 ∨ j = 1 ∨ j = 2 := by omega
    all_goals obtain rfl | rfl | rfl | rfl | rfl | rfl : i = 0 ∨ i = 1 ∨ i = 2 ∨ i = 3 ∨ i = 4 ∨ i = 5 := by omega
    all_goals rfl
  exact key j hj i hi
set_option maxRecDepth 100000 in
set_option maxHeartbeats 4000000 in
theorem alive_any (w : World) {tt : TypeId} {fr : Nat × Nat} (hkw : w.heap[0]? = some (.cells kwArr tt fr)) :
    Calls Tryd.prog 30 #[] w fun e w' => e = .returned (.bool true) ∧ Below w.heap.size w w' := by
  have HK := Lib.hid hkw
  clear hkw
  have al := allocs6 w #[.string ⟨#[120]⟩] #[.string ⟨#[65]⟩, .slice (some ⟨w.heap.size, 0, none⟩) 1 1] #[.slice (some ⟨w.heap.size + 1, 0, none⟩) 1 1] #[.string ⟨#[65]⟩] #[.bool false, .slice (some ⟨w.heap.size + 1 + 1 + 1, 0, none⟩) 1 1, .string ⟨#[97]⟩, .int .i64 1, .int .i64 1] #[.slice (some ⟨w.heap.size + 1 + 1 + 1 + 1, 0, none⟩) 1 1, .int .i64 0, .int .i64 0, .slice none 0 0, .int .i64 0, .string ⟨#[]⟩, .slice none 0 0] 9 78 34 9 80 40
  have hb6 := bnew (bnew (bnew (bnew (bnew (bnew (Below.refl w.heap.size w) (.cells #[.string ⟨#[120]⟩] 9)) (.cells #[.string ⟨#[65]⟩, .slice (some ⟨w.heap.size, 0, none⟩) 1 1] 78)) (.cells #[.slice (some ⟨w.heap.size + 1, 0, none⟩) 1 1] 34)) (.cells #[.string ⟨#[65]⟩] 9)) (.cells #[.bool false, .slice (some ⟨w.heap.size + 1 + 1 + 1, 0, none⟩) 1 1, .string ⟨#[97]⟩, .int .i64 1, .int .i64 1] 80)) (.cells #[.slice (some ⟨w.heap.size + 1 + 1 + 1 + 1, 0, none⟩) 1 1, .int .i64 0, .int .i64 0, .slice none 0 0, .int .i64 0, .string ⟨#[]⟩, .slice none 0 0] 40)
  go_enter Tryd.func30, Tryd.ntmps30
  go_upto_region 3 with fail
  generalize (World.alloc (World.alloc (World.alloc (World.alloc (World.alloc (World.alloc w _) _) _) _) _) _) = w6 at *
  obtain ⟨b1, b2, b3, b4, b5, b6⟩ := al
  have HS := Lib.hid (schA_rd b1 b2)
  have HQ := Lib.hid (qryA_rd b4 b5)
  have hs6 := blk_lt b6
  have B1 := Lib.hid b1
  have B2 := Lib.hid b2
  have B3 := Lib.hid b3
  have B4 := Lib.hid b4
  have B5 := Lib.hid b5
  have B6 := Lib.hid b6
  have s0 := blk_cell B3.out (j := 0) rfl
  obtain ⟨y0, y1, y2, y3, y4, y5, y6⟩ := blk7 B6.out
  clear b1 b2 b3 b4 b5 b6
  go_wp2_with fail
  refine (check_any (some ⟨w.heap.size + 1, 0, none⟩) 1 schA ⟨some ⟨w.heap.size + 1 + 1 + 1 + 1, 0, none⟩, 1, none, 0, none, 0⟩ (qryA tA) _ HS.out HQ.out (qryA_wf tA) (block_below HK.out hb6)).mono ?_
  rw [checkA, show flwArr ⟨0, 0, 0, 0⟩ = #[.int .i64 0, .int .i64 0, .int .i64 0, .int .i64 0] from rfl]
  rintro e w7 ⟨rfl, hb7⟩
  have hb7' := bcall hb6 hb7
  have F8 := Lib.hid (blk_new w7 #[.int .i64 0, .int .i64 0, .int .i64 0, .int .i64 0] 47)
  have d8 := bnew hb7 (.cells #[.int .i64 0, .int .i64 0, .int .i64 0, .int .i64 0] 47)
  have B4' := Lib.hid (blk_below B4.out d8)
  have B5' := Lib.hid (blk_below B5.out d8)
  have B6' := Lib.hid (blk_below B6.out d8)
  have hs7 := hb7'.size
  have hs67 := hb7.size
  clear y0 y1 y2 y3 y4 y5 y6 s0
  go_upto_region 4 with fail
  generalize w7.alloc _ = w8 at *
  have y0 := blk_cell B6'.out (j := 0) rfl
  have i1 := blk_cell B5'.out (j := 1) rfl
  have s0 := blk_cell B4'.out (j := 0) rfl
  have s1 := blk_free B4'.out 0
  have hb8 := bcall hb6 d8
  have hb9 := bset hb8 (p := ⟨w.heap.size + 1 + 1 + 1, 0, none⟩) (by show w.heap.size ≤ w.heap.size + 1 + 1 + 1; omega) (.string ⟨#[66]⟩)
  have B4n := Lib.hid (blk_set B4'.out 0 (.string ⟨#[66]⟩))
  have B5n := Lib.hid (blk_other B5'.out (p := ⟨w.heap.size + 1 + 1 + 1, 0, none⟩) (by show w.heap.size + 1 + 1 + 1 ≠ _; omega) (.string ⟨#[66]⟩))
  have B6n := Lib.hid (blk_other B6'.out (p := ⟨w.heap.size + 1 + 1 + 1, 0, none⟩) (by show w.heap.size + 1 + 1 + 1 ≠ _; omega) (.string ⟨#[66]⟩))
  have B3n := Lib.hid (blk_other (blk_below B3.out d8) (p := ⟨w.heap.size + 1 + 1 + 1, 0, none⟩) (by show w.heap.size + 1 + 1 + 1 ≠ _; omega) (.string ⟨#[66]⟩))
  have B1n := Lib.hid (blk_other (blk_below B1.out d8) (p := ⟨w.heap.size + 1 + 1 + 1, 0, none⟩) (by show w.heap.size + 1 + 1 + 1 ≠ _; omega) (.string ⟨#[66]⟩))
  have B2n := Lib.hid (blk_other (blk_below B2.out d8) (p := ⟨w.heap.size + 1 + 1 + 1, 0, none⟩) (by show w.heap.size + 1 + 1 + 1 ≠ _; omega) (.string ⟨#[66]⟩))
  have F8n := Lib.hid (blk_other F8.out (p := ⟨w.heap.size + 1 + 1 + 1, 0, none⟩) (by show w.heap.size + 1 + 1 + 1 ≠ _; omega) (.string ⟨#[66]⟩))
  go_upto_region 5 with fail
  generalize w8.setCell _ _ = w9 at *
  clear y0 i1 s0 s1
  have HS9 := Lib.hid (schA_rd B1n.out B2n.out)
  have HQ9 := Lib.hid (qryA_rd (b := tB) B4n.out B5n.out)
  have s0 := blk_cell B3n.out (j := 0) rfl
  obtain ⟨y0, y1, y2, y3, y4, y5, y6⟩ := blk7 B6n.out
  go_wp2_with fail
  refine (check_any (some ⟨w.heap.size + 1, 0, none⟩) 1 schA ⟨some ⟨w.heap.size + 1 + 1 + 1 + 1, 0, none⟩, 1, none, 0, none, 0⟩ (qryA tB) _ HS9.out HQ9.out (qryA_wf tB) (block_below HK.out hb9)).mono ?_
  rw [checkB, show flwArr ⟨61, 1, 0, 0⟩ = #[.int .i64 61, .int .i64 1, .int .i64 0, .int .i64 0] from rfl]
  rintro e w10 ⟨rfl, hb10⟩
  clear y0 y1 y2 y3 y4 y5 y6 s0
  have d11 := bnew hb10 (.cells #[.int .i64 61, .int .i64 1, .int .i64 0, .int .i64 0] 47)
  have hb11 := bcall hb9 d11
  have F11 := blk_new w10 #[.int .i64 61, .int .i64 1, .int .i64 0, .int .i64 0] 47
  have F8m := blk_below F8n.out d11
  have B6m := Lib.hid (blk_below B6n.out d11)
  go_upto_region 6 with fail
  generalize w10.alloc _ = w11 at *
  obtain ⟨g0, g1, g2, g3⟩ := blk4f F8m
  obtain ⟨k0, k1, k2, k3⟩ := blk4f F11
  go_upto_region 8 with fail
  clear g0 g1 g2 g3 k0 k1 k2 k3
  have hb12 := bnew hb11 (.cells #[.int .i64 4, .int .i64 0, .string ⟨#[97]⟩, .string ⟨#[120]⟩, .int .i64 (-1), .int .i64 (-1), .int .i64 1, .int .i64 1, .string ⟨#[]⟩, .string ⟨#[]⟩, .int .i64 (-1), .int .i64 (-1), .int .i64 19, .int .i64 0, .string ⟨#[]⟩, .string ⟨#[]⟩, .int .i64 0, .int .i64 1] 60)
  have d12 := bnew (Below.refl w11.heap.size w11) (.cells #[.int .i64 4, .int .i64 0, .string ⟨#[97]⟩, .string ⟨#[120]⟩, .int .i64 (-1), .int .i64 (-1), .int .i64 1, .int .i64 1, .string ⟨#[]⟩, .string ⟨#[]⟩, .int .i64 (-1), .int .i64 (-1), .int .i64 19, .int .i64 0, .string ⟨#[]⟩, .string ⟨#[]⟩, .int .i64 0, .int .i64 1] 60)
  have T12 : Hid (NodRd (w11.alloc (.cells #[.int .i64 4, .int .i64 0, .string ⟨#[97]⟩, .string ⟨#[120]⟩, .int .i64 (-1), .int .i64 (-1), .int .i64 1, .int .i64 1, .string ⟨#[]⟩, .string ⟨#[]⟩, .int .i64 (-1), .int .i64 (-1), .int .i64 19, .int .i64 0, .string ⟨#[]⟩, .string ⟨#[]⟩, .int .i64 0, .int .i64 1] 60)) (w11.alloc (.cells #[.int .i64 4, .int .i64 0, .string ⟨#[97]⟩, .string ⟨#[120]⟩, .int .i64 (-1), .int .i64 (-1), .int .i64 1, .int .i64 1, .string ⟨#[]⟩, .string ⟨#[]⟩, .int .i64 (-1), .int .i64 (-1), .int .i64 19, .int .i64 0, .string ⟨#[]⟩, .string ⟨#[]⟩, .int .i64 0, .int .i64 1] 60)).heap.size (some ⟨w11.heap.size, 0, none⟩) 3 treeA) := Lib.hid (treeA_rd (blk_new w11 treeArr 60))
  have B12 := Lib.hid (blk_below B6m.out d12)
  have HQ12 := Lib.hid (HQ9.out.later (bcall d11 d12))
  go_upto_region 9 with fail
  generalize w11.alloc _ = w12 at *
  obtain ⟨y0, y1, y2, y3, y4, y5, y6⟩ := blk7 B12.out
  go_wp2_with fail
  refine (uses_any ⟨some ⟨w.heap.size + 1 + 1 + 1 + 1, 0, none⟩, 1, none, 0, none, 0⟩ (qryA tB) (some ⟨w11.heap.size, 0, none⟩) 3 3 treeA _ HQ12.out (qryA_wf tB) T12.out treeA_wf).mono ?_
  rintro e w13 ⟨u1, u2, u3, rfl, hb13, o1, o2, o3⟩
  obtain ⟨A1, c1, rfl, _⟩ := rowown_shape o1
  obtain ⟨A2, c2, rfl, _⟩ := rowown_shape o2
  obtain ⟨A3, c3, rfl, _⟩ := rowown_shape o3
  rw [show (usesL bareB (qryA tB).n (qryA tB).it treeA 3 (qryA tB).n).length = 1 from usesA tB]
  generalize (usesL prevB (qryA tB).n (qryA tB).it treeA 3 (qryA tB).n).length = l2 at *
  generalize (usesL aggB (qryA tB).n (qryA tB).it treeA 3 (qryA tB).n).length = l3 at *
  have hb13' := bcall hb12 hb13
  have hb14 := bnew hb13' (.cells #[.slice A1 1 c1, .slice A2 l2 c2, .slice A3 l3 c3] 57)
  have d14 := bnew hb13 (.cells #[.slice A1 1 c1, .slice A2 l2 c2, .slice A3 l3 c3] 57)
  have U14 := Lib.hid (blk_new w13 #[.slice A1 1 c1, .slice A2 l2 c2, .slice A3 l3 c3] 57)
  clear o1 o2 o3 y0 y1 y2 y3 y4 y5 y6
  go_upto_region 10 with fail
  generalize w13.alloc _ = w14 at *
  go_wp2_with fail
  refine (checkConj_any (some ⟨w11.heap.size, 0, none⟩) 3 3 treeA _ (T12.out.later d14) (block_below HK.out hb14)).mono ?_
  rintro e w15 ⟨v15, rfl, hb15, o15⟩
  rw [conjA] at o15
  obtain ⟨A5, c5, rfl, _⟩ := rowown_shape o15
  have R5 := natrow_rd (L := [2]) o15 (by decide)
  obtain ⟨b5, f5, rfl, _, hc5⟩ := R5.spot (by decide)
  have z5 : w15.cell? ⟨b5, f5, none⟩ = some (.int .i64 2) := hc5 0 (by decide)
  have hb15' := bcall hb14 hb15
  have T15 := Lib.hid (T12.out.later (bcall d14 hb15))
  have U15 := blk_below U14.out hb15
  have u0 := blk_cell U15 (j := 0) rfl
  have hz5 := (rd_addr z5).2
  clear R5 hc5 o15
  go_wp2_with fail
  refine (checkSize_any (some ⟨w11.heap.size, 0, none⟩) 3 3 treeA 2 _ T15.out (block_below HK.out hb15')).mono ?_
  rw [sizeA]
  rintro e w16 ⟨rfl, hb16⟩
  have u0 := blk_cell (blk_below U15 hb16) (j := 0) rfl
  have z5 := rd_later z5 hb16
  go_wp2_with (go_at_call 16; refine (isTruth_any (some ⟨w11.heap.size, 0, none⟩) 3 3 treeA _ (T15.out.later hb16)).mono ?_; rw [truthA]; rintro e wq ⟨rfl, hq⟩; have hq := hq.symm; subst hq)
  go_ret
  exact ⟨rfl, bcall hb15' hb16⟩
end Go.Proofs.YtagcbljfaflhoaaDoor

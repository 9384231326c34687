/-
  Several texts in one: OfRest.
-/
import Derived.Test.YtagcbljfaflhoaaDoorFlw28
set_option linter.unusedSimpArgs false
set_option linter.unusedVariables false
/-! ### The walk of sluiceref6.ofRest. -/
namespace Go.Proofs.YtagcbljfaflhoaaDoor
open Go.RowKit Go.ChangeShapes Go.WideShapes Go.ChangeAt Go.Deep Go.Joins
def tsB (b : ByteArray) : Bool := b.toList == [116, 115]
def bigB (n : Int) : Bool := decide (1099511627776 < n)
def pR0 (Q : Qry) (x : Fnd) : Prop := bigB Q.within = true ∧ x = ⟨9, 0, 66, 2, 0, 0⟩
def badBy (S : Sch) (Q : Qry) (i : Nat) : Bool := !hasB S (Q.it i) Q.by_ || tsB Q.by_
def pBy (S : Sch) (Q : Qry) (k : Nat) (x : Fnd) : Prop := pR0 Q x ∨ ((∃ i, i < k ∧ badBy S Q i = true) ∧ x = ⟨10, 0, 67, 3, 0, 0⟩)
def pB (S : Sch) (Q : Qry) (x : Fnd) : Prop := pR0 Q x ∨ (Q.by_.toList.isEmpty = false ∧ (∃ i, i < Q.n ∧ badBy S Q i = true) ∧ x = ⟨10, 0, 67, 3, 0, 0⟩)
def pM (S : Sch) (Q : Qry) (x : Fnd) : Prop := pB S Q x ∨ (8 < Q.m ∧ x = ⟨11, 0, 78, 5, 8, 0⟩)
def TR (k i r : Nat) (e : Int) : Fnd := ⟨12, r, e, 5, k, i⟩
def RR (S : Sch) (Q : Qry) (k i r : Nat) : Int := nodeR S Q true (Q.rt k) i r
def pRk (S : Sch) (Q : Qry) (k : Nat) (x : Fnd) : Prop := (∃ i r : Nat, i < Q.ln k ∧ 1 ≤ r ∧ r ≤ 4 ∧ RR S Q k i r ≠ 0 ∧ x = TR k i r (RR S Q k i r)) ∨ (isTruthB (Q.ln k) (Q.rt k) = true ∧ x = ⟨12, 5, 75, 5, k, (Q.ln k : Int) - 1⟩)
def pRt (S : Sch) (Q : Qry) (k : Nat) (x : Fnd) : Prop := pM S Q x ∨ ∃ j, j < k ∧ pRk S Q j x
def pRn (S : Sch) (Q : Qry) (k i z : Nat) : Fnd → Prop := pN (pRt S Q k) (RR S Q k) (TR k) i z
section
variable {S : Sch} {Q : Qry} {k i : Nat} {y : Fnd}
theorem pr0_hit (h : bigB Q.within = true) : pR0 Q y ↔ False ∨ y = ⟨9, 0, 66, 2, 0, 0⟩ := ⟨fun ⟨_, e⟩ => .inr e, fun e => ⟨h, e.resolve_left id⟩⟩
theorem pr0_miss (h : bigB Q.within = false) : pR0 Q y ↔ False := ⟨fun h2 => (by have h1 := h2.1; rw [h] at h1; cases h1), False.elim⟩
theorem pby_zero : pBy S Q 0 y ↔ pR0 Q y := by
  constructor
  · rintro (h | ⟨⟨i, hi, _⟩, _⟩)
    · exact h
    · omega
  · exact .inl
theorem pby_hit (h : badBy S Q k = true) : pBy S Q (k + 1) y ↔ pBy S Q k y ∨ y = ⟨10, 0, 67, 3, 0, 0⟩ := by
  constructor
  · rintro (h1 | ⟨_, e⟩)
    · exact .inl (.inl h1)
    · exact .inr e
  · rintro ((h1 | ⟨⟨i, hi, h2⟩, e⟩) | e)
    · exact .inl h1
    · exact .inr ⟨⟨i, by omega, h2⟩, e⟩
    · exact .inr ⟨⟨k, by omega, h⟩, e⟩
theorem pby_miss (h : badBy S Q k = false) : pBy S Q (k + 1) y ↔ pBy S Q k y := by
  constructor
  · rintro (h1 | ⟨⟨i, hi, h2⟩, e⟩)
    · exact .inl h1
    · by_cases hik : i = k
      · subst hik; rw [h] at h2; cases h2
      · exact .inr ⟨⟨i, by omega, h2⟩, e⟩
  · rintro (h1 | ⟨⟨i, hi, h2⟩, e⟩)
    · exact .inl h1
    · exact .inr ⟨⟨i, by omega, h2⟩, e⟩
theorem pb_end (hk : k ≤ Q.n) (h : (decide (k < Q.n) && !Q.by_.toList.isEmpty) = false) (h0 : Q.by_.toList.isEmpty = true → k = 0) : pB S Q y ↔ pBy S Q k y := by
  cases hb : Q.by_.toList.isEmpty
  · rw [hb] at h
    have hkn : k = Q.n := by
      simp at h
      omega
    subst hkn
    constructor
    · rintro (h1 | ⟨_, h2, e⟩)
      · exact .inl h1
      · exact .inr ⟨h2, e⟩
    · rintro (h1 | ⟨h2, e⟩)
      · exact .inl h1
      · exact .inr ⟨hb, h2, e⟩
  · obtain rfl := h0 hb
    rw [pby_zero]
    constructor
    · rintro (h1 | ⟨h2, _⟩)
      · exact h1
      · rw [hb] at h2; cases h2
    · exact .inl
theorem pm_hit (h : 8 < Q.m) : pM S Q y ↔ pB S Q y ∨ y = ⟨11, 0, 78, 5, 8, 0⟩ := by
  constructor
  · rintro (h1 | ⟨_, e⟩)
    · exact .inl h1
    · exact .inr e
  · rintro (h1 | e)
    · exact .inl h1
    · exact .inr ⟨h, e⟩
theorem pm_miss (h : ¬ 8 < Q.m) : pM S Q y ↔ pB S Q y := by
  constructor
  · rintro (h1 | ⟨h1, _⟩)
    · exact h1
    · exact absurd h1 h
  · exact .inl
theorem prt_zero : pRt S Q 0 y ↔ pM S Q y := by
  constructor
  · rintro (h1 | ⟨j, hj, _⟩)
    · exact h1
    · omega
  · exact .inl
theorem prt_next : pRt S Q (k + 1) y ↔ pRt S Q k y ∨ pRk S Q k y := by
  constructor
  · rintro (h1 | ⟨j, hj, h1⟩)
    · exact .inl (.inl h1)
    · by_cases hjk : j = k
      · subst hjk; exact .inr h1
      · exact .inl (.inr ⟨j, by omega, h1⟩)
  · rintro ((h1 | ⟨j, hj, h1⟩) | h1)
    · exact .inl h1
    · exact .inr ⟨j, by omega, h1⟩
    · exact .inr ⟨k, by omega, h1⟩
theorem prn_end : pRn S Q k (Q.ln k) 1 y ↔ pRt S Q k y ∨ ∃ i r : Nat, i < Q.ln k ∧ 1 ≤ r ∧ r ≤ 4 ∧ RR S Q k i r ≠ 0 ∧ y = TR k i r (RR S Q k i r) := by
  constructor
  · rintro (h1 | h1 | ⟨r, a, b, _⟩)
    · exact .inl h1
    · exact .inr h1
    · omega
  · rintro (h1 | h1)
    · exact .inl h1
    · exact .inr (.inl h1)
theorem prt_hit (h : isTruthB (Q.ln k) (Q.rt k) = true) : pRt S Q (k + 1) y ↔ pRn S Q k (Q.ln k) 1 y ∨ y = ⟨12, 5, 75, 5, k, (Q.ln k : Int) - 1⟩ := by
  rw [prt_next, prn_end]
  constructor
  · rintro (h1 | h1 | ⟨_, e⟩)
    · exact .inl (.inl h1)
    · exact .inl (.inr h1)
    · exact .inr e
  · rintro ((h1 | h1) | e)
    · exact .inl h1
    · exact .inr (.inl h1)
    · exact .inr (.inr ⟨h, e⟩)
theorem prt_miss (h : isTruthB (Q.ln k) (Q.rt k) = false) : pRt S Q (k + 1) y ↔ pRn S Q k (Q.ln k) 1 y := by
  rw [prt_next, prn_end]
  constructor
  · rintro (h1 | h1 | ⟨h1, e⟩)
    · exact .inl h1
    · exact .inr h1
    · rw [h] at h1; cases h1
  · rintro (h1 | h1)
    · exact .inl h1
    · exact .inr (.inl h1)
theorem bad_iff : badBy S Q i = true ↔ (hasB S (Q.it i) Q.by_ = false ∨ Q.by_.toList = [116, 115]) := by
  unfold badBy tsB
  rw [Bool.or_eq_true, Bool.not_eq_true', beq_iff_eq]
theorem mrest_iff : mRest S Q y ↔ pRt S Q Q.m y := by
  constructor
  · rintro (⟨h, e⟩ | ⟨h, ⟨i, hi, h2⟩, e⟩ | ⟨h, e⟩ | ⟨k, i, r, hk, hi, h1, h4, h, e⟩ | ⟨k, hk, h, e⟩)
    · exact .inl (.inl (.inl ⟨decide_eq_true h, e⟩))
    · exact .inl (.inl (.inr ⟨h, ⟨i, hi, bad_iff.2 h2⟩, e⟩))
    · exact .inl (.inr ⟨h, e⟩)
    · exact .inr ⟨k, hk, .inl ⟨i, r, hi, h1, h4, h, e⟩⟩
    · exact .inr ⟨k, hk, .inr ⟨h, e⟩⟩
  · rintro (((⟨h, e⟩ | ⟨h, ⟨i, hi, h2⟩, e⟩) | ⟨h, e⟩) | ⟨k, hk, (⟨i, r, hi, h1, h4, h, e⟩ | ⟨h, e⟩)⟩)
    · exact .inl ⟨of_decide_eq_true h, e⟩
    · exact .inr (.inl ⟨h, ⟨i, hi, bad_iff.1 h2⟩, e⟩)
    · exact .inr (.inr (.inl ⟨h, e⟩))
    · exact .inr (.inr (.inr (.inl ⟨k, i, r, hk, hi, h1, h4, h, e⟩)))
    · exact .inr (.inr (.inr (.inr ⟨k, hk, h, e⟩)))
theorem sum_next : sumN Q.ln (k + 1) = sumN Q.ln k + Q.ln k := rfl
end
set_option maxRecDepth 100000 in
set_option maxHeartbeats 16000000 in
theorem ofRest_any (A : Option Addr) (cap : Nat) (S : Sch) (V : QryV) (Q : Qry) (w : World) (hS : TypRd w w.heap.size A S) (h : QryRd w w.heap.size V Q) (ht : ∀ k, k < Q.m → treeB (Q.ln k) (Q.rt k) = true) (hqn : Q.n ≤ 1048576) (hqm : Q.m ≤ 1048576) (hsum : sumN Q.ln Q.m ≤ 1048576) :
    Calls Tryd.prog 64 #[.agg #[.slice A S.n cap], .agg (qryArr V Q)] w fun e w' => ∃ v L, e = .returned v ∧ Below w.heap.size w w' ∧ FndOwn w' w.heap.size v L ∧ Holds L (mRest S Q) ∧ L.length ≤ 8388608 := by
  obtain ⟨aI, cI, aW, cW, aR, cR⟩ := V
  show Calls _ _ #[.agg #[.slice A S.n cap], .agg #[.slice aI Q.n cI, .int .i64 Q.mode, .int .i64 Q.after, .slice aW Q.wn cW, .int .i64 Q.within, .string Q.by_, .slice aR Q.m cR]] w _
  obtain ⟨i1, hi1, hy0, hy1, hy2⟩ := info_parts infoFnd
  have hb0 := bnew (bnew (Below.refl w.heap.size w) (.cells #[.slice A S.n cap] 34)) (.cells #[.slice aI Q.n cI, .int .i64 Q.mode, .int .i64 Q.after, .slice aW Q.wn cW, .int .i64 Q.within, .string Q.by_, .slice aR Q.m cR] 40)
  have s0 := blk_alloc (blk_new w #[.slice A S.n cap] 34) (.cells #[.slice aI Q.n cI, .int .i64 Q.mode, .int .i64 Q.after, .slice aW Q.wn cW, .int .i64 Q.within, .string Q.by_, .slice aR Q.m cR] 40)
  have q0 := blk_new (w.alloc (.cells #[.slice A S.n cap] 34)) #[.slice aI Q.n cI, .int .i64 Q.mode, .int .i64 Q.after, .slice aW Q.wn cW, .int .i64 Q.within, .string Q.by_, .slice aR Q.m cR] 40
  rw [World.size_alloc] at q0
  have S0 := Lib.hid s0
  have Q0 := Lib.hid q0
  have HS := Lib.hid (hS.later hb0)
  have HQ := Lib.hid (h.later hb0)
  have HTR := Lib.hid ht
  have HSUM := Lib.hid (fun k (hk : k ≤ Q.m) => Nat.le_trans (sumN_mono (g := Q.ln) hk) hsum)
  clear hS h s0 q0 ht hsum
  go_enter Tryd.func64, Tryd.ntmps64
  go_upto_region 1 with fail
  generalize (w.alloc _).alloc _ = w0 at *
  have hzw0 : w.heap.size ≤ w0.heap.size := hb0.size
  obtain ⟨LN, hLN⟩ : ∃ LN : List Fnd, LN = [] := ⟨_, rfl⟩
  have HN := Lib.hid (show FndOwn w0 w0.heap.size (.slice none 0 0) LN by rw [hLN]; exact FndOwn.nil w0 w0.heap.size)
  have hln : LN.length ≤ 5 := by rw [hLN]; exact Nat.zero_le _
  have HLN := Lib.hid hLN
  clear hLN
  have x4 := blk_cell Q0.out (j := 4) rfl
  go_upto_if 15 with fail
  go_cut [5] from 13 to 19 (fun v wx => ∃ L, Hid (FndOwn wx w0.heap.size v L) ∧ Hid (Holds L (pR0 Q)) ∧ Hid (L.length ≤ 1) ∧ Below w0.heap.size w0 wx)
  case first =>
    by_cases hbig : 1099511627776 < Q.within
    · have HBG := Lib.hid (show bigB Q.within = true from decide_eq_true hbig)
      go_wp2_with fail
      refine (found_lit (9) (0) (66) (2) (0) (0) _).mono ?_
      rintro e wf ⟨rfl, hbf⟩
      have HLf := Lib.hid (FndOwn.below HN.out hbf)
      have hcf := bcall (Below.refl w0.heap.size w0) hbf
      have hzf := hcf.size
      go_wp2_with (at_builtin; go_loud (refine wpList_append_lies _ rfl _ _ _ rfl w0.heap.size 89 i1 _ 6 48 Tryd.underlying86 hi1 hy0 hy1 hy2 rfl (by omega) _ LN.length (flat (fndC LN) 6 LN.length) rfl (World.ownsRow.alloc HLf.out _) ⟨wf.heap.size, 0, none⟩ 1 1 [.int .i64 9, .int .i64 0, .int .i64 66, .int .i64 2, .int .i64 0, .int .i64 0] rfl rfl (World.news_of_block (cs := #[.int .i64 9, .int .i64 0, .int .i64 66, .int .i64 2, .int .i64 0, .int .i64 0]) (t := 89) (fr := (0, 0)) (heap_alloc_new wf _)) (by simp [Value.oneCell']) (by omega) (by unfold maxLen; omega) (by omega) (by simp; omega) (wf.heap.size + 1) (by simp) ?_; intro gg gcap w9 hown9 hgrow hat hlt9))
      have HL9 := Lib.hid (FndOwn.push (x := ⟨9, 0, 66, 2, 0, 0⟩) HLf.out hown9)
      have hb9 := FndOwn.under HLf.out (Nat.le_refl _) hcf hzf hgrow
      go_meet
      exact ⟨LN ++ [⟨9, 0, 66, 2, 0, 0⟩], HL9, Lib.hid (Holds.push (M := fun _ => False) (fun y => by rw [HLN.out]; simp) (fun y => pr0_hit HBG.out)), Lib.hid (by rw [HLN.out]; simp), hb9⟩
    · have HBG := Lib.hid (show bigB Q.within = false from decide_eq_false hbig)
      go_wp2_with fail
      go_meet
      exact ⟨LN, HN, Lib.hid (Holds.same (M := fun _ => False) (fun y => by rw [HLN.out]; simp) (fun y => pr0_miss HBG.out)), Lib.hid (by rw [HLN.out]; simp), Below.refl _ _⟩
  case rest =>
  obtain ⟨L0, HL0, HM0, HC0, hb00⟩ := hcut
  obtain ⟨wc0, ewc⟩ : ∃ w5 : World, w5 = wc := ⟨_, rfl⟩
  subst ewc
  clear x4 HN hln HLN
  go_wp2_with fail
  go_loopw [5, 6] (fun v i wr => ∃ (k : Nat) (L : List Fnd), k ≤ Q.n ∧ i = .int .i64 k ∧ Hid (FndOwn wr w0.heap.size v L) ∧ Hid (Holds L (pBy S Q k)) ∧ Hid (L.length ≤ 1 + k) ∧ Hid (Q.by_.toList.isEmpty = true → k = 0) ∧ Below w0.heap.size w0 wr) (fun _ i _ => Q.n - (intOf i).toNat)
  case atStart => exact ⟨0, L0, Nat.zero_le _, rfl, HL0, Lib.hid (Holds.same HM0.out fun y => pby_zero), HC0, Lib.hid (fun _ => rfl), hb00⟩
  case round =>
    clear HL0 HM0 HC0 hb00
    obtain ⟨k, L, hk, rfl, HL, HM, HC, HE0, hb⟩ := hrel
    obtain ⟨WA, e1⟩ : ∃ W1 : World, W1 = wr := ⟨_, rfl⟩
    subst e1
    have hzA := hb.size
    obtain ⟨y0, y1, y2, y3, y4, y5, y6⟩ := blk7 (blk_below Q0.out hb)
    obtain ⟨eb, heb⟩ : ∃ eb, Q.by_.toList.isEmpty = eb := ⟨_, rfl⟩
    have HEB := Lib.hid heb
    go_upto_region 5 with fail
    go_cut [29] from 20 to 29 (fun b wx => b = .bool (decide (k < Q.n) && !eb) ∧ wx = WA)
    case first =>
      by_cases hlt : k < Q.n
      · cases eb
        · go_wp2_with fail
          go_meet
          exact ⟨by rw [decide_eq_true hlt]; rfl, rfl⟩
        · go_wp2_with fail
          go_meet
          exact ⟨by rw [decide_eq_true hlt]; rfl, rfl⟩
      · go_wp2_with fail
        go_meet
        exact ⟨by rw [decide_eq_false hlt]; rfl, rfl⟩
    case rest =>
    obtain ⟨rfl, ew⟩ := hcut
    have ew := ew.symm
    subst ew
    obtain ⟨ct, hct⟩ : ∃ ct, (decide (k < Q.n) && !eb) = ct := ⟨_, rfl⟩
    have HCT := Lib.hid hct
    rw [hct]
    clear hct heb
    cases ct
    · have HM2 := Lib.hid (Holds.same HM.out fun y => pb_end hk (by rw [HEB.out]; exact HCT.out) HE0.out)
      clear HM y0 y1 y2 y3 y4 y5 y6
      have x6 := blk_cell (blk_below Q0.out hb) (j := 6) rfl
      go_upto_if 55 with fail
      go_cut [5] from 52 to 59 (fun v wx => ∃ L, Hid (FndOwn wx w0.heap.size v L) ∧ Hid (Holds L (pM S Q)) ∧ Hid (L.length ≤ 2 + Q.n) ∧ Below w0.heap.size w0 wx)
      case first =>
        have hl : L.length ≤ 2199023255560 := by have := HC.out; omega
        by_cases h8 : 8 < Q.m
        · have h8' : (8 : Int) < (Q.m : Int) := by omega
          go_wp2_with fail
          refine (found_lit (11) (0) (78) (5) (8) (0) _).mono ?_
          rintro e wf ⟨rfl, hbf⟩
          have HLf := Lib.hid (FndOwn.below HL.out hbf)
          have hcf := bcall hb hbf
          have hzf := hcf.size
          go_wp2_with (at_builtin; go_loud (refine wpList_append_lies _ rfl _ _ _ rfl w0.heap.size 89 i1 _ 6 48 Tryd.underlying86 hi1 hy0 hy1 hy2 rfl (by omega) _ L.length (flat (fndC L) 6 L.length) rfl (World.ownsRow.alloc HLf.out _) ⟨wf.heap.size, 0, none⟩ 1 1 [.int .i64 11, .int .i64 0, .int .i64 78, .int .i64 5, .int .i64 8, .int .i64 0] rfl rfl (World.news_of_block (cs := #[.int .i64 11, .int .i64 0, .int .i64 78, .int .i64 5, .int .i64 8, .int .i64 0]) (t := 89) (fr := (0, 0)) (heap_alloc_new wf _)) (by simp [Value.oneCell']) (by omega) (by unfold maxLen; omega) (by omega) (by simp; omega) (wf.heap.size + 1) (by simp) ?_; intro gg gcap w9 hown9 hgrow hat hlt9))
          have HL9 := Lib.hid (FndOwn.push (x := ⟨11, 0, 78, 5, 8, 0⟩) HLf.out hown9)
          have hb9 := FndOwn.under HLf.out (Nat.le_refl _) hcf hzf hgrow
          go_meet
          exact ⟨L ++ [⟨11, 0, 78, 5, 8, 0⟩], HL9, Lib.hid (Holds.push HM2.out fun y => pm_hit h8), Lib.hid (by have := push_len (x := ⟨11, 0, 78, 5, 8, 0⟩) HC.out; omega), hb9⟩
        · have h8' : ¬ (8 : Int) < (Q.m : Int) := by omega
          go_wp2_with fail
          go_meet
          exact ⟨L, HL, Lib.hid (Holds.same HM2.out fun y => pm_miss h8), Lib.hid (by have := HC.out; omega), hb⟩
      case rest =>
      clear HL HM2 HC x6 hb HE0
      obtain ⟨L, HL, HM, HC, hb⟩ := hcut
      obtain ⟨WB, ewc⟩ : ∃ w5 : World, w5 = wc := ⟨_, rfl⟩
      subst ewc
      go_wp2_with fail
      go_loopw [5, 8] (fun v i wr => ∃ (k : Nat) (L : List Fnd), k ≤ Q.m ∧ i = .int .i64 k ∧ Hid (FndOwn wr w0.heap.size v L) ∧ Hid (Holds L (pRt S Q k)) ∧ Hid (L.length ≤ 2 + Q.n + 4 * sumN Q.ln k + k) ∧ Below w0.heap.size w0 wr) (fun _ i _ => Q.m - (intOf i).toNat)
      case atStart => exact ⟨0, L, Nat.zero_le _, rfl, HL, Lib.hid (Holds.same HM.out fun y => prt_zero), Lib.hid (by have := HC.out; omega), hb⟩
      case round =>
        clear HL HM HC hb
        obtain ⟨k, L, hk, rfl, HL, HM, HC, hb⟩ := hrel
        obtain ⟨WC, e1⟩ : ∃ W1 : World, W1 = wr := ⟨_, rfl⟩
        subst e1
        have hzC := hb.size
        have x6 := blk_cell (blk_below Q0.out hb) (j := 6) rfl
        by_cases hlt : k < Q.m
        · obtain ⟨rb, roff, eR, hrb, hrc⟩ := HQ.out.rR.spot (by omega)
          have eR : aR = some ⟨rb, roff, none⟩ := eR
          subst eR
          obtain ⟨ta, tc, g0', _, _, hnd⟩ := hrc k hlt
          have g0 := (hb.cell (p := ⟨rb, roff + k, none⟩) hrb).trans g0'
          have HND := Lib.hid hnd
          have HTK := Lib.hid (HTR.out k hlt)
          have hlk := HSUM.out (k + 1) hlt
          rw [sum_next] at hlk
          obtain ⟨sk, hsk⟩ : ∃ sk, sumN Q.ln k = sk := ⟨_, rfl⟩
          have HSK := Lib.hid hsk
          rw [hsk] at hlk
          have HC := Lib.hid (show L.length ≤ 2 + Q.n + 4 * sk + k by rw [← hsk]; exact HC.out)
          clear hrc g0' hnd hsk
          go_wp2_with fail
          go_loopw [5, 10] (fun v i wr => ∃ (i' : Nat) (L : List Fnd), i' ≤ Q.ln k ∧ i = .int .i64 i' ∧ Hid (FndOwn wr w0.heap.size v L) ∧ Hid (Holds L (pRn S Q k i' 1)) ∧ Hid (L.length ≤ 2 + Q.n + 4 * sk + k + 4 * i') ∧ Below w0.heap.size w0 wr) (fun _ i _ => Q.ln k - (intOf i).toNat)
          case atStart => exact ⟨0, L, Nat.zero_le _, rfl, HL, Lib.hid (Holds.same HM.out fun y => pn_zero), HC, hb⟩
          case round =>
            clear HL HM HC hb x6 g0
            obtain ⟨i, L, hi, rfl, HL, HM, HC, hb⟩ := hrel
            obtain ⟨WD, e1⟩ : ∃ W1 : World, W1 = wr := ⟨_, rfl⟩
            subst e1
            have hzD := hb.size
            by_cases hli : i < Q.ln k
            · have hkid := tree_kids HTK.out i hli
              have HKA := Lib.hid hkid.1
              have HKB := Lib.hid hkid.2
              obtain ⟨y0, y1, y2, y3, y4, y5, y6⟩ := blk7 (blk_below Q0.out hb)
              have u0 := blk_cell (blk_below S0.out hb) (j := 0) rfl
              obtain ⟨R, hR⟩ : ∃ R : Nat → Int, (fun r => nodeR S Q true (Q.rt k) i r) = R := ⟨_, rfl⟩
              have HR := Lib.hid (show ∀ r, RR S Q k i r = R r from fun r => congrFun hR r)
              have HRA := Lib.hid (rk_lit (S := S) (Q := Q) (r := true) (f := Q.rt k) (i := i) (fun r => congrFun hR r))
              clear hR hkid
              go_wp2_with fail
              refine (ofNode_any A cap S ⟨aI, cI, aW, cW, some ⟨rb, roff, none⟩, cR⟩ Q ta (Q.ln k) tc (Q.rt k) i true _ (HS.out.later hb) (HQ.out.later hb) (HND.out.later hb) hli HKA.out HKB.out).mono ?_
              rw [HRA.out]
              rintro e w5 ⟨rfl, hb5⟩
              have hb5' := bcall hb hb5
              have hb56 := bnew hb5 (.cells #[.int .i64 0, .int .i64 (R 1), .int .i64 (R 2), .int .i64 (R 3), .int .i64 (R 4)] 118)
              have hb6 := bnew hb5' (.cells #[.int .i64 0, .int .i64 (R 1), .int .i64 (R 2), .int .i64 (R 3), .int .i64 (R 4)] 118)
              have HL6 := Lib.hid (FndOwn.below HL.out hb56)
              have E6 := Lib.hid (blk_new w5 #[.int .i64 0, .int .i64 (R 1), .int .i64 (R 2), .int .i64 (R 3), .int .i64 (R 4)] 118)
              have HC := Lib.hid (show L.length + 1 ≤ 2 + Q.n + 4 * sk + k + 4 * i + 1 by have := HC.out; omega)
              clear y0 y1 y2 y3 y4 y5 y6 u0 HL HKA HKB HRA
              go_upto_region 20 with fail
              generalize w5.alloc _ = w6 at *
              go_wp2_with fail
              go_loopw [5, 12] (fun v q wr => ∃ (z : Nat) (L : List Fnd), 1 ≤ z ∧ z ≤ 5 ∧ q = .int .i64 z ∧ Hid (FndOwn wr w0.heap.size v L) ∧ Hid (Holds L (pRn S Q k i z)) ∧ Hid (L.length + 1 ≤ 2 + Q.n + 4 * sk + k + 4 * i + z) ∧ Hid (wr.heap[w5.heap.size]? = some (.cells #[.int .i64 0, .int .i64 (R 1), .int .i64 (R 2), .int .i64 (R 3), .int .i64 (R 4)] 118 (0, 0))) ∧ Below w0.heap.size w0 wr) (fun _ q _ => 5 - (intOf q).toNat)
              case atStart => exact ⟨1, L, Nat.le_refl _, by omega, rfl, HL6, HM, HC, E6, hb6⟩
              case round =>
                clear HL6 HM HC E6 hb6
                obtain ⟨z, L, hz1, hz5, rfl, HL, HM, HC, EZ, hbz⟩ := hrel
                obtain ⟨WZ, e1⟩ : ∃ W1 : World, W1 = wr := ⟨_, rfl⟩
                subst e1
                have hzZ := hbz.size
                by_cases hlz : z ≤ 4
                · have ez := rk_cell EZ.out hz1 hlz
                  obtain ⟨ev, hev⟩ : ∃ ev, R z = ev := ⟨_, rfl⟩
                  rw [hev] at ez
                  have HEV := Lib.hid ((HR.out z).trans hev)
                  clear hev
                  by_cases h0 : ev = 0
                  · subst h0
                    go_wp2_with fail
                    go_roundw
                    case rel => exact ⟨z + 1, L, by omega, by omega, by go_num, HL, Lib.hid (Holds.same HM.out fun y => pn_miss HEV.out), Lib.hid (by have := HC.out; omega), EZ, hbz⟩
                    case measure => simp [intOf]; omega
                  · have h0' : (ev != 0) = true := by rw [bne_iff_ne]; exact h0
                    have HNE := Lib.hid h0
                    have hl : L.length ≤ 2199023255560 := by have := HC.out; omega
                    go_wp2_with fail
                    refine (found_lit (12) (z) (ev) (5) (k) (i) _).mono ?_
                    rintro e wf ⟨rfl, hbf⟩
                    have HLf := Lib.hid (FndOwn.below HL.out hbf)
                    have hcf := bcall hbz hbf
                    have hzf := hcf.size
                    have EZf := Lib.hid (blk_below EZ.out hbf)
                    go_wp2_with (at_builtin; go_loud (refine wpList_append_lies _ rfl _ _ _ rfl w0.heap.size 89 i1 _ 6 48 Tryd.underlying86 hi1 hy0 hy1 hy2 rfl (by omega) _ L.length (flat (fndC L) 6 L.length) rfl (World.ownsRow.alloc HLf.out _) ⟨wf.heap.size, 0, none⟩ 1 1 [.int .i64 12, .int .i64 z, .int .i64 ev, .int .i64 5, .int .i64 k, .int .i64 i] rfl rfl (World.news_of_block (cs := #[.int .i64 12, .int .i64 z, .int .i64 ev, .int .i64 5, .int .i64 k, .int .i64 i]) (t := 89) (fr := (0, 0)) (heap_alloc_new wf _)) (by simp [Value.oneCell']) (by omega) (by unfold maxLen; omega) (by omega) (by simp; omega) (wf.heap.size + 1) (by simp) ?_; intro gg gcap w9 hown9 hgrow hat hlt9))
                    have HL9 := Lib.hid (FndOwn.push (x := ⟨12, z, ev, 5, k, i⟩) HLf.out hown9)
                    have hb9 := FndOwn.under HLf.out (Nat.le_refl _) hcf hzf hgrow
                    go_roundw
                    case rel => exact ⟨z + 1, L ++ [⟨12, z, ev, 5, k, i⟩], by omega, by omega, by go_num, HL9, Lib.hid (Holds.push HM.out fun y => by first | exact pn_hit' HEV.out HNE.out hz1), Lib.hid (by have := push_len (x := ⟨12, z, ev, 5, k, i⟩) (show L.length ≤ 2 + Q.n + 4 * sk + k + 4 * i + z - 1 by have := HC.out; omega); have := HC.out; omega), Lib.hid (FndOwn.blk HLf.out hgrow EZf.out (by decide)), hb9⟩
                    case measure => simp [intOf]; omega
                · obtain rfl : z = 5 := by omega
                  have HM5 := Lib.hid (Holds.same HM.out fun y => pn_next)
                  have HC5 := HC
                  clear HM
                  go_wp2_with fail
                  go_roundw
                  case rel => exact ⟨i + 1, L, by omega, by go_num, HL, HM5, Lib.hid (by have := HC5.out; omega), hbz⟩
                  case measure => simp [intOf]; omega
            · obtain rfl : i = Q.ln k := by omega
              have hpos := (tree_shp HTK.out).1
              have hpos1 : (1 : Int) ≤ (Q.ln k : Int) := by omega
              have hpos2 : (0 : Int) < (Q.ln k : Int) := by omega
              obtain ⟨tv, htv⟩ : ∃ tv, isTruthB (Q.ln k) (Q.rt k) = tv := ⟨_, rfl⟩
              have HTV := Lib.hid htv
              have HOP := Lib.hid ((isTruth_last (by omega)).symm.trans htv)
              obtain ⟨tb, toff, eT, htb, htc⟩ := (HND.out.later hb).spot (by omega)
              subst eT
              have c1 := node_truth htc (r := Q.ln k - 1) (by omega)
              have et : ((Q.ln k : Int) - 1).toNat = Q.ln k - 1 := by omega
              have c2 : WD.cell? ⟨tb, toff + ((Q.ln k : Int) - 1).toNat * 6, none⟩ = some (.int .i64 (Q.rt k (Q.ln k - 1)).op) := by rw [et]; exact c1
              have hl : L.length ≤ 2199023255560 := by have := HC.out; omega
              clear htc htv et
              cases tv
              · go_wp2_with (go_at_call 51; refine (refTruth_any _ _).mono ?_; rw [HOP.out]; rintro e wq ⟨rfl, hq⟩; have hq := hq.symm; subst hq)
                go_roundw
                case rel => exact ⟨k + 1, L, by omega, by go_num, HL, Lib.hid (Holds.same HM.out fun y => prt_miss HTV.out), Lib.hid (by have := HC.out; rw [sum_next, HSK.out]; omega), hb⟩
                case measure => simp [intOf]; omega
              · go_upto_region 26 with (go_at_call 51; refine (refTruth_any _ _).mono ?_; rw [HOP.out]; rintro e wq ⟨rfl, hq⟩; have hq := hq.symm; subst hq)
                go_wp2_with fail
                refine (found_lit (12) (5) (75) (5) (k) ((Q.ln k : Int) - 1) _).mono ?_
                rintro e wf ⟨rfl, hbf⟩
                have HLf := Lib.hid (FndOwn.below HL.out hbf)
                have hcf := bcall hb hbf
                have hzf := hcf.size
                go_wp2_with (at_builtin; go_loud (refine wpList_append_lies _ rfl _ _ _ rfl w0.heap.size 89 i1 _ 6 48 Tryd.underlying86 hi1 hy0 hy1 hy2 rfl (by omega) _ L.length (flat (fndC L) 6 L.length) rfl (World.ownsRow.alloc HLf.out _) ⟨wf.heap.size, 0, none⟩ 1 1 [.int .i64 12, .int .i64 5, .int .i64 75, .int .i64 5, .int .i64 k, .int .i64 ((Q.ln k : Int) - 1)] rfl rfl (World.news_of_block (cs := #[.int .i64 12, .int .i64 5, .int .i64 75, .int .i64 5, .int .i64 k, .int .i64 ((Q.ln k : Int) - 1)]) (t := 89) (fr := (0, 0)) (heap_alloc_new wf _)) (by simp [Value.oneCell']) (by omega) (by unfold maxLen; omega) (by omega) (by simp; omega) (wf.heap.size + 1) (by simp) ?_; intro gg gcap w9 hown9 hgrow hat hlt9))
                have HL9 := Lib.hid (FndOwn.push (x := ⟨12, 5, 75, 5, k, (Q.ln k : Int) - 1⟩) HLf.out hown9)
                have hb9 := FndOwn.under HLf.out (Nat.le_refl _) hcf hzf hgrow
                go_roundw
                case rel => exact ⟨k + 1, L ++ [⟨12, 5, 75, 5, k, (Q.ln k : Int) - 1⟩], by omega, by go_num, HL9, Lib.hid (Holds.push HM.out fun y => prt_hit HTV.out), Lib.hid (by have := push_len (x := ⟨12, 5, 75, 5, k, (Q.ln k : Int) - 1⟩) HC.out; rw [sum_next, HSK.out]; omega), hb9⟩
                case measure => simp [intOf]; omega
        · obtain rfl : k = Q.m := by omega
          have HM2 := Lib.hid (Holds.same HM.out fun y => mrest_iff)
          have HC2 := Lib.hid (show L.length ≤ 8388608 by have := HC.out; have := HSUM.out Q.m (Nat.le_refl _); omega)
          go_wp2_with fail
          go_ret
          exact ⟨_, L, rfl, bcall hb0 hb, FndOwn.le HL.out hzw0, HM2.out, HC2.out⟩
    · have hlt : k < Q.n := by
        have h1 := HCT.out
        rw [Bool.and_eq_true] at h1
        exact of_decide_eq_true h1.1
      have hebf : eb = false := by
        have h1 := HCT.out
        rw [Bool.and_eq_true, Bool.not_eq_true'] at h1
        exact h1.2
      have HNE := Lib.hid (show ∀ k' : Nat, Q.by_.toList.isEmpty = true → k' = 0 from fun k' he => by rw [HEB.out, hebf] at he; cases he)
      clear hebf
      obtain ⟨ib, ioff, eI, hib, hci⟩ := (HQ.out.later hb).rI.spot (by omega)
      have eI : aI = some ⟨ib, ioff, none⟩ := eI
      subst eI
      obtain ⟨g0, ⟨ta, tc, g1, _, _, hty⟩, g2, g3, g4⟩ := hci k hlt
      obtain ⟨x, hx⟩ : ∃ x, Q.it k = x := ⟨_, rfl⟩
      have HX := Lib.hid hx
      rw [hx] at g0 g1 g2 g3 g4 hty
      obtain ⟨ng, tn, ty, vr, lo, hi⟩ := x
      have g0 : WA.cell? ⟨ib, ioff + k * 5, none⟩ = some (.bool ng) := g0
      have g1 : WA.cell? ⟨ib, ioff + k * 5 + 1, none⟩ = some (.slice ta tn tc) := g1
      have g2 : WA.cell? ⟨ib, ioff + k * 5 + 2, none⟩ = some (.string vr) := g2
      have g3 : WA.cell? ⟨ib, ioff + k * 5 + 3, none⟩ = some (.int .i64 lo) := g3
      have g4 : WA.cell? ⟨ib, ioff + k * 5 + 4, none⟩ = some (.int .i64 hi) := g4
      have HTY := Lib.hid (show TxtRd WA WA.heap.size ta tn ty from hty)
      have u0 := blk_cell (blk_below S0.out hb) (j := 0) rfl
      obtain ⟨hv, hhv⟩ : ∃ hv, hasB S ⟨ng, tn, ty, vr, lo, hi⟩ Q.by_ = hv := ⟨_, rfl⟩
      have HHV := Lib.hid hhv
      obtain ⟨tv, htv⟩ : ∃ tv, (Q.by_.toList == [116, 115]) = tv := ⟨_, rfl⟩
      have HBAD := Lib.hid (show badBy S Q k = (!hv || tv) by rw [badBy, HX.out, hhv, tsB, htv])
      have HS1 := Lib.hid (HS.out.later hb)
      clear hci hx hty hhv y1 y2 y3 y4 y6
      go_upto_region 7 with fail
      go_region_held3 (fun w' => w'.cell? ⟨w.heap.size, 0, none⟩ = some (.slice A S.n cap) ∧ w'.cell? ⟨w.heap.size + 1, 0, none⟩ = some (.slice (some ⟨ib, ioff, none⟩) Q.n cI) ∧ w'.cell? ⟨w.heap.size + 1, 5, none⟩ = some (.string Q.by_) ∧ w'.cell? ⟨ib, ioff + k * 5, none⟩ = some (.bool ng) ∧ w'.cell? ⟨ib, ioff + k * 5 + 1, none⟩ = some (.slice ta tn tc) ∧ w'.cell? ⟨ib, ioff + k * 5 + 2, none⟩ = some (.string vr) ∧ w'.cell? ⟨ib, ioff + k * 5 + 3, none⟩ = some (.int .i64 lo) ∧ w'.cell? ⟨ib, ioff + k * 5 + 4, none⟩ = some (.int .i64 hi) ∧ Below WA.heap.size WA w')
        (first
          | exact ⟨u0, y0, y5, g0, g1, g2, g3, g4, (Below.refl _ _).drew⟩
          | (go_split_ands; exact ⟨rd_later (by assumption) hbz, rd_later (by assumption) hbz, rd_later (by assumption) hbz, rd_later (by assumption) hbz, rd_later (by assumption) hbz, rd_later (by assumption) hbz, rd_later (by assumption) hbz, rd_later (by assumption) hbz, bcall (by assumption) hbz⟩))
        (first
          | (go_at_call 95; go_split_ands; refine (every_any A cap S ⟨ng, tn, ty, vr, lo, hi⟩ ta tc Q.by_ _ (HS1.out.later (by assumption)) (RowRd.later HTY.out (by assumption))).mono ?_; rw [HHV.out]; rintro e wz ⟨rfl, hbz⟩))
      go_split_ands
      have hb5 : Below WA.heap.size WA wz := by assumption
      have hb5' := bcall hb hb5
      have HL5 := Lib.hid (FndOwn.below HL.out hb5)
      have y55 := rd_later y5 hb5
      obtain ⟨WB, e1⟩ : ∃ W1 : World, W1 = wz := ⟨_, rfl⟩
      subst e1
      clear y0 y5 g0 g1 g2 g3 g4 u0 HL
      have hl : L.length ≤ 2199023255560 := by have := HC.out; omega
      go_upto_region 8 with fail
      go_cut [47] from 41 to 47 (fun b wx => b = .bool (!hv || tv) ∧ wx = WB)
      case first =>
        cases hv
        · go_wp2_with fail
          go_meet
          exact ⟨by first | rfl | simp, rfl⟩
        · cases tv
          · go_wp2_with fail
            go_meet
            exact ⟨by first | rfl | simp, rfl⟩
          · go_wp2_with fail
            go_meet
            exact ⟨by first | rfl | simp, rfl⟩
      case rest =>
      obtain ⟨rfl, ew⟩ := hcut
      have ew := ew.symm
      subst ew
      obtain ⟨bd, hbd⟩ : ∃ bd, (!hv || tv) = bd := ⟨_, rfl⟩
      have HBD := Lib.hid (HBAD.out.trans hbd)
      rw [hbd]
      clear hbd htv
      cases bd
      · go_wp2_with fail
        go_roundw
        case rel => exact ⟨k + 1, L, by omega, by go_num, HL5, Lib.hid (Holds.same HM.out fun y => pby_miss HBD.out), Lib.hid (by have := HC.out; omega), Lib.hid (HNE.out (k + 1)), hb5'⟩
        case measure => simp [intOf]; omega
      · skip
        go_wp2_with fail
        refine (found_lit (10) (0) (67) (3) (0) (0) _).mono ?_
        rintro e wf ⟨rfl, hbf⟩
        have HLf := Lib.hid (FndOwn.below HL5.out hbf)
        have hcf := bcall hb5' hbf
        have hzf := hcf.size
        go_wp2_with (at_builtin; go_loud (refine wpList_append_lies _ rfl _ _ _ rfl w0.heap.size 89 i1 _ 6 48 Tryd.underlying86 hi1 hy0 hy1 hy2 rfl (by omega) _ L.length (flat (fndC L) 6 L.length) rfl (World.ownsRow.alloc HLf.out _) ⟨wf.heap.size, 0, none⟩ 1 1 [.int .i64 10, .int .i64 0, .int .i64 67, .int .i64 3, .int .i64 0, .int .i64 0] rfl rfl (World.news_of_block (cs := #[.int .i64 10, .int .i64 0, .int .i64 67, .int .i64 3, .int .i64 0, .int .i64 0]) (t := 89) (fr := (0, 0)) (heap_alloc_new wf _)) (by simp [Value.oneCell']) (by omega) (by unfold maxLen; omega) (by omega) (by simp; omega) (wf.heap.size + 1) (by simp) ?_; intro gg gcap w9 hown9 hgrow hat hlt9))
        have HL9 := Lib.hid (FndOwn.push (x := ⟨10, 0, 67, 3, 0, 0⟩) HLf.out hown9)
        have hb9 := FndOwn.under HLf.out (Nat.le_refl _) hcf hzf hgrow
        go_roundw
        case rel => exact ⟨k + 1, L ++ [⟨10, 0, 67, 3, 0, 0⟩], by omega, by go_num, HL9, Lib.hid (Holds.push HM.out fun y => pby_hit HBD.out), Lib.hid (by have := push_len (x := ⟨10, 0, 67, 3, 0, 0⟩) HC.out; omega), Lib.hid (HNE.out (k + 1)), hb9⟩
        case measure => simp [intOf]; omega
end Go.Proofs.YtagcbljfaflhoaaDoor

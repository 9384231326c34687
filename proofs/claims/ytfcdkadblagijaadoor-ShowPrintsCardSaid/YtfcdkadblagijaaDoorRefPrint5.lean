/-
  The walk of the reference's Print.
-/
import Derived.Test.YtfcdkadblagijaaDoorRefItem6
import Derived.Test.YtfcdkadblagijaaDoorLarge5
import Derived.Test.YtfcdkadblagijaaDoorShaped5
set_option linter.unusedSimpArgs false
set_option linter.unusedVariables false
namespace Go.Proofs.YtfcdkadblagijaaDoor
open Go.RowKit Go.ChangeShapes Go.WideShapes Go.ChangeAt Go.Deep Go.Joins
theorem bc9 {w w' : World} {a : Addr} {v : Value} (hb : Below w.heap.size w w') (h : w.cell? a = some v) : w'.cell? a = some v := (hb.cell (cell_lt h)).trans h
/-- P is a beginning of PR. -/
def Pre (P PR : List Tk) : Prop := ∃ r, PR = P ++ r
theorem Pre.left {P M PR : List Tk} (h : Pre (P ++ M) PR) : Pre P PR := by
  obtain ⟨r, hr⟩ := h
  exact ⟨M ++ r, by rw [hr, List.append_assoc]⟩
theorem Pre.trans {P M PR : List Tk} (h : Pre P M) (h2 : Pre M PR) : Pre P PR := by
  obtain ⟨r, hr⟩ := h
  subst hr
  exact h2.left
theorem Pre.refl (P : List Tk) : Pre P P := ⟨[], (List.append_nil _).symm⟩
/-- What the reference has told: P, p deep. -/
def RpAt (w : World) (qb xb : Nat) (V : QryV) (Q : Qry) (PR P : List Tk) (p : Nat) (wx : World) : Prop :=
  w.heap.size ≤ xb ∧ Below w.heap.size w wx ∧ wx.heap[qb]? = some (.cells (qryArr V Q) 34 (0, 0)) ∧ qb ≠ xb ∧ p ≤ 2400 ∧ P ≠ [] ∧ Pre P PR ∧
  wx.heap[xb]? = some (.cells #[.string (jt P), .int .i64 ((P.length : Nat) : Int), .int .i64 ((p : Nat) : Int)] 57 (0, 0))
section
variable {w wx : World} {qb xb : Nat} {V : QryV} {Q : Qry} {PR P M : List Tk} {p q : Nat}
theorem RpAt.at (h : RpAt w qb xb V Q PR P p wx) {j : Nat} {v : Value} (hj : (qryArr V Q)[j]? = some v) : wx.cell? ⟨qb, j, none⟩ = some v := blk_cell h.2.2.1 hj
theorem RpAt.below (h : RpAt w qb xb V Q PR P p wx) : Below w.heap.size w wx := h.2.1
theorem RpAt.same {P' : List Tk} {p' : Nat} (h : RpAt w qb xb V Q PR P p wx) (e : P = P') (ep : p = p') : RpAt w qb xb V Q PR P' p' wx := by
  subst e ep
  exact h
theorem RpAt.step (hok : ∀ t ∈ PR, TkOk t) (hlen : PR.length ≤ 40000) (h : RpAt w qb xb V Q PR P p wx) {s2 : ByteArray} {n2 d2 : Int} (hM : M ≠ []) (hs2 : s2 = jt M) (hn2 : n2 = ((M.length : Nat) : Int)) (hd2 : d2 = ((q : Nat) : Int)) (hpre : Pre (P ++ M) PR) (hq : q ≤ 2400) :
    ∃ (s s' : ByteArray) (n d n' d' : Nat), (wx.cell? ⟨xb, 0, none⟩ = some (.string s) ∧ wx.cell? ⟨xb, 1, none⟩ = some (.int .i64 (n : Int)) ∧ wx.cell? ⟨xb, 2, none⟩ = some (.int .i64 (d : Int))) ∧
      (∀ wz : World, Calls Tryd.prog 34 #[.agg #[.string s, .int .i64 (n : Int), .int .i64 (d : Int)], .agg #[.string s2, .int .i64 n2, .int .i64 d2]] wz fun e w' => e = .returned (.agg #[.string s', .int .i64 (n' : Int), .int .i64 (d' : Int)]) ∧ Below wz.heap.size wz w') ∧
      ∀ wy : World, Below wx.heap.size wx wy → (wy.cell? ⟨xb, 0, none⟩ = some (.string s) ∧ wy.cell? ⟨xb, 1, none⟩ = some (.int .i64 (n : Int)) ∧ wy.cell? ⟨xb, 2, none⟩ = some (.int .i64 (d : Int)) ∧ wy.frozen? ⟨xb, 0, none⟩ = false ∧ wy.frozen? ⟨xb, 1, none⟩ = false ∧ wy.frozen? ⟨xb, 2, none⟩ = false) ∧
        RpAt w qb xb V Q PR (P ++ M) (max p q) (((wy.setCell ⟨xb, 0, none⟩ (.string s')).setCell ⟨xb, 1, none⟩ (.int .i64 (n' : Int))).setCell ⟨xb, 2, none⟩ (.int .i64 (d' : Int))) := by
  obtain ⟨h1, h2, h3, h4, h5, h6, h7, h8⟩ := h
  subst hs2 hn2 hd2
  have hl1 : (P ++ M).length ≤ 40000 := by
    obtain ⟨r, hr⟩ := hpre
    rw [hr, List.length_append] at hlen
    omega
  have hok1 : ∀ t ∈ P ++ M, TkOk t := fun t ht => by
    obtain ⟨r, hr⟩ := hpre
    exact hok t (by rw [hr]; exact List.mem_append_left _ ht)
  have hsP := jt_small (P := P) (fun t ht => hok1 t (List.mem_append_left _ ht))
  have hsM := jt_small (P := M) (fun t ht => hok1 t (List.mem_append_right _ ht))
  rw [List.length_append] at hl1
  refine ⟨jt P, jt (P ++ M), P.length, p, (P ++ M).length, max p q, ⟨blk_cell h8 rfl, blk_cell h8 rfl, blk_cell h8 rfl⟩, fun wz => ?_, fun wy hb => ?_⟩
  · have := behind_any (jt P) (jt M) P.length M.length p q (by omega) (by omega) (by omega) (by omega) (by omega) (by omega) wz
    rw [← jt_app h6 hM, ← List.length_append] at this
    exact this
  · have h9 := blk_below h8 hb
    refine ⟨⟨blk_cell h9 rfl, blk_cell h9 rfl, blk_cell h9 rfl, blk_free h9 _, blk_free h9 _, blk_free h9 _⟩, h1, ?_, ?_, h4, by omega, by simp [h6], hpre, (res3 h9 _ _ _).2.2.2⟩
    · exact bset (bset (bset (h2.trans (hb.mono h2.size)) (p := ⟨xb, 0, none⟩) (by exact h1) _) (p := ⟨xb, 1, none⟩) (by exact h1) _) (p := ⟨xb, 2, none⟩) (by exact h1) _
    · have hne : ∀ j, (⟨xb, j, none⟩ : Addr).block ≠ qb := fun j e => h4 e.symm
      exact blk_other (blk_other (blk_other (blk_below h3 hb) (hne 0) _) (hne 1) _) (hne 2) _
end
/-- How long the text of what is not large can be. -/
theorem print_len {Q : Qry} {tw : Nat → Tr} {TT : Nat → Nat → Tr} (h : ShQ Q) (hT : QTrees Q tw TT) (hb : bulk5 Q ≤ 1200) : (printT Q (tw (Q.wn - 1)) fun k => TT k (Q.ln k - 1)).length ≤ 40000 := by
  have h1 := (itemsT_len Q.it Q.n (fun j hj => (itemSh (h.it j hj)).1)).2
  have h2 := (retsT_len (fun k => TT k (Q.ln k - 1)) Q.ln Q.m (fun j hj => by
    obtain ⟨a, b, c⟩ := hT.rt j hj (h.rt j hj)
    have := toks_len (TT j (Q.ln j - 1))
    try dsimp only
    omega)).2
  have h3 : (whereT Q.wn (tw (Q.wn - 1))).length ≤ 8 * Q.wn + 1 := by
    unfold whereT
    split
    · simp
    · rename_i hw
      obtain ⟨a, b, c⟩ := hT.wh (by omega) (h.wh (by omega))
      have := toks_len (tw (Q.wn - 1))
      simp only [List.length_cons]
      omega
  have h4 : (usingT Q.mode).length ≤ 2 := by unfold usingT; split <;> simp
  have h5 : (afterT Q.after).length ≤ 2 := by unfold afterT; split <;> simp
  have h6 : (byT Q.by_).length ≤ 3 := by unfold byT; split <;> simp
  unfold bulk5 at hb
  simp only [printT, headT, List.length_append, List.length_cons, List.length_nil]
  omega
/-- What is large has too many tokens. -/
theorem print_big {Q : Qry} {tw : Nat → Tr} {TT : Nat → Nat → Tr} (h : ShQ Q) (hT : QTrees Q tw TT) (hb : 1200 < bulk5 Q) : 400 < (printT Q (tw (Q.wn - 1)) fun k => TT k (Q.ln k - 1)).length := by
  have h1 := (itemsT_len Q.it Q.n (fun j hj => (itemSh (h.it j hj)).1)).1
  have h2 := (retsT_len (fun k => TT k (Q.ln k - 1)) Q.ln Q.m (fun j hj => by
    obtain ⟨a, b, c⟩ := hT.rt j hj (h.rt j hj)
    have := toks_len (TT j (Q.ln j - 1))
    try dsimp only
    omega)).1
  have h2m : Q.m ≤ sumK Q.ln Q.m := by
    have : ∀ k, k ≤ Q.m → k ≤ sumK Q.ln k := by
      intro k
      induction k with
      | zero => intro _; exact Nat.zero_le _
      | succ k ih =>
        intro hk
        have h3 := ih (by omega)
        obtain ⟨a, _⟩ := hT.rt k (by omega) (h.rt k (by omega))
        rw [sumK_succ]
        omega
    exact this Q.m (Nat.le_refl _)
  have h3 : Q.wn ≤ (whereT Q.wn (tw (Q.wn - 1))).length := by
    unfold whereT
    split
    · omega
    · rename_i hw
      obtain ⟨a, b, c⟩ := hT.wh (by omega) (h.wh (by omega))
      have := toks_len (tw (Q.wn - 1))
      simp only [List.length_cons]
      omega
  unfold bulk5 at hb
  simp only [printT, headT, List.length_append, List.length_cons, List.length_nil]
  omega
/-- The tables that the reference reads. -/
structure TabsR (w : World) : Prop where
  pow : Pow w
  cal : CalV w
  sgr : SgrV w
  kw : ∃ tt fr, w.heap[2]? = some (.cells kwArr tt fr)
theorem TabsR.later {w w' : World} (h : TabsR w) (hb : Below w.heap.size w w') : TabsR w' :=
  ⟨h.pow.later hb, h.cal.later hb, h.sgr.later hb, by obtain ⟨tt, fr, h⟩ := h.kw; exact ⟨tt, fr, blk_below h hb⟩⟩
theorem sumK_at (f : Nat → Nat) {k n : Nat} (h : k < n) : f k ≤ sumK f n := by
  have := sumK_le f (show k + 1 ≤ n from h)
  rw [sumK_succ] at this
  omega
set_option maxRecDepth 100000 in
set_option maxHeartbeats 16000000 in
theorem refPrint_any (V : QryV) (Q : Qry) (tw : Nat → Tr) (TT : Nat → Nat → Tr) (hT : QTrees Q tw TT) (w : World) (h : QryRd w w.heap.size V Q) (hw : QryWf Q) (ht : TabsR w) :
    Calls Tryd.prog 16 #[.agg (qryArr V Q)] w fun e w' => e = .returned (.tuple #[.string (printOf Q tw TT).1, .int .i64 (printOf Q tw TT).2]) ∧ Below w.heap.size w w' := by
  obtain ⟨aI, cI, aW, cW, aR, cR⟩ := V
  have hnI := h.rI.small
  have hnW := h.rW.small
  have hnR := h.rR.small
  have hb0 := bnew (Below.refl w.heap.size w) (.cells #[.slice aI Q.n cI, .int .i64 Q.mode, .int .i64 Q.after, .slice aW Q.wn cW, .int .i64 Q.within, .string Q.by_, .slice aR Q.m cR] 34)
  have Q0 := Lib.hid (blk_new w #[.slice aI Q.n cI, .int .i64 Q.mode, .int .i64 Q.after, .slice aW Q.wn cW, .int .i64 Q.within, .string Q.by_, .slice aR Q.m cR] 34)
  have HQ := Lib.hid h
  have HW := Lib.hid hw
  have HT := Lib.hid hT
  have HTB := Lib.hid ht
  clear h hw hT ht
  show Calls _ _ #[.agg #[.slice aI Q.n cI, .int .i64 Q.mode, .int .i64 Q.after, .slice aW Q.wn cW, .int .i64 Q.within, .string Q.by_, .slice aR Q.m cR]] w _
  obtain ⟨qb, hqb⟩ : ∃ q, w.heap.size = q := ⟨_, rfl⟩
  have hqs : qb < (w.alloc (.cells #[.slice aI Q.n cI, .int .i64 Q.mode, .int .i64 Q.after, .slice aW Q.wn cW, .int .i64 Q.within, .string Q.by_, .slice aR Q.m cR] 34)).heap.size := by rw [← hqb]; simp
  rw [hqb] at Q0
  have HQB := Lib.hid hqb
  go_enter Tryd.func16, Tryd.ntmps16
  go_upto_region 1 with fail
  try rw [hqb]
  clear hqb
  generalize w.alloc _ = w0 at *
  go_wp2_with (refine wpList_load_row rfl 34 _ rfl qb rfl 34 _ (0, 0) _ Q0.out Tryd.underlying34 rfl (by kernel_rfl) ?_)
  have HKW := HTB.out.kw
  obtain ⟨tt, fr, hkw⟩ := HKW
  have HK := Lib.hid hkw
  clear hkw
  have HQ0 := Lib.hid (HQ.out.later hb0)
  have HK0 := Lib.hid (block_below HK.out hb0)
  refine (shaped5_any ⟨aI, cI, aW, cW, aR, cR⟩ Q _ HQ0.out HK0.out).mono ?_
  rintro e w2 ⟨rfl, hb2⟩
  have hb02 := bcall hb0 hb2
  cases hq : shapedB Q
  · have HE := Lib.hid (show printOf Q tw TT = (⟨#[]⟩, 50) from if_neg (by rw [hq]; simp))
    clear hq
    go_wp2_with fail
    go_ret2
    exact ⟨by rw [HE.out]; rfl, hb02⟩
  have HE := Lib.hid (show printOf Q tw TT = textRes (printT Q (tw (Q.wn - 1)) fun k => TT k (Q.ln k - 1)) (printD Q (tw (Q.wn - 1)) fun k => TT k (Q.ln k - 1)) from if_pos hq)
  have HS := Lib.hid (shq hq)
  clear hq
  have Q2 := Lib.hid (blk_below Q0.out hb2)
  have HQ2 := Lib.hid (HQ.out.later hb02)
  go_wp2_with (refine wpList_load_row rfl 34 _ rfl qb rfl 34 _ (0, 0) _ Q2.out Tryd.underlying34 rfl (by kernel_rfl) ?_)
  refine (large_any ⟨aI, cI, aW, cW, aR, cR⟩ Q _ HQ2.out).mono ?_
  rintro e w3 ⟨rfl, hb3⟩
  have hb03 := bcall hb02 hb3
  by_cases hbk : 1200 < bulk5 Q
  · rw [decide_eq_true hbk]
    have HE2 := Lib.hid (show printOf Q tw TT = (⟨#[]⟩, 51) from HE.out.trans (if_pos (print_big HS.out HT.out hbk)))
    go_wp2_with fail
    go_ret2
    exact ⟨by rw [HE2.out]; rfl, hb03⟩
  rw [decide_eq_false hbk]
  have hbulk : bulk5 Q ≤ 1200 := by omega
  have HBK := Lib.hid hbulk
  have hln := print_len HS.out HT.out hbulk
  have hOK := printT_ok HS.out HW.out HT.out
  obtain ⟨t, ht⟩ : ∃ t, tw (Q.wn - 1) = t := ⟨_, rfl⟩
  have HTT := Lib.hid ht
  obtain ⟨TR, hTR⟩ : ∃ TR : Nat → Tr, (fun k => TT k (Q.ln k - 1)) = TR := ⟨_, rfl⟩
  have HTR := Lib.hid hTR
  rw [ht, hTR] at HE hln hOK
  obtain ⟨PR, hPR⟩ : ∃ PR, printT Q t TR = PR := ⟨_, rfl⟩
  have HPR := Lib.hid hPR
  rw [hPR] at HE hln hOK
  have HLEN := Lib.hid hln
  have HOK := Lib.hid hOK
  have HP0 : Hid (Pre (headT Q t ++ retsT TR Q.m) PR) := Lib.hid (by rw [← hPR]; exact Pre.refl _)
  have HPK : Hid (∀ k, k ≤ Q.m → Pre (headT Q t ++ retsT TR k) PR) := Lib.hid (fun k hk => by
    obtain ⟨r, q, hr, _⟩ := retsT_split TR hk
    have := HP0.out
    rw [hr, ← List.append_assoc] at this
    exact this.left)
  have HPH : Hid (Pre (headT Q t) PR) := Lib.hid HP0.out.left
  have HPF : Hid (Pre (hdF Q t) PR) := Lib.hid (Pre.left (M := byT Q.by_) HPH.out)
  have HPE : Hid (Pre (hdE Q t) PR) := Lib.hid (Pre.left (M := [mkT 37, nuT Q.within]) HPF.out)
  have HPD : Hid (Pre (hdD Q) PR) := Lib.hid (Pre.left (M := whereT Q.wn t) HPE.out)
  have HPC : Hid (Pre (hdC Q) PR) := Lib.hid (Pre.left (M := afterT Q.after) HPD.out)
  have HPB : Hid (Pre (hdB Q) PR) := Lib.hid (Pre.left (M := usingT Q.mode) HPC.out)
  have HPA : Hid (∀ k, k ≤ Q.n → Pre (hdA Q k) PR) := Lib.hid (fun k hk => by
    have h1 : Pre (hdA Q Q.n) PR := Pre.left (M := [mkT 4]) HPB.out
    rcases Nat.eq_zero_or_pos k with hk0 | hk0
    · subst hk0
      have : hdA Q Q.n = hdA Q 0 ++ itemsT Q.it Q.n := by simp [hdA, itemsT]
      rw [this] at h1
      exact h1.left
    · by_cases e : k = Q.n
      · rw [e]; exact h1
      · obtain ⟨r, hr⟩ := itemsT_split Q.it hk0 (show k < Q.n by omega)
        have : hdA Q Q.n = hdA Q k ++ r := by unfold hdA; rw [hr, List.append_assoc]
        rw [this] at h1
        exact h1.left)
  clear ht hTR hPR hln hOK hbk hbulk
  have hb4 := bnew (Below.refl w3.heap.size w3) (.cells #[.string ⟨#[80, 65, 84, 84, 69, 82, 78, 32, 83, 69, 81, 32, 40]⟩, .int .i64 3, .int .i64 0] 57)
  have A0 := Lib.hid (show RpAt w qb w3.heap.size ⟨aI, cI, aW, cW, aR, cR⟩ Q PR (hdA Q 0) 0 (w3.alloc (.cells #[.string ⟨#[80, 65, 84, 84, 69, 82, 78, 32, 83, 69, 81, 32, 40]⟩, .int .i64 3, .int .i64 0] 57)) from
    ⟨hb03.size, bcall hb03 hb4, blk_below (blk_below Q2.out hb3) hb4, by have := hb2.size; have := hb3.size; omega, by omega, by simp [hdA], HPA.out 0 (Nat.zero_le _), blk_new _ _ _⟩)
  obtain ⟨xb, hxb⟩ : ∃ R, w3.heap.size = R := ⟨_, rfl⟩
  rw [hxb] at A0
  have hqx : qb ≠ xb := by have := hb2.size; have := hb3.size; omega
  have hwx : w.heap.size ≤ xb := by rw [← hxb]; exact hb03.size
  clear hb4 hb3 hb2 Q2 HQ2 Q0 HQ0 HK0 hb0 hb02 hb03
  go_upto_block 0 with fail
  try rw [hxb]
  clear hxb hqs
  generalize w3.alloc _ = wa at *
  go_cut [] from 5 to 32 (fun wx => Hid (RpAt w qb xb ⟨aI, cI, aW, cW, aR, cR⟩ Q PR (hdA Q Q.n) 0 wx))
  case first =>
    go_wp2_with fail
    go_loopw [5] (fun i wr => ∃ k : Nat, k ≤ Q.n ∧ i = .int .i64 k ∧ Hid (RpAt w qb xb ⟨aI, cI, aW, cW, aR, cR⟩ Q PR (hdA Q k) 0 wr)) (fun i _ => Q.n - (intOf i).toNat)
    case atStart => exact ⟨0, Nat.zero_le _, rfl, A0⟩
    case round =>
      clear A0
      obtain ⟨k, hk, rfl, HA⟩ := hrel
      obtain ⟨W1, e1⟩ : ∃ W1 : World, W1 = wr := ⟨_, rfl⟩
      subst e1
      have z0 : W1.cell? ⟨qb, 0, none⟩ = some (.slice aI Q.n cI) := HA.out.at (j := 0) rfl
      by_cases hlt : k < Q.n
      · have HEQ := Lib.hid (show hdA Q (k + 1) = hdA Q k ++ (if k = 0 then [] else [mkT 7]) ++ itemT (Q.it k) by
          rcases Nat.eq_zero_or_pos k with hk0 | hk0
          · rw [if_pos hk0, hk0]; simp [hdA, itemsT]
          · rw [if_neg (show ¬ k = 0 by omega)]
            unfold hdA
            rw [itemsT_succ Q.it k hk0]
            simp)
        have HPN := Lib.hid (HPA.out (k + 1) (by omega))
        go_upto_if 21 with fail
        go_cut [] from 18 to 32 (fun wx => Hid (RpAt w qb xb ⟨aI, cI, aW, cW, aR, cR⟩ Q PR (hdA Q k ++ if k = 0 then [] else [mkT 7]) 0 wx))
        case first =>
          clear z0
          by_cases hk0 : 0 < k
          rotate_left
          · have HK0 := Lib.hid hk0
            go_wp2_with fail
            go_meet
            exact Lib.hid (HA.out.same (by rw [if_pos (show k = 0 by have := HK0.out; omega), List.append_nil]) rfl)
          · have HPX : Hid (Pre (hdA Q k ++ [mkT 7]) PR) := Lib.hid (by
              have h1 := HPN.out
              rw [HEQ.out, if_neg (show ¬ k = 0 by omega)] at h1
              exact h1.left)
            obtain ⟨s, s', n, d, n', d', ⟨x0, x1, x2⟩, hcall, hfin⟩ := HA.out.step HOK.out HLEN.out (M := [mkT 7]) (q := 0) (s2 := ⟨#[44]⟩) (n2 := 1) (d2 := 0) (by simp) (rfl) (rfl) rfl (HPX.out) (by omega)
            have HC := Lib.hid hcall
            have HF := Lib.hid hfin
            clear hcall hfin
            go_wp2_with fail
            refine (HC.out _).mono ?_
            rintro e wy ⟨rfl, hby⟩
            obtain ⟨⟨y0, y1, y2, f0, f1, f2⟩, hA⟩ := HF.out wy hby
            have AA := Lib.hid hA
            clear hA HC HF x0 x1 x2 HA
            go_wp2_with fail
            go_meet
            exact Lib.hid (AA.out.same (by rw [if_neg (show ¬ k = 0 by omega)]) rfl)
        case rest =>
        clear z0 HA
        have A3 := hcut
        clear hcut
        obtain ⟨wb, ewb⟩ : ∃ W1 : World, W1 = wc := ⟨_, rfl⟩
        subst ewb
        have z0 : wb.cell? ⟨qb, 0, none⟩ = some (.slice aI Q.n cI) := A3.out.at (j := 0) rfl
        obtain ⟨b, off, eI, hbl, hcs⟩ := HQ.out.rI.spot (by omega)
        have eJ : aI = some ⟨b, off, none⟩ := eI
        rw [eJ] at z0
        clear eI eJ
        have hbx : b ≠ xb := by omega
        obtain ⟨g0, ⟨ta, tc, g1, _, _, hty⟩, g2, g3, g4⟩ := hcs k hlt
        have hbw := A3.out.below
        have k0 := (hbw.cell (p := ⟨b, off + k * 5, none⟩) hbl).trans g0
        have k1 := (hbw.cell (p := ⟨b, off + k * 5 + 1, none⟩) hbl).trans g1
        have k2 := (hbw.cell (p := ⟨b, off + k * 5 + 2, none⟩) hbl).trans g2
        have k3 := (hbw.cell (p := ⟨b, off + k * 5 + 3, none⟩) hbl).trans g3
        have k4 := (hbw.cell (p := ⟨b, off + k * 5 + 4, none⟩) hbl).trans g4
        have HSH := Lib.hid (HS.out.it k hlt)
        have HWF := Lib.hid (HW.out.it k hlt)
        have htn2 : (Q.it k).tn ≤ 2000 := by
          have h1 := sumK_at (fun j => (Q.it j).tn) hlt
          have h2 := HBK.out
          unfold bulk5 at h2
          try dsimp only at h1
          omega
        obtain ⟨x, hx⟩ : ∃ x, Q.it k = x := ⟨_, rfl⟩
        rw [hx] at k0 k1 k2 k3 k4 hty HSH HWF HEQ htn2
        obtain ⟨ng, tn, ty, vr, lo, hi⟩ := x
        have HTY := Lib.hid hty
        try dsimp only at k0 k1 k2 k3 k4 htn2
        clear hcs hx hty g0 g1 g2 g3 g4
        have HNEI := Lib.hid (show itemT ⟨ng, tn, ty, vr, lo, hi⟩ ≠ [] from fun e => by
          have := (itemT_len ⟨ng, tn, ty, vr, lo, hi⟩ (itemSh HSH.out).1).1
          rw [e] at this
          simp at this)
        obtain ⟨s2, hs2⟩ : ∃ s, s = jt (itemT ⟨ng, tn, ty, vr, lo, hi⟩) := ⟨_, rfl⟩
        obtain ⟨n2, hn2⟩ : ∃ s : Int, s = (((itemT ⟨ng, tn, ty, vr, lo, hi⟩).length : Nat) : Int) := ⟨_, rfl⟩
        have HS2 := Lib.hid hs2
        have HN2 := Lib.hid hn2
        have HIT : Hid (∀ w' : World, Below w.heap.size w w' → Calls Tryd.prog 35 #[.agg #[.bool ng, .slice ta tn tc, .string vr, .int .i64 lo, .int .i64 hi]] w' fun e w'' => e = .returned (.agg #[.string s2, .int .i64 n2, .int .i64 0]) ∧ Below w'.heap.size w' w'') := Lib.hid (fun w' hb' => by
          rw [hs2, hn2]
          exact refItem_any ng tn ty vr lo hi ta tc w' (RowRd.later HTY.out hb') HSH.out HWF.out htn2 (HTB.out.pow.later hb'))
        clear hs2 hn2
        obtain ⟨s, s', n, d, n', d', ⟨x0, x1, x2⟩, hcall, hfin⟩ := A3.out.step HOK.out HLEN.out (M := (itemT ⟨ng, tn, ty, vr, lo, hi⟩)) (q := 0) (s2 := s2) (n2 := n2) (d2 := 0) HNEI.out HS2.out (HN2.out) rfl (by rw [← HEQ.out]; exact HPN.out) (by omega)
        have HC := Lib.hid hcall
        have HF := Lib.hid hfin
        clear hcall hfin
        go_upto_region 11 with fail
        go_region_with (first
          | (go_at_call 35; have hbd := (Below.refl wb.heap.size wb).drew; refine (HIT.out _ (hbw.trans (hbd.mono hbw.size))).mono ?_; rintro e wz ⟨rfl, hbz⟩; have hbr := bcall hbd hbz; obtain ⟨⟨v0, v1, v2, _, _, _⟩, _⟩ := HF.out wz hbr)
          | (go_at_call 34; refine (HC.out _).mono ?_; rintro e wy ⟨rfl, hbz⟩; have hbr := bcall hbr hbz; obtain ⟨⟨y0, y1, y2, f0, f1, f2⟩, hA⟩ := HF.out wy hbr; have AA := Lib.hid hA; clear hA))
        all_goals
          have HAN := Lib.hid (AA.out.same HEQ.out.symm rfl)
          go_wp2_with fail
          go_roundw
          case rel => exact ⟨k + 1, by omega, by go_num, HAN⟩
          case measure => simp [intOf]; omega
      · have HKN := Lib.hid (show k = Q.n by omega)
        go_wp2_with fail
        go_meet
        exact Lib.hid (by rw [← HKN.out]; exact HA.out)
  case rest =>
  clear A0
  have A1 := hcut
  clear hcut
  obtain ⟨wb, ewb⟩ : ∃ W1 : World, W1 = wc := ⟨_, rfl⟩
  subst ewb
  obtain ⟨s, s', n, d, n', d', ⟨x0, x1, x2⟩, hcall, hfin⟩ := A1.out.step HOK.out HLEN.out (M := [mkT 4]) (q := 0) (s2 := ⟨#[41]⟩) (n2 := 1) (d2 := 0) (by simp) (rfl) (rfl) rfl (HPB.out) (by omega)
  have HC := Lib.hid hcall
  have HF := Lib.hid hfin
  clear hcall hfin
  go_wp2_with fail
  refine (HC.out _).mono ?_
  rintro e wy ⟨rfl, hby⟩
  obtain ⟨⟨y0, y1, y2, f0, f1, f2⟩, hA⟩ := HF.out wy hby
  have A2 := Lib.hid hA
  clear hA HC HF x0 x1 x2 A1
  go_upto_region 13 with fail
  generalize World.setCell (World.setCell (World.setCell wy _ _) _ _) _ _ = wd at *
  clear y0 y1 y2 f0 f1 f2 hby
  have A3 := Lib.hid (show RpAt w qb xb ⟨aI, cI, aW, cW, aR, cR⟩ Q PR (hdB Q) 0 wd from A2.out)
  clear A2
  have z1 : wd.cell? ⟨qb, 1, none⟩ = some (.int .i64 Q.mode) := A3.out.at (j := 1) rfl
  have hm0 := HS.out.m0
  have hm2 := HS.out.m2
  go_upto_block 2 with fail
  go_cut [] from 38 to 47 (fun wx => Hid (RpAt w qb xb ⟨aI, cI, aW, cW, aR, cR⟩ Q PR (hdC Q) 0 wx))
  case first =>
    clear z1
    have hms : Q.mode = 0 ∨ Q.mode = 1 ∨ Q.mode = 2 := by omega
    rcases hms with hm | hm | hm
    · have hz1 : (Q.mode == 1) = false := by rw [hm]; rfl
      have hz2 : (Q.mode == 2) = false := by rw [hm]; rfl
      have HM := Lib.hid hm
      clear hm
      go_wp2_with fail
      go_meet
      exact Lib.hid (A3.out.same (by unfold hdC usingT; rw [if_pos HM.out, List.append_nil]) rfl)
    · have hz1 : (Q.mode == 1) = true := by rw [hm]; rfl
      have HM := Lib.hid hm
      clear hm
      have HPX : Hid (Pre (hdB Q ++ [mkT 32, mkT 34]) PR) := Lib.hid (by
        have h1 := HPC.out
        unfold hdC usingT at h1
        rw [if_neg (by rw [HM.out]; decide), HM.out] at h1
        exact h1)
      obtain ⟨s, s', n, d, n', d', ⟨x0, x1, x2⟩, hcall, hfin⟩ := A3.out.step HOK.out HLEN.out (M := [mkT 32, mkT 34]) (q := 0) (s2 := ⟨#[85, 83, 73, 78, 71, 32, 78, 69, 88, 84]⟩) (n2 := 2) (d2 := 0) (by simp) (rfl) (rfl) rfl (HPX.out) (by omega)
      have HC := Lib.hid hcall
      have HF := Lib.hid hfin
      clear hcall hfin
      go_wp2_with fail
      refine (HC.out _).mono ?_
      rintro e wy ⟨rfl, hby⟩
      obtain ⟨⟨y0, y1, y2, f0, f1, f2⟩, hA⟩ := HF.out wy hby
      have AA := Lib.hid hA
      clear hA HC HF x0 x1 x2 A3
      go_wp2_with fail
      go_meet
      exact Lib.hid (AA.out.same (by unfold hdC usingT; rw [if_neg (by rw [HM.out]; decide), HM.out]; rfl) rfl)
    · have hz1 : (Q.mode == 1) = false := by rw [hm]; rfl
      have hz2 : (Q.mode == 2) = true := by rw [hm]; rfl
      have HM := Lib.hid hm
      clear hm
      have HPX : Hid (Pre (hdB Q ++ [mkT 32, mkT 35]) PR) := Lib.hid (by
        have h1 := HPC.out
        unfold hdC usingT at h1
        rw [if_neg (by rw [HM.out]; decide), HM.out] at h1
        exact h1)
      obtain ⟨s, s', n, d, n', d', ⟨x0, x1, x2⟩, hcall, hfin⟩ := A3.out.step HOK.out HLEN.out (M := [mkT 32, mkT 35]) (q := 0) (s2 := ⟨#[85, 83, 73, 78, 71, 32, 83, 84, 82, 73, 67, 84]⟩) (n2 := 2) (d2 := 0) (by simp) (rfl) (rfl) rfl (HPX.out) (by omega)
      have HC := Lib.hid hcall
      have HF := Lib.hid hfin
      clear hcall hfin
      go_wp2_with fail
      refine (HC.out _).mono ?_
      rintro e wy ⟨rfl, hby⟩
      obtain ⟨⟨y0, y1, y2, f0, f1, f2⟩, hA⟩ := HF.out wy hby
      have AA := Lib.hid hA
      clear hA HC HF x0 x1 x2 A3
      go_wp2_with fail
      go_meet
      exact Lib.hid (AA.out.same (by unfold hdC usingT; rw [if_neg (by rw [HM.out]; decide), HM.out]; rfl) rfl)
  case rest =>
  clear A3 z1 hm0 hm2
  have A3 := hcut
  clear hcut
  obtain ⟨we, ewe⟩ : ∃ W1 : World, W1 = wc := ⟨_, rfl⟩
  subst ewe
  have z2 : we.cell? ⟨qb, 2, none⟩ = some (.int .i64 Q.after) := A3.out.at (j := 2) rfl
  have hm0 := HS.out.a0
  have hm2 := HS.out.a3
  go_upto_block 3 with fail
  go_cut [] from 50 to 64 (fun wx => Hid (RpAt w qb xb ⟨aI, cI, aW, cW, aR, cR⟩ Q PR (hdD Q) 0 wx))
  case first =>
    clear z2
    have hms : Q.after = 0 ∨ Q.after = 1 ∨ Q.after = 2 ∨ Q.after = 3 := by omega
    rcases hms with hm | hm | hm | hm
    · have hz1 : (Q.after == 1) = false := by rw [hm]; rfl
      have hz2 : (Q.after == 2) = false := by rw [hm]; rfl
      have hz3 : (Q.after == 3) = false := by rw [hm]; rfl
      have HM := Lib.hid hm
      clear hm
      go_wp2_with fail
      go_meet
      exact Lib.hid (A3.out.same (by unfold hdD afterT; rw [if_pos HM.out, List.append_nil]) rfl)
    · have hz1 : (Q.after == 1) = true := by rw [hm]; rfl
      have hz2 : (Q.after == 2) = false := by rw [hm]; rfl
      have hz3 : (Q.after == 3) = false := by rw [hm]; rfl
      have HM := Lib.hid hm
      clear hm
      have HPX : Hid (Pre (hdC Q ++ [mkT 53, mkT 34]) PR) := Lib.hid (by
        have h1 := HPD.out
        unfold hdD afterT at h1
        rw [if_neg (by rw [HM.out]; decide), HM.out] at h1
        exact h1)
      obtain ⟨s, s', n, d, n', d', ⟨x0, x1, x2⟩, hcall, hfin⟩ := A3.out.step HOK.out HLEN.out (M := [mkT 53, mkT 34]) (q := 0) (s2 := ⟨#[65, 70, 84, 69, 82, 32, 78, 69, 88, 84]⟩) (n2 := 2) (d2 := 0) (by simp) (rfl) (rfl) rfl (HPX.out) (by omega)
      have HC := Lib.hid hcall
      have HF := Lib.hid hfin
      clear hcall hfin
      go_wp2_with fail
      refine (HC.out _).mono ?_
      rintro e wy ⟨rfl, hby⟩
      obtain ⟨⟨y0, y1, y2, f0, f1, f2⟩, hA⟩ := HF.out wy hby
      have AA := Lib.hid hA
      clear hA HC HF x0 x1 x2 A3
      go_wp2_with fail
      go_meet
      exact Lib.hid (AA.out.same (by unfold hdD afterT; rw [if_neg (by rw [HM.out]; decide), HM.out]; rfl) rfl)
    · have hz1 : (Q.after == 1) = false := by rw [hm]; rfl
      have hz2 : (Q.after == 2) = true := by rw [hm]; rfl
      have hz3 : (Q.after == 3) = false := by rw [hm]; rfl
      have HM := Lib.hid hm
      clear hm
      have HPX : Hid (Pre (hdC Q ++ [mkT 53, mkT 55]) PR) := Lib.hid (by
        have h1 := HPD.out
        unfold hdD afterT at h1
        rw [if_neg (by rw [HM.out]; decide), HM.out] at h1
        exact h1)
      obtain ⟨s, s', n, d, n', d', ⟨x0, x1, x2⟩, hcall, hfin⟩ := A3.out.step HOK.out HLEN.out (M := [mkT 53, mkT 55]) (q := 0) (s2 := ⟨#[65, 70, 84, 69, 82, 32, 80, 65, 83, 84]⟩) (n2 := 2) (d2 := 0) (by simp) (rfl) (rfl) rfl (HPX.out) (by omega)
      have HC := Lib.hid hcall
      have HF := Lib.hid hfin
      clear hcall hfin
      go_wp2_with fail
      refine (HC.out _).mono ?_
      rintro e wy ⟨rfl, hby⟩
      obtain ⟨⟨y0, y1, y2, f0, f1, f2⟩, hA⟩ := HF.out wy hby
      have AA := Lib.hid hA
      clear hA HC HF x0 x1 x2 A3
      go_wp2_with fail
      go_meet
      exact Lib.hid (AA.out.same (by unfold hdD afterT; rw [if_neg (by rw [HM.out]; decide), HM.out]; rfl) rfl)
    · have hz1 : (Q.after == 1) = false := by rw [hm]; rfl
      have hz2 : (Q.after == 2) = false := by rw [hm]; rfl
      have hz3 : (Q.after == 3) = true := by rw [hm]; rfl
      have HM := Lib.hid hm
      clear hm
      have HPX : Hid (Pre (hdC Q ++ [mkT 53, mkT 56]) PR) := Lib.hid (by
        have h1 := HPD.out
        unfold hdD afterT at h1
        rw [if_neg (by rw [HM.out]; decide), HM.out] at h1
        exact h1)
      obtain ⟨s, s', n, d, n', d', ⟨x0, x1, x2⟩, hcall, hfin⟩ := A3.out.step HOK.out HLEN.out (M := [mkT 53, mkT 56]) (q := 0) (s2 := ⟨#[65, 70, 84, 69, 82, 32, 79, 78, 67, 69]⟩) (n2 := 2) (d2 := 0) (by simp) (rfl) (rfl) rfl (HPX.out) (by omega)
      have HC := Lib.hid hcall
      have HF := Lib.hid hfin
      clear hcall hfin
      go_wp2_with fail
      refine (HC.out _).mono ?_
      rintro e wy ⟨rfl, hby⟩
      obtain ⟨⟨y0, y1, y2, f0, f1, f2⟩, hA⟩ := HF.out wy hby
      have AA := Lib.hid hA
      clear hA HC HF x0 x1 x2 A3
      go_wp2_with fail
      go_meet
      exact Lib.hid (AA.out.same (by unfold hdD afterT; rw [if_neg (by rw [HM.out]; decide), HM.out]; rfl) rfl)
  case rest =>
  clear A3 z2 hm0 hm2
  have A3 := hcut
  clear hcut
  obtain ⟨wf, ewf⟩ : ∃ W1 : World, W1 = wc := ⟨_, rfl⟩
  subst ewf
  have z3 : wf.cell? ⟨qb, 3, none⟩ = some (.slice aW Q.wn cW) := A3.out.at (j := 3) rfl
  go_upto_if 68 with fail
  go_cut [] from 50 to 76 (fun wx => Hid (RpAt w qb xb ⟨aI, cI, aW, cW, aR, cR⟩ Q PR (hdE Q t) (whereD Q.wn t) wx))
  case first =>
    by_cases hw0 : 0 < Q.wn
    rotate_left
    · have HW0 := Lib.hid (show Q.wn = 0 by omega)
      go_wp2_with fail
      go_meet
      exact Lib.hid (A3.out.same (by unfold hdE whereT; rw [if_pos HW0.out, List.append_nil]) (by unfold whereD; rw [if_pos HW0.out]))
    · clear z3
      have HPX : Hid (Pre (hdD Q ++ [mkT 36] ++ t.toks) PR) := Lib.hid (by
        have h1 := HPE.out
        unfold hdE whereT at h1
        rw [if_neg (show ¬ Q.wn = 0 by omega)] at h1
        rw [List.append_assoc]
        exact h1)
      obtain ⟨s, s', n, d, n', d', ⟨x0, x1, x2⟩, hcall, hfin⟩ := A3.out.step HOK.out HLEN.out (M := [mkT 36]) (q := 0) (s2 := ⟨#[87, 72, 69, 82, 69]⟩) (n2 := 1) (d2 := 0) (by simp) (rfl) (rfl) rfl (HPX.out.left) (by omega)
      have HC := Lib.hid hcall
      have HF := Lib.hid hfin
      clear hcall hfin
      go_wp2_with fail
      refine (HC.out _).mono ?_
      rintro e wy ⟨rfl, hby⟩
      obtain ⟨⟨y0, y1, y2, f0, f1, f2⟩, hA⟩ := HF.out wy hby
      have AA := Lib.hid hA
      clear hA HC HF x0 x1 x2 A3
      go_upto_region 27 with fail
      generalize World.setCell (World.setCell (World.setCell wy _ _) _ _) _ _ = wg at *
      clear y0 y1 y2 f0 f1 f2 hby
      have z3 : wg.cell? ⟨qb, 3, none⟩ = some (.slice aW Q.wn cW) := AA.out.at (j := 3) rfl
      have hbw := AA.out.below
      obtain ⟨hn0, ht1, ht2⟩ := HT.out.wh hw0 (HS.out.wh hw0)
      have hwn2 : Q.wn ≤ 1200 := by have h2 := HBK.out; unfold bulk5 at h2; omega
      rw [HTT.out] at ht2
      have hdp : t.dp ≤ 2400 := by have := dp_len t; omega
      obtain ⟨s2, hs2⟩ : ∃ s, s = jt t.toks := ⟨_, rfl⟩
      obtain ⟨n2, hn2⟩ : ∃ s : Int, s = ((t.toks.length : Nat) : Int) := ⟨_, rfl⟩
      obtain ⟨d2, hd2⟩ : ∃ s : Int, s = ((t.dp : Nat) : Int) := ⟨_, rfl⟩
      have HS2 := Lib.hid hs2
      have HN2 := Lib.hid hn2
      have HD2 := Lib.hid hd2
      have HWH : Hid (∀ w' : World, Below w.heap.size w w' → Calls Tryd.prog 23 #[.slice aW Q.wn cW] w' fun e w'' => e = .returned (.agg #[.string s2, .int .i64 n2, .int .i64 d2]) ∧ Below w'.heap.size w' w'') := Lib.hid (fun w' hb' => by
        have := whole_any aW Q.wn cW Q.wh tw ht1 HW.out.wh hn0 (by omega) w' (HQ.out.rW.later hb') (HTB.out.pow.later hb') (HTB.out.cal.later hb') (HTB.out.sgr.later hb')
        rw [HTT.out] at this
        rw [hs2, hn2, hd2]
        exact this)
      clear hs2 hn2 hd2 ht1 ht2 hn0
      obtain ⟨s, s', n, d, n', d', ⟨x0, x1, x2⟩, hcall, hfin⟩ := AA.out.step HOK.out HLEN.out (M := t.toks) (q := t.dp) (s2 := s2) (n2 := n2) (d2 := d2) (toks_ne t) HS2.out HN2.out HD2.out (HPX.out) hdp
      have HC := Lib.hid hcall
      have HF := Lib.hid hfin
      clear hcall hfin
      go_upto_region 27 with fail
      go_region_with (first
        | (go_at_call 23; have hbd := (Below.refl wg.heap.size wg).drew; refine (HWH.out _ (hbw.trans (hbd.mono hbw.size))).mono ?_; rintro e wz ⟨rfl, hbz⟩; have hbr := bcall hbd hbz; obtain ⟨⟨v0, v1, v2, _, _, _⟩, _⟩ := HF.out wz hbr)
        | (go_at_call 34; refine (HC.out _).mono ?_; rintro e wy ⟨rfl, hbz⟩; have hbr := bcall hbr hbz; obtain ⟨⟨y0, y1, y2, f0, f1, f2⟩, hA⟩ := HF.out wy hbr; have AB := Lib.hid hA; clear hA))
      all_goals
        go_wp2_with fail
        go_meet
        exact Lib.hid (AB.out.same (by unfold hdE whereT; rw [if_neg (show ¬ Q.wn = 0 by omega)]; simp) (by unfold whereD; rw [if_neg (show ¬ Q.wn = 0 by omega)]; exact Nat.zero_max _))
  case rest =>
  clear A3 z3
  have A3 := hcut
  clear hcut
  obtain ⟨wh, ewh⟩ : ∃ W1 : World, W1 = wc := ⟨_, rfl⟩
  subst ewh
  have z4 : wh.cell? ⟨qb, 4, none⟩ = some (.int .i64 Q.within) := A3.out.at (j := 4) rfl
  have hbw := A3.out.below
  have hn21 : (numS Q.within).size ≤ 21 := (tkOk_num HW.out.within).2.2
  have HFI : Hid (∀ w' : World, Below w.heap.size w w' → Calls Tryd.prog 36 #[.int .i64 Q.within, .int .i64 10] w' fun e w'' => e = .returned (.string (numS Q.within)) ∧ Below w'.heap.size w' w'') := Lib.hid (fun w' hb' => fmtInt_any Q.within HW.out.within.1 HW.out.within.2 w' (HTB.out.pow.later hb'))
  go_upto_region 28 with fail
  go_cut [] from 77 to 83 (fun wx => Hid (RpAt w qb xb ⟨aI, cI, aW, cW, aR, cR⟩ Q PR (hdF Q t) (whereD Q.wn t) wx))
  case first =>
    obtain ⟨s, s', n, d, n', d', ⟨x0, x1, x2⟩, hcall, hfin⟩ := A3.out.step HOK.out HLEN.out (M := [mkT 37, nuT Q.within]) (q := 0) (s2 := ⟨#[87, 73, 84, 72, 73, 78, 32]⟩ ++ numS Q.within) (n2 := 2) (d2 := 0) (by simp) (by exact bext (by rw [app_list]; rfl)) (rfl) rfl (HPF.out) (by omega)
    have HC := Lib.hid hcall
    have HF := Lib.hid hfin
    clear hcall hfin
    go_upto_region 28 with fail
    go_region_with (first
      | (go_at_call 36; have hbd := (Below.refl wh.heap.size wh).drew; refine (HFI.out _ (hbw.trans (hbd.mono hbw.size))).mono ?_; rintro e wz ⟨rfl, hbz⟩; have hbr := bcall hbd hbz; obtain ⟨⟨v0, v1, v2, _, _, _⟩, _⟩ := HF.out wz hbr)
      | (go_at_call 34; refine (HC.out _).mono ?_; rintro e wy ⟨rfl, hbz⟩; have hbr := bcall hbr hbz; obtain ⟨⟨y0, y1, y2, f0, f1, f2⟩, hA⟩ := HF.out wy hbr; have AB := Lib.hid hA; clear hA))
    all_goals
      go_wp2_with fail
      go_meet
      exact Lib.hid (AB.out.same rfl (Nat.max_zero _))
  case rest =>
  clear A3 z4 hbw
  have A3 := hcut
  clear hcut
  obtain ⟨wi, ewi⟩ : ∃ W1 : World, W1 = wc := ⟨_, rfl⟩
  subst ewi
  have z5 : wi.cell? ⟨qb, 5, none⟩ = some (.string Q.by_) := A3.out.at (j := 5) rfl
  go_upto_if 86 with fail
  go_cut [] from 84 to 92 (fun wx => Hid (RpAt w qb xb ⟨aI, cI, aW, cW, aR, cR⟩ Q PR (headT Q t) (whereD Q.wn t) wx))
  case first =>
    cases hby : Q.by_.toList.isEmpty
    · have HBY := Lib.hid hby
      have hb16 := name16 (HS.out.by_ hby)
      have HPX : Hid (Pre (hdF Q t ++ [mkT 38, mkT 39, nmT Q.by_]) PR) := Lib.hid (by
        have h1 := HPH.out
        rw [headT_eq] at h1
        unfold byT at h1
        rw [if_neg (by rw [HBY.out]; decide)] at h1
        exact h1)
      obtain ⟨s, s', n, d, n', d', ⟨x0, x1, x2⟩, hcall, hfin⟩ := A3.out.step HOK.out HLEN.out (M := [mkT 38, mkT 39, nmT Q.by_]) (q := 0) (s2 := ⟨#[80, 65, 82, 84, 73, 84, 73, 79, 78, 32, 66, 89, 32]⟩ ++ Q.by_) (n2 := 3) (d2 := 0) (by simp) (by exact bext (by rw [app_list]; rfl)) (rfl) rfl (HPX.out) (by omega)
      have HC := Lib.hid hcall
      have HF := Lib.hid hfin
      clear hcall hfin
      go_wp2_with fail
      refine (HC.out _).mono ?_
      rintro e wy ⟨rfl, hby⟩
      obtain ⟨⟨y0, y1, y2, f0, f1, f2⟩, hA⟩ := HF.out wy hby
      have AA := Lib.hid hA
      clear hA HC HF x0 x1 x2 A3
      go_wp2_with fail
      go_meet
      exact Lib.hid (AA.out.same (by rw [headT_eq]; unfold byT; rw [if_neg (by rw [HBY.out]; decide)]) (Nat.max_zero _))
    · have HBY := Lib.hid hby
      go_wp2_with fail
      go_meet
      exact Lib.hid (A3.out.same (by rw [headT_eq]; unfold byT; rw [if_pos HBY.out, List.append_nil]) rfl)
  case rest =>
  clear A3 z5
  have A3 := hcut
  clear hcut
  obtain ⟨wj, ewj⟩ : ∃ W1 : World, W1 = wc := ⟨_, rfl⟩
  subst ewj
  go_wp2_with fail
  go_loopw [6] (fun i wr => ∃ k : Nat, k ≤ Q.m ∧ i = .int .i64 k ∧ Hid (RpAt w qb xb ⟨aI, cI, aW, cW, aR, cR⟩ Q PR (headT Q t ++ retsT TR k) (max (whereD Q.wn t) (retsD TR k)) wr)) (fun i _ => Q.m - (intOf i).toNat)
  case atStart => exact ⟨0, Nat.zero_le _, rfl, Lib.hid (A3.out.same (by simp [retsT]) (by simp [retsD]))⟩
  case round =>
    clear A3
    obtain ⟨k, hk, rfl, HA⟩ := hrel
    obtain ⟨W1, e1⟩ : ∃ W1 : World, W1 = wr := ⟨_, rfl⟩
    subst e1
    have z6 : W1.cell? ⟨qb, 6, none⟩ = some (.slice aR Q.m cR) := HA.out.at (j := 6) rfl
    by_cases hlt : k < Q.m
    · have HPN : Hid (Pre (headT Q t ++ retsT TR k ++ [mkT (if k = 0 then 40 else 7)] ++ (TR k).toks) PR) := Lib.hid (by
        have := HPK.out (k + 1) (by omega)
        rw [retsT] at this
        simpa using this)
      go_upto_if 101 with fail
      go_cut [] from 100 to 115 (fun wx => Hid (RpAt w qb xb ⟨aI, cI, aW, cW, aR, cR⟩ Q PR (headT Q t ++ retsT TR k ++ [mkT (if k = 0 then 40 else 7)]) (max (whereD Q.wn t) (retsD TR k)) wx))
      case first =>
        clear z6
        by_cases hk0 : k = 0
        · have hz : ((k : Int) == 0) = true := by rw [beq_iff_eq]; omega
          have HPX : Hid (Pre (headT Q t ++ retsT TR k ++ [mkT 40]) PR) := Lib.hid (by
            have := HPN.out.left
            rw [if_pos hk0] at this
            exact this)
          have HK0 := Lib.hid hk0
          clear hk0
          obtain ⟨s, s', n, d, n', d', ⟨x0, x1, x2⟩, hcall, hfin⟩ := HA.out.step HOK.out HLEN.out (M := [mkT 40]) (q := 0) (s2 := ⟨#[82, 69, 84, 85, 82, 78]⟩) (n2 := 1) (d2 := 0) (by simp) (rfl) (rfl) rfl (HPX.out) (by omega)
          have HC := Lib.hid hcall
          have HF := Lib.hid hfin
          clear hcall hfin
          go_wp2_with fail
          refine (HC.out _).mono ?_
          rintro e wy ⟨rfl, hby⟩
          obtain ⟨⟨y0, y1, y2, f0, f1, f2⟩, hA⟩ := HF.out wy hby
          have AA := Lib.hid hA
          clear hA HC HF x0 x1 x2 HA
          go_wp2_with fail
          go_meet
          exact Lib.hid (AA.out.same (by rw [if_pos HK0.out]) (Nat.max_zero _))
        · have hz : ((k : Int) == 0) = false := by rw [beq_eq_false_iff_ne]; omega
          have HPX : Hid (Pre (headT Q t ++ retsT TR k ++ [mkT 7]) PR) := Lib.hid (by
            have := HPN.out.left
            rw [if_neg hk0] at this
            exact this)
          have HK0 := Lib.hid hk0
          clear hk0
          obtain ⟨s, s', n, d, n', d', ⟨x0, x1, x2⟩, hcall, hfin⟩ := HA.out.step HOK.out HLEN.out (M := [mkT 7]) (q := 0) (s2 := ⟨#[44]⟩) (n2 := 1) (d2 := 0) (by simp) (rfl) (rfl) rfl (HPX.out) (by omega)
          have HC := Lib.hid hcall
          have HF := Lib.hid hfin
          clear hcall hfin
          go_wp2_with fail
          refine (HC.out _).mono ?_
          rintro e wy ⟨rfl, hby⟩
          obtain ⟨⟨y0, y1, y2, f0, f1, f2⟩, hA⟩ := HF.out wy hby
          have AA := Lib.hid hA
          clear hA HC HF x0 x1 x2 HA
          go_wp2_with fail
          go_meet
          exact Lib.hid (AA.out.same (by rw [if_neg HK0.out]) (Nat.max_zero _))
      case rest =>
      clear z6 HA
      have A3 := hcut
      clear hcut
      obtain ⟨wb2, ewb2⟩ : ∃ W1 : World, W1 = wc := ⟨_, rfl⟩
      subst ewb2
      have z6 : wb2.cell? ⟨qb, 6, none⟩ = some (.slice aR Q.m cR) := A3.out.at (j := 6) rfl
      obtain ⟨b, off, eI, hbl, hcs⟩ := HQ.out.rR.spot (by omega)
      have eJ : aR = some ⟨b, off, none⟩ := eI
      rw [eJ] at z6
      clear eI eJ
      obtain ⟨ta, tc, g0, _, _, hnd⟩ := hcs k hlt
      have hbw := A3.out.below
      have k0 := (hbw.cell (p := ⟨b, off + k, none⟩) hbl).trans g0
      have HND := Lib.hid hnd
      clear hcs hnd g0
      obtain ⟨hn0, ht1, ht2⟩ := HT.out.rt k hlt (HS.out.rt k hlt)
      have hTK : TT k (Q.ln k - 1) = TR k := by rw [← HTR.out]
      have hwn2 : Q.ln k ≤ 1200 := by have h1 := sumK_at Q.ln hlt; have h2 := HBK.out; unfold bulk5 at h2; omega
      rw [hTK] at ht2
      have hdp : (TR k).dp ≤ 2400 := by have := dp_len (TR k); omega
      obtain ⟨s2, hs2⟩ : ∃ s, s = jt (TR k).toks := ⟨_, rfl⟩
      obtain ⟨n2, hn2⟩ : ∃ s : Int, s = (((TR k).toks.length : Nat) : Int) := ⟨_, rfl⟩
      obtain ⟨d2, hd2⟩ : ∃ s : Int, s = (((TR k).dp : Nat) : Int) := ⟨_, rfl⟩
      have HS2 := Lib.hid hs2
      have HN2 := Lib.hid hn2
      have HD2 := Lib.hid hd2
      have HWH : Hid (∀ w' : World, Below w.heap.size w w' → Calls Tryd.prog 23 #[.slice ta (Q.ln k) tc] w' fun e w'' => e = .returned (.agg #[.string s2, .int .i64 n2, .int .i64 d2]) ∧ Below w'.heap.size w' w'') := Lib.hid (fun w' hb' => by
        have := whole_any ta (Q.ln k) tc (Q.rt k) (TT k) ht1 (HW.out.rt k hlt) hn0 (by omega) w' (HND.out.later hb') (HTB.out.pow.later hb') (HTB.out.cal.later hb') (HTB.out.sgr.later hb')
        rw [hTK] at this
        rw [hs2, hn2, hd2]
        exact this)
      clear hs2 hn2 hd2 ht1 ht2 hn0 hTK
      obtain ⟨s, s', n, d, n', d', ⟨x0, x1, x2⟩, hcall, hfin⟩ := A3.out.step HOK.out HLEN.out (M := (TR k).toks) (q := (TR k).dp) (s2 := s2) (n2 := n2) (d2 := d2) (toks_ne _) HS2.out HN2.out HD2.out (HPN.out) hdp
      have HC := Lib.hid hcall
      have HF := Lib.hid hfin
      clear hcall hfin
      go_upto_region 37 with fail
      go_region_with (first
        | (go_at_call 23; have hbd := (Below.refl wb2.heap.size wb2).drew; refine (HWH.out _ (hbw.trans (hbd.mono hbw.size))).mono ?_; rintro e wz ⟨rfl, hbz⟩; have hbr := bcall hbd hbz; obtain ⟨⟨v0, v1, v2, _, _, _⟩, _⟩ := HF.out wz hbr)
        | (go_at_call 34; refine (HC.out _).mono ?_; rintro e wy ⟨rfl, hbz⟩; have hbr := bcall hbr hbz; obtain ⟨⟨y0, y1, y2, f0, f1, f2⟩, hA⟩ := HF.out wy hbr; have AB := Lib.hid hA; clear hA))
      all_goals
        have HAN := Lib.hid (AB.out.same (P' := headT Q t ++ retsT TR (k + 1)) (p' := max (whereD Q.wn t) (retsD TR (k + 1))) (by rw [retsT]; simp) (by rw [retsD, Nat.max_assoc]))
        go_wp2_with fail
        go_roundw
        case rel => exact ⟨k + 1, by omega, by go_num, HAN⟩
        case measure => simp [intOf]; omega
    · have HKN := Lib.hid (show k = Q.m by omega)
      obtain ⟨_, hbe, _, _, hp2, _, _, hx⟩ := HA.out
      have hbz := hbe
      have hEP : headT Q t ++ retsT TR k = PR := by rw [HKN.out]; exact HPR.out
      have hED : max (whereD Q.wn t) (retsD TR k) = printD Q t TR := by rw [HKN.out]; rfl
      rw [hEP, hED] at hx
      obtain ⟨sP, hsP⟩ : ∃ s, jt PR = s := ⟨_, rfl⟩
      obtain ⟨nP, hnP⟩ : ∃ s, PR.length = s := ⟨_, rfl⟩
      obtain ⟨dP, hdP⟩ : ∃ s, printD Q t TR = s := ⟨_, rfl⟩
      have HEX := Lib.hid (show printOf Q tw TT = (if 400 < nP then (⟨#[]⟩, 51) else if 32 < dP then (⟨#[]⟩, 41) else (sP, 0)) by
        rw [HE.out, ← hsP, ← hnP, ← hdP]
        rfl)
      rw [hsP, hnP, hdP] at hx
      have x0 : W1.cell? ⟨xb, 0, none⟩ = some (.string sP) := blk_cell hx rfl
      have x1 : W1.cell? ⟨xb, 1, none⟩ = some (.int .i64 (nP : Int)) := blk_cell hx rfl
      have x2 : W1.cell? ⟨xb, 2, none⟩ = some (.int .i64 (dP : Int)) := blk_cell hx rfl
      clear hx hEP hED hsP hnP hdP hp2 hbz
      by_cases hq4 : 400 < nP
      · have hqi : (400 : Int) < (nP : Int) := by omega
        have HE2 := Lib.hid (HEX.out.trans (if_pos hq4))
        go_wp2_with fail
        go_ret2
        exact ⟨by rw [HE2.out]; rfl, hbe⟩
      · have hqi : (nP : Int) ≤ 400 := by omega
        by_cases hd3 : 32 < dP
        · have hdi : (32 : Int) < (dP : Int) := by omega
          have HE2 := Lib.hid (HEX.out.trans ((if_neg hq4).trans (if_pos hd3)))
          go_wp2_with fail
          go_ret2
          exact ⟨by rw [HE2.out]; rfl, hbe⟩
        · have hdi : (dP : Int) ≤ 32 := by omega
          have HE2 := Lib.hid (HEX.out.trans ((if_neg hq4).trans (if_neg hd3)))
          go_wp2_with fail
          go_ret2
          exact ⟨by rw [HE2.out]; rfl, hbe⟩
end Go.Proofs.YtfcdkadblagijaaDoor

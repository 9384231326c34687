/-
  The walks of the reference's whole and Expr.
-/
import Derived.Test.YtfcdkadblagijaaDoorTold3
import Derived.Test.YtfcdkadblagijaaDoorRefTree
set_option linter.unusedSimpArgs false
set_option linter.unusedVariables false
namespace Go.Proofs.YtfcdkadblagijaaDoor
open Go.RowKit Go.ChangeShapes Go.WideShapes Go.ChangeAt Go.Deep Go.Joins
theorem infoTold : (Tryd.prog.info? 57).map (fun i => (i.zero, i.size, i.bytes)) = some (some (.agg #[.string .empty, .int .i64 0, .int .i64 0]), 3, 32) := by kernel_rfl
/-- What is told of a tree, cell by cell. -/
def tdCell (t : Tr) : Nat → Value
  | 0 => .string (jt t.toks)
  | 1 => .int .i64 (t.toks.length : Nat)
  | _ => .int .i64 (t.dp : Nat)
theorem tdCell_row (t : Tr) : (List.range 3).map (tdCell t) = [.string (jt t.toks), .int .i64 (t.toks.length : Nat), .int .i64 (t.dp : Nat)] := rfl
theorem toks_ne (t : Tr) : t.toks ≠ [] := by
  have := (toks_len t).2
  cases t <;> simp only [Tr.sz] at this <;> (intro h; rw [h] at this; simp at this; try omega)
theorem told_cells {w : World} {B k g c j : Nat} {e : TypeId} {T : Nat → Tr} (h : w.ownsRow B e 3 (.slice (some ⟨g, 0, none⟩) k c) k (flat (fun j => tdCell (T j)) 3 k)) (hj : j < k) :
    w.cell? ⟨g, j * 3, none⟩ = some (.string (jt (T j).toks)) ∧ w.cell? ⟨g, j * 3 + 1, none⟩ = some (.int .i64 ((T j).toks.length : Nat)) ∧ w.cell? ⟨g, j * 3 + 2, none⟩ = some (.int .i64 ((T j).dp : Nat)) := by
  have hc : ∀ i, i < 3 → w.cell? ⟨g, j * 3 + i, none⟩ = some (tdCell (T j) i) := fun i hi => by
    rw [h.cellAt (j * 3 + i) (by omega)]
    exact flat_at (fun j => tdCell (T j)) hj hi
  exact ⟨hc 0 (by omega), hc 1 (by omega), hc 2 (by omega)⟩
theorem names_small {x : Nod} (hf : fieldsB x = true) (h1 : 1 ≤ x.op) (h2 : x.op ≤ 11) : x.vr.size ≤ 16 ∧ x.at_.size ≤ 16 := by
  simp only [fieldsB, Bool.and_eq_true] at hf
  obtain ⟨⟨_, hv⟩, ha⟩ := hf
  have nm : ∀ {s : ByteArray}, nameB s = true → s.size ≤ 16 := fun {s} h => by
    simp only [nameB, Bool.and_eq_true, decide_eq_true_eq] at h
    exact h.1.1.1.2
  have em : ∀ {s : ByteArray}, s.toList.isEmpty = true → s.size ≤ 16 := fun {s} h => by
    have := List.isEmpty_iff.1 h
    rw [Go.ByteArray.toList_eq] at this
    have h2 := lenB s
    rw [this] at h2
    simp at h2
    omega
  constructor
  · unfold varB at hv
    split at hv
    · exact nm hv
    · exact em hv
  · unfold attB at ha
    split at ha
    · exact nm ha
    · exact em ha
set_option maxRecDepth 100000 in
set_option maxHeartbeats 4000000 in
theorem whole_any (A : Option Addr) (n c : Nat) (f : Nat → Nod) (T : Nat → Tr) (hT : ∀ i, i < n → TrAt f T i ∧ (T i).sz ≤ i + 1) (hw : ∀ i, i < n → NodWf (f i)) (h0 : 0 < n) (hn : n ≤ 2000) (w : World) (h : NodRd w w.heap.size A n f) (hp : Pow w) (hcl : CalV w) (hsg : SgrV w) :
    Calls Tryd.prog 23 #[.slice A n c] w fun e w' => e = .returned (tdV (T (n - 1)).toks (T (n - 1)).dp) ∧ Below w.heap.size w w' := by
  obtain ⟨i0, hi0, hz0, hz1, hz2⟩ := info_parts infoTold
  have HT := Lib.hid h
  have HTR := Lib.hid hT
  have HW := Lib.hid hw
  have PW := Lib.hid hp
  have CL := Lib.hid hcl
  have SG := Lib.hid hsg
  have HOK := Lib.hid (toks_ok (fun i hi => (hT i hi).1) hw)
  have HSZ : Hid (∀ i, i < n → (T i).toks.length ≤ 16000 ∧ (T i).dp ≤ 4000) := Lib.hid (fun i hi => by
    have h1 := (hT i hi).2
    have h2 := toks_len (T i)
    have h3 := dp_len (T i)
    omega)
  have hb0 := bnew (Below.refl w.heap.size w) (.cells #[.string ⟨#[]⟩, .int .i64 0, .int .i64 0] 57)
  have R0 := Lib.hid (blk_new w #[.string ⟨#[]⟩, .int .i64 0, .int .i64 0] 57)
  obtain ⟨b, off, rfl, hbl, hcs⟩ := h.spot h0
  have HCS := Lib.hid (fun (wr : World) (hb : Below w.heap.size w wr) (j : Nat) (hj : j < n) => (⟨(hb.cell (p := ⟨b, off + j * 6, none⟩) hbl).trans (hcs j hj).1, (hb.cell (p := ⟨b, off + j * 6 + 1, none⟩) hbl).trans (hcs j hj).2.1, (hb.cell (p := ⟨b, off + j * 6 + 2, none⟩) hbl).trans (hcs j hj).2.2.1, (hb.cell (p := ⟨b, off + j * 6 + 3, none⟩) hbl).trans (hcs j hj).2.2.2.1, (hb.cell (p := ⟨b, off + j * 6 + 4, none⟩) hbl).trans (hcs j hj).2.2.2.2.1, (hb.cell (p := ⟨b, off + j * 6 + 5, none⟩) hbl).trans (hcs j hj).2.2.2.2.2⟩ : wr.cell? ⟨b, off + j * 6, none⟩ = some (.int .i64 (f j).op) ∧ wr.cell? ⟨b, off + j * 6 + 1, none⟩ = some (.int .i64 (f j).n) ∧ wr.cell? ⟨b, off + j * 6 + 2, none⟩ = some (.string (f j).vr) ∧ wr.cell? ⟨b, off + j * 6 + 3, none⟩ = some (.string (f j).at_) ∧ wr.cell? ⟨b, off + j * 6 + 4, none⟩ = some (.int .i64 (f j).a) ∧ wr.cell? ⟨b, off + j * 6 + 5, none⟩ = some (.int .i64 (f j).b)))
  clear h hT hw hp hcl hsg hcs hbl
  go_enter Tryd.func23, Tryd.ntmps23
  go_upto_region 1 with fail
  have hz : w.heap.size + 1 = (w.alloc (.cells #[.string ⟨#[]⟩, .int .i64 0, .int .i64 0] 57)).heap.size := by simp
  obtain ⟨rb, hrb⟩ : ∃ rb, w.heap.size = rb := ⟨_, rfl⟩
  rw [hrb] at R0 hz
  have HRB := Lib.hid hrb
  rw [hrb]
  clear hrb
  generalize w.alloc _ = w0 at *
  go_wp2_with fail
  go_loopw [3, 4] (fun o i wr => ∃ (k : Nat) (ov : Value), k ≤ n ∧ i = .int .i64 k ∧ ov = o ∧ Below w0.heap.size w0 wr ∧ Hid (wr.ownsRow w0.heap.size 57 3 ov k (flat (fun j => tdCell (T j)) 3 k))) (fun _ i _ => n - (intOf i).toNat)
  case atStart => exact ⟨0, .slice none 0 0, Nat.zero_le _, rfl, rfl, Below.refl _ _, Lib.hid (by rw [flat_zero]; exact World.ownsRow_nil _ _ _ _)⟩
  case round =>
    obtain ⟨k, ov, hk, rfl, rfl, hb, HO⟩ := hrel
    obtain ⟨W1, e1⟩ : ∃ W1 : World, W1 = wr := ⟨_, rfl⟩
    subst e1
    have hbw := bcall hb0 hb
    obtain ⟨oA, oc, rfl, _⟩ := rowown_shape HO.out
    have hle0 := hb.size
    by_cases hlt : k < n
    · obtain ⟨d0, d1, d2, d3, d4, d5⟩ := HCS.out W1 hbw k hlt
      obtain ⟨htr, hsz⟩ := HTR.out k hlt
      have hwf := HW.out k hlt
      obtain ⟨x, hx⟩ : ∃ x, f k = x := ⟨_, rfl⟩
      have hnod := htr.nod
      have hopr := htr.op
      have hff := htr.1
      have HTA := Lib.hid htr
      have hor := htr.2
      rw [hx] at d0 d1 d2 d3 d4 d5 hwf hor hff hopr
      have HX := Lib.hid hx
      clear hx htr hnod
      obtain ⟨op, nn, vr, at_, a, b2⟩ := x
      dsimp only at d0 d1 d2 d3 d4 d5 hor hopr
      rcases hor with ⟨h1, h2, rfl, rfl, eT⟩ | ⟨h1, j, hj, rfl, rfl, eT⟩ | ⟨h1, h2, j, j2, hj, hj2, rfl, rfl, eT⟩
      · obtain ⟨hv16, ha16⟩ := names_small hff h1 h2
        dsimp only at hv16 ha16
        have hnn := hwf.n
        have hb3 := bnew (bnew (bnew (Below.refl W1.heap.size W1) (.cells #[.int .i64 op, .int .i64 nn, .string vr, .string at_, .int .i64 (-1), .int .i64 (-1)] 44)) (.cells #[.string ⟨#[]⟩, .int .i64 0, .int .i64 0] 57)) (.cells #[.string ⟨#[]⟩, .int .i64 0, .int .i64 0] 57)
        have PW3 := Lib.hid (PW.out.later (bcall hbw hb3))
        have CL3 := Lib.hid (CL.out.later (bcall hbw hb3))
        have SG3 := Lib.hid (SG.out.later (bcall hbw hb3))
        have ET := Lib.hid eT
        clear eT
        go_wp2_with fail
        refine (told_leaf op nn (-1) (-1) vr at_ h1 h2 hnn hv16 ha16 ⟨#[]⟩ ⟨#[]⟩ 0 0 1 0 0 1 _ PW3.out CL3.out).mono ?_
        rw [show tdV (leafT ⟨op, nn, vr, at_, -1, -1⟩) 0 = tdV (T k).toks (T k).dp by rw [ET.out]; rfl]
        unfold tdV
        obtain ⟨s, hs⟩ : ∃ s, jt (T k).toks = s := ⟨_, rfl⟩
        obtain ⟨m, hm⟩ : ∃ m, (T k).toks.length = m := ⟨_, rfl⟩
        obtain ⟨dq, hdq⟩ : ∃ m, (T k).dp = m := ⟨_, rfl⟩
        have HROW := Lib.hid (tdCell_row (T k))
        rw [hs, hm, hdq] at HROW
        rw [hs, hm, hdq]
        clear hs hm hdq
        rintro e w2 ⟨rfl, hb2⟩
        have hb23 := bcall hb3 hb2
        have hb4 := bnew hb23 (.cells #[.string s, .int .i64 (m : Int), .int .i64 (dq : Int)] 57)
        have O4 := Lib.hid (rowown_below HO.out hb4)
        clear d0 d1 d2 d3 d4 d5
        go_upto_region 17 with fail
        have y0 : (w2.alloc (.cells #[.string s, .int .i64 (m : Int), .int .i64 (dq : Int)] 57)).cell? ⟨w2.heap.size, 0, none⟩ = some (.string s) := by simp [go_sem]
        have y1 : (w2.alloc (.cells #[.string s, .int .i64 (m : Int), .int .i64 (dq : Int)] 57)).cell? ⟨w2.heap.size, 1, none⟩ = some (.int .i64 (m : Int)) := by simp [go_sem]
        have y2 : (w2.alloc (.cells #[.string s, .int .i64 (m : Int), .int .i64 (dq : Int)] 57)).cell? ⟨w2.heap.size, 2, none⟩ = some (.int .i64 (dq : Int)) := by simp [go_sem]
        have hle4 : w0.heap.size ≤ (w2.alloc (.cells #[.string s, .int .i64 (m : Int), .int .i64 (dq : Int)] 57)).heap.size := Nat.le_trans hle0 hb4.size
        generalize w2.heap.size = xb at *
        generalize w2.alloc _ = w4 at *
        have hbw4 := bcall hb hb4
        have hml : k + 1 ≤ maxLen := by unfold maxLen; omega
        go_wp2_with (at_builtin; go_loud (refine wpList_append_lies _ rfl _ _ _ rfl w0.heap.size 57 i0 _ 3 32 Tryd.underlying80 hi0 hz0 hz1 hz2 rfl (by omega) (.slice oA k oc) k (flat (fun j => tdCell (T j)) 3 k) rfl (O4.out.alloc _) ⟨w4.heap.size, 0, none⟩ 1 1 [.string s, .int .i64 (m : Int), .int .i64 (dq : Int)] rfl rfl (World.news_of_block (cs := #[.string s, .int .i64 (m : Int), .int .i64 (dq : Int)]) (t := 57) (fr := (0, 0)) (heap_alloc_new w4 _)) (by simp [Value.oneCell']) (by omega) hml (by omega) (by rw [World.size_alloc]; omega) (w4.heap.size + 1) (by simp) ?_; intro gg gcap w9 hown9 hgrow hat hlt9))
        have hb9 := below_grown (bnew hbw4 (.cells #[.string s, .int .i64 (m : Int), .int .i64 (dq : Int)] 57)) hgrow (by rw [World.size_alloc]; omega) (fun x hx => by have := (O4.out.lt x hx).1; omega)
        have HN := Lib.hid (show w9.ownsRow w0.heap.size 57 3 (.slice (some ⟨gg, 0, none⟩) (k + 1) gcap) (k + 1) (flat (fun j => tdCell (T j)) 3 (k + 1)) by
          rw [flat_succ, HROW.out]
          exact hown9)
        clear hown9
        go_roundw
        case rel => exact ⟨k + 1, _, by omega, by go_num, rfl, hb9, HN⟩
        case measure => simp [intOf]; omega
      · obtain ⟨ep0, _⟩ := HCS.out W1 hbw j (by omega)
        obtain ⟨htjp, _⟩ := HTR.out j (by omega)
        obtain ⟨ho1p, ho2p⟩ := htjp.op
        have hnjp := htjp.nod
        obtain ⟨hq1p, hq2p⟩ := HSZ.out j (by omega)
        have hokjp := HOK.out j (by omega)
        have HNJp := Lib.hid hnjp
        have HOJp := Lib.hid hokjp
        have HNEp := Lib.hid (toks_ne (T j))
        obtain ⟨ojp, hojp⟩ : ∃ o, (f j).op = o := ⟨_, rfl⟩
        rw [hojp] at ep0 ho1p ho2p
        have HOPp := Lib.hid hojp
        have eap0 := fun o1 o2 o3 => cell_alloc (cell_alloc (cell_alloc ep0 o1) o2) o3
        clear hojp hnjp htjp hokjp
        obtain ⟨g, cap, hov, _, _⟩ := HO.out.form (by omega)
        injection hov with hov1 _ hov2
        subst hov1 hov2
        obtain ⟨tp0, tp1, tp2⟩ := told_cells HO.out (show j < k by omega)
        have tap0 := fun o1 o2 o3 => cell_alloc (cell_alloc (cell_alloc tp0 o1) o2) o3
        have tap1 := fun o1 o2 o3 => cell_alloc (cell_alloc (cell_alloc tp1 o1) o2) o3
        have tap2 := fun o1 o2 o3 => cell_alloc (cell_alloc (cell_alloc tp2 o1) o2) o3
        have hb3 := bnew (bnew (bnew (Below.refl W1.heap.size W1) (.cells #[.int .i64 op, .int .i64 nn, .string vr, .string at_, .int .i64 (j : Int), .int .i64 (-1)] 44)) (.cells #[.string (jt (T j).toks), .int .i64 ((T j).toks.length : Nat), .int .i64 ((T j).dp : Nat)] 57)) (.cells #[.string ⟨#[]⟩, .int .i64 0, .int .i64 0] 57)
        have PW3 := Lib.hid (PW.out.later (bcall hbw hb3))
        have CL3 := Lib.hid (CL.out.later (bcall hbw hb3))
        have SG3 := Lib.hid (SG.out.later (bcall hbw hb3))
        have ET := Lib.hid eT
        clear eT
        go_wp2_with fail
        refine (told_un op nn (j : Int) (-1) vr at_ h1 (T j).toks HNEp.out (T j).dp ojp ho1p ho2p HOJp.out (by omega) (by omega) ⟨#[]⟩ 0 0 1 _).mono ?_
        rw [show tdV (mkT (sgn op) :: wrapT (lev ojp) (lev op) (T j).toks) (wrapD (lev ojp) (lev op) (T j).dp + 1) = tdV (T k).toks (T k).dp by rw [ET.out]; rw [← HOPp.out, ← HNJp.out]; rfl]
        unfold tdV
        obtain ⟨s, hs⟩ : ∃ s, jt (T k).toks = s := ⟨_, rfl⟩
        obtain ⟨m, hm⟩ : ∃ m, (T k).toks.length = m := ⟨_, rfl⟩
        obtain ⟨dq, hdq⟩ : ∃ m, (T k).dp = m := ⟨_, rfl⟩
        have HROW := Lib.hid (tdCell_row (T k))
        rw [hs, hm, hdq] at HROW
        rw [hs, hm, hdq]
        clear hs hm hdq
        rintro e w2 ⟨rfl, hb2⟩
        have hb23 := bcall hb3 hb2
        have hb4 := bnew hb23 (.cells #[.string s, .int .i64 (m : Int), .int .i64 (dq : Int)] 57)
        have O4 := Lib.hid (rowown_below HO.out hb4)
        clear d0 d1 d2 d3 d4 d5
        clear ep0 eap0 tp0 tp1 tp2 tap0 tap1 tap2
        go_upto_region 17 with fail
        have y0 : (w2.alloc (.cells #[.string s, .int .i64 (m : Int), .int .i64 (dq : Int)] 57)).cell? ⟨w2.heap.size, 0, none⟩ = some (.string s) := by simp [go_sem]
        have y1 : (w2.alloc (.cells #[.string s, .int .i64 (m : Int), .int .i64 (dq : Int)] 57)).cell? ⟨w2.heap.size, 1, none⟩ = some (.int .i64 (m : Int)) := by simp [go_sem]
        have y2 : (w2.alloc (.cells #[.string s, .int .i64 (m : Int), .int .i64 (dq : Int)] 57)).cell? ⟨w2.heap.size, 2, none⟩ = some (.int .i64 (dq : Int)) := by simp [go_sem]
        have hle4 : w0.heap.size ≤ (w2.alloc (.cells #[.string s, .int .i64 (m : Int), .int .i64 (dq : Int)] 57)).heap.size := Nat.le_trans hle0 hb4.size
        generalize w2.heap.size = xb at *
        generalize w2.alloc _ = w4 at *
        have hbw4 := bcall hb hb4
        have hml : k + 1 ≤ maxLen := by unfold maxLen; omega
        go_wp2_with (at_builtin; go_loud (refine wpList_append_lies _ rfl _ _ _ rfl w0.heap.size 57 i0 _ 3 32 Tryd.underlying80 hi0 hz0 hz1 hz2 rfl (by omega) (.slice (some ⟨g, 0, none⟩) k oc) k (flat (fun j => tdCell (T j)) 3 k) rfl (O4.out.alloc _) ⟨w4.heap.size, 0, none⟩ 1 1 [.string s, .int .i64 (m : Int), .int .i64 (dq : Int)] rfl rfl (World.news_of_block (cs := #[.string s, .int .i64 (m : Int), .int .i64 (dq : Int)]) (t := 57) (fr := (0, 0)) (heap_alloc_new w4 _)) (by simp [Value.oneCell']) (by omega) hml (by omega) (by rw [World.size_alloc]; omega) (w4.heap.size + 1) (by simp) ?_; intro gg gcap w9 hown9 hgrow hat hlt9))
        have hb9 := below_grown (bnew hbw4 (.cells #[.string s, .int .i64 (m : Int), .int .i64 (dq : Int)] 57)) hgrow (by rw [World.size_alloc]; omega) (fun x hx => by have := (O4.out.lt x hx).1; omega)
        have HN := Lib.hid (show w9.ownsRow w0.heap.size 57 3 (.slice (some ⟨gg, 0, none⟩) (k + 1) gcap) (k + 1) (flat (fun j => tdCell (T j)) 3 (k + 1)) by
          rw [flat_succ, HROW.out]
          exact hown9)
        clear hown9
        go_roundw
        case rel => exact ⟨k + 1, _, by omega, by go_num, rfl, hb9, HN⟩
        case measure => simp [intOf]; omega
      · obtain ⟨ep0, _⟩ := HCS.out W1 hbw j (by omega)
        obtain ⟨htjp, _⟩ := HTR.out j (by omega)
        obtain ⟨ho1p, ho2p⟩ := htjp.op
        have hnjp := htjp.nod
        obtain ⟨hq1p, hq2p⟩ := HSZ.out j (by omega)
        have hokjp := HOK.out j (by omega)
        have HNJp := Lib.hid hnjp
        have HOJp := Lib.hid hokjp
        have HNEp := Lib.hid (toks_ne (T j))
        obtain ⟨ojp, hojp⟩ : ∃ o, (f j).op = o := ⟨_, rfl⟩
        rw [hojp] at ep0 ho1p ho2p
        have HOPp := Lib.hid hojp
        have eap0 := fun o1 o2 o3 => cell_alloc (cell_alloc (cell_alloc ep0 o1) o2) o3
        clear hojp hnjp htjp hokjp
        obtain ⟨eq0, _⟩ := HCS.out W1 hbw j2 (by omega)
        obtain ⟨htjq, _⟩ := HTR.out j2 (by omega)
        obtain ⟨ho1q, ho2q⟩ := htjq.op
        have hnjq := htjq.nod
        obtain ⟨hq1q, hq2q⟩ := HSZ.out j2 (by omega)
        have hokjq := HOK.out j2 (by omega)
        have HNJq := Lib.hid hnjq
        have HOJq := Lib.hid hokjq
        have HNEq := Lib.hid (toks_ne (T j2))
        obtain ⟨ojq, hojq⟩ : ∃ o, (f j2).op = o := ⟨_, rfl⟩
        rw [hojq] at eq0 ho1q ho2q
        have HOPq := Lib.hid hojq
        have eaq0 := fun o1 o2 o3 => cell_alloc (cell_alloc (cell_alloc eq0 o1) o2) o3
        clear hojq hnjq htjq hokjq
        obtain ⟨g, cap, hov, _, _⟩ := HO.out.form (by omega)
        injection hov with hov1 _ hov2
        subst hov1 hov2
        obtain ⟨tp0, tp1, tp2⟩ := told_cells HO.out (show j < k by omega)
        have tap0 := fun o1 o2 o3 => cell_alloc (cell_alloc (cell_alloc tp0 o1) o2) o3
        have tap1 := fun o1 o2 o3 => cell_alloc (cell_alloc (cell_alloc tp1 o1) o2) o3
        have tap2 := fun o1 o2 o3 => cell_alloc (cell_alloc (cell_alloc tp2 o1) o2) o3
        obtain ⟨tq0, tq1, tq2⟩ := told_cells HO.out (show j2 < k by omega)
        have taq0 := fun o1 o2 o3 => cell_alloc (cell_alloc (cell_alloc tq0 o1) o2) o3
        have taq1 := fun o1 o2 o3 => cell_alloc (cell_alloc (cell_alloc tq1 o1) o2) o3
        have taq2 := fun o1 o2 o3 => cell_alloc (cell_alloc (cell_alloc tq2 o1) o2) o3
        have hb3 := bnew (bnew (bnew (Below.refl W1.heap.size W1) (.cells #[.int .i64 op, .int .i64 nn, .string vr, .string at_, .int .i64 (j : Int), .int .i64 (j2 : Int)] 44)) (.cells #[.string (jt (T j).toks), .int .i64 ((T j).toks.length : Nat), .int .i64 ((T j).dp : Nat)] 57)) (.cells #[.string (jt (T j2).toks), .int .i64 ((T j2).toks.length : Nat), .int .i64 ((T j2).dp : Nat)] 57)
        have PW3 := Lib.hid (PW.out.later (bcall hbw hb3))
        have CL3 := Lib.hid (CL.out.later (bcall hbw hb3))
        have SG3 := Lib.hid (SG.out.later (bcall hbw hb3))
        have ET := Lib.hid eT
        clear eT
        go_wp2_with fail
        refine (told_bi op nn (j : Int) (j2 : Int) vr at_ h1 h2 (T j).toks HNEp.out (T j).dp ojp ho1p ho2p HOJp.out (by omega) (by omega) (T j2).toks HNEq.out (T j2).dp ojq ho1q ho2q HOJq.out (by omega) (by omega) _ SG3.out).mono ?_
        rw [show tdV (wrapT (lev ojp) (leftL op) (T j).toks ++ mkT (sgn op) :: wrapT (lev ojq) (lev op + 1) (T j2).toks) (max (wrapD (lev ojp) (leftL op) (T j).dp) (wrapD (lev ojq) (lev op + 1) (T j2).dp)) = tdV (T k).toks (T k).dp by rw [ET.out]; rw [← HOPp.out, ← HNJp.out, ← HOPq.out, ← HNJq.out]; rfl]
        unfold tdV
        obtain ⟨s, hs⟩ : ∃ s, jt (T k).toks = s := ⟨_, rfl⟩
        obtain ⟨m, hm⟩ : ∃ m, (T k).toks.length = m := ⟨_, rfl⟩
        obtain ⟨dq, hdq⟩ : ∃ m, (T k).dp = m := ⟨_, rfl⟩
        have HROW := Lib.hid (tdCell_row (T k))
        rw [hs, hm, hdq] at HROW
        rw [hs, hm, hdq]
        clear hs hm hdq
        rintro e w2 ⟨rfl, hb2⟩
        have hb23 := bcall hb3 hb2
        have hb4 := bnew hb23 (.cells #[.string s, .int .i64 (m : Int), .int .i64 (dq : Int)] 57)
        have O4 := Lib.hid (rowown_below HO.out hb4)
        clear d0 d1 d2 d3 d4 d5
        clear ep0 eap0 tp0 tp1 tp2 tap0 tap1 tap2 eq0 eaq0 tq0 tq1 tq2 taq0 taq1 taq2
        go_upto_region 17 with fail
        have y0 : (w2.alloc (.cells #[.string s, .int .i64 (m : Int), .int .i64 (dq : Int)] 57)).cell? ⟨w2.heap.size, 0, none⟩ = some (.string s) := by simp [go_sem]
        have y1 : (w2.alloc (.cells #[.string s, .int .i64 (m : Int), .int .i64 (dq : Int)] 57)).cell? ⟨w2.heap.size, 1, none⟩ = some (.int .i64 (m : Int)) := by simp [go_sem]
        have y2 : (w2.alloc (.cells #[.string s, .int .i64 (m : Int), .int .i64 (dq : Int)] 57)).cell? ⟨w2.heap.size, 2, none⟩ = some (.int .i64 (dq : Int)) := by simp [go_sem]
        have hle4 : w0.heap.size ≤ (w2.alloc (.cells #[.string s, .int .i64 (m : Int), .int .i64 (dq : Int)] 57)).heap.size := Nat.le_trans hle0 hb4.size
        generalize w2.heap.size = xb at *
        generalize w2.alloc _ = w4 at *
        have hbw4 := bcall hb hb4
        have hml : k + 1 ≤ maxLen := by unfold maxLen; omega
        go_wp2_with (at_builtin; go_loud (refine wpList_append_lies _ rfl _ _ _ rfl w0.heap.size 57 i0 _ 3 32 Tryd.underlying80 hi0 hz0 hz1 hz2 rfl (by omega) (.slice (some ⟨g, 0, none⟩) k oc) k (flat (fun j => tdCell (T j)) 3 k) rfl (O4.out.alloc _) ⟨w4.heap.size, 0, none⟩ 1 1 [.string s, .int .i64 (m : Int), .int .i64 (dq : Int)] rfl rfl (World.news_of_block (cs := #[.string s, .int .i64 (m : Int), .int .i64 (dq : Int)]) (t := 57) (fr := (0, 0)) (heap_alloc_new w4 _)) (by simp [Value.oneCell']) (by omega) hml (by omega) (by rw [World.size_alloc]; omega) (w4.heap.size + 1) (by simp) ?_; intro gg gcap w9 hown9 hgrow hat hlt9))
        have hb9 := below_grown (bnew hbw4 (.cells #[.string s, .int .i64 (m : Int), .int .i64 (dq : Int)] 57)) hgrow (by rw [World.size_alloc]; omega) (fun x hx => by have := (O4.out.lt x hx).1; omega)
        have HN := Lib.hid (show w9.ownsRow w0.heap.size 57 3 (.slice (some ⟨gg, 0, none⟩) (k + 1) gcap) (k + 1) (flat (fun j => tdCell (T j)) 3 (k + 1)) by
          rw [flat_succ, HROW.out]
          exact hown9)
        clear hown9
        go_roundw
        case rel => exact ⟨k + 1, _, by omega, by go_num, rfl, hb9, HN⟩
        case measure => simp [intOf]; omega
    · obtain rfl : k = n := by omega
      obtain ⟨g, cap, hov, _, _⟩ := HO.out.form h0
      injection hov with hov1 _ hov2
      subst hov1 hov2
      obtain ⟨m, hm⟩ : ∃ m, k - 1 = m := ⟨_, rfl⟩
      have hmi : (k : Int) - 1 = (m : Int) := by omega
      have hmk : m < k := by omega
      have HM := Lib.hid hm
      clear hm
      obtain ⟨t0, t1, t2⟩ := told_cells HO.out hmk
      have RB := Lib.hid (blk_below R0.out hb)
      obtain ⟨s, hs⟩ : ∃ s, jt (T m).toks = s := ⟨_, rfl⟩
      obtain ⟨q, hq⟩ : ∃ q, (T m).toks.length = q := ⟨_, rfl⟩
      obtain ⟨dq, hdq⟩ : ∃ q, (T m).dp = q := ⟨_, rfl⟩
      rw [hs] at t0
      rw [hq] at t1
      rw [hdq] at t2
      have HS := Lib.hid hs
      have HQ := Lib.hid hq
      have HD := Lib.hid hdq
      clear hs hq hdq
      have r0 : W1.cell? ⟨rb, 0, none⟩ = some (.string ⟨#[]⟩) := blk_cell RB.out rfl
      have r1 : W1.cell? ⟨rb, 1, none⟩ = some (.int .i64 0) := blk_cell RB.out rfl
      have r2 : W1.cell? ⟨rb, 2, none⟩ = some (.int .i64 0) := blk_cell RB.out rfl
      have g0 : W1.frozen? ⟨rb, 0, none⟩ = false := blk_free RB.out _
      have g1 : W1.frozen? ⟨rb, 1, none⟩ = false := blk_free RB.out _
      have g2 : W1.frozen? ⟨rb, 2, none⟩ = false := blk_free RB.out _
      have RF := blk_set (blk_set (blk_set RB.out 0 (.string s)) 1 (.int .i64 (q : Int))) 2 (.int .i64 (dq : Int))
      have q0 := blk_cell RF (j := 0) (v := .string s) rfl
      have q1 := blk_cell RF (j := 1) (v := .int .i64 (q : Int)) rfl
      have q2 := blk_cell RF (j := 2) (v := .int .i64 (dq : Int)) rfl
      have hrl : w.heap.size ≤ rb := by have := HRB.out; omega
      have hbf3 := bset (bset (bset hbw (p := ⟨rb, 0, none⟩) hrl (.string s)) (p := ⟨rb, 1, none⟩) hrl (.int .i64 (q : Int))) (p := ⟨rb, 2, none⟩) hrl (.int .i64 (dq : Int))
      clear RF
      go_wp2_with fail
      refine bodyPost_ret (v := .agg #[.string s, .int .i64 (q : Int), .int .i64 (dq : Int)]) ?_ rfl ?_
      · simp [results, Tryd.results23, go_sem, q0, q1, q2]
      · exact ⟨by rw [HM.out]; unfold tdV; rw [HS.out, HQ.out, HD.out], hbf3⟩
end Go.Proofs.YtfcdkadblagijaaDoor

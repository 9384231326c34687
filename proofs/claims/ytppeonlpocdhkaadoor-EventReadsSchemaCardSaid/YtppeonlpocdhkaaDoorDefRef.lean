/-
  The walk of the reference's definition.
-/
import Derived.Test.YtppeonlpocdhkaaDoorPceErr
import Derived.Deep.CutRange
set_option linter.unusedSimpArgs false
set_option linter.unusedVariables false
namespace Go.Proofs.YtppeonlpocdhkaaDoor
open Go.RowKit Go.ChangeShapes Go.WideShapes Go.ChangeAt Go.Deep Go.Joins
def gA (al : List ByteArray) (j : Nat) : ByteArray := al.getD j .empty
theorem own_not {w : World} {B n sz b : Nat} {e T : TypeId} {v : Value} {xs : List Value} {cs : Array Value} {fr : Nat × Nat} (h : w.ownsRow B e sz v n xs) (hb : w.heap[b]? = some (.cells cs T fr)) (hT : T ≠ e) : v.ownBlock ≠ some b := fun hv => by
  obtain ⟨c, fz, h1⟩ := Lib.ownsRow_kind h b hv
  rw [h1] at hb
  injection hb with hb
  injection hb with _ hb
  exact hT hb.symm
theorem gA_snoc (al : List ByteArray) (x : ByteArray) : strCells (gA (al ++ [x])) (al ++ [x]).length = strCells (gA al) al.length ++ [.string x] := by
  rw [List.length_append, List.length_singleton, strCells_succ]
  congr 1
  · refine strCells_congr fun j hj => ?_
    simp [gA, List.getElem?_append_left hj]
  · simp [gA]
/-- What definition ends with. -/
def DefEnd (s : ByteArray) (L : List Pce) (i : Nat) (ts : TList) (w : World) (e : Ending) (w' : World) : Prop :=
  Below w.heap.size w w' ∧ ((∃ (c : Int) (k : Nat) (nm : ByteArray) (aA : Option Addr) (n ac : Nat), c ≠ 0 ∧ e = .returned (.tuple #[.agg #[.string nm, .slice aA n ac], .int .i64 k, .int .i64 c]) ∧ gfin s ⟨0, ts⟩ (L.drop i) = ⟨c, placeN s L k, []⟩) ∨
    (∃ (k : Nat) (nm : ByteArray) (al : List ByteArray) (aA : Option Addr) (ac : Nat), e = .returned (.tuple #[.agg #[.string nm, .slice aA al.length ac], .int .i64 k, .int .i64 0]) ∧ i < k ∧ k ≤ L.length ∧ ts.length < 16 ∧ al.length ≤ 8 ∧
      w'.ownsRow w.heap.size 9 1 (.slice aA al.length ac) al.length (strCells (gA al) al.length) ∧ gfin s ⟨0, ts⟩ (L.drop i) = gfin s ⟨0, ts ++ [(nm, al)]⟩ (L.drop k)))
theorem prd_set {w w3 w4 : World} {A : Option Addr} {L : List Pce} (h : PRd w A L) (hb3 : Below w.heap.size w w3) (hb4 : Below w.heap.size w w4) : PRd w4 A L := RowRd.later h hb4
section
variable {s : ByteArray} {L : List Pce} {i k n ac : Nat} {ts : TList} {w w' : World} {c : Int} {nm : ByteArray} {aA : Option Addr}
theorem def_bad (hb : Below w.heap.size w w') (hc : c ≠ 0) (hg : gfin s ⟨0, ts⟩ (L.drop i) = ⟨c, placeN s L k, []⟩) : DefEnd s L i ts w (.returned (.tuple #[.agg #[.string nm, .slice aA n ac], .int .i64 k, .int .i64 c])) w' :=
  ⟨hb, Or.inl ⟨c, k, nm, aA, n, ac, hc, rfl, hg⟩⟩
theorem def_ok {al : List ByteArray} (hb : Below w.heap.size w w') (hn : n = al.length) (h1 : i < k) (h2 : k ≤ L.length) (h3 : ts.length ≤ 16) (h3' : ¬ ts.length = 16) (h4 : al.length ≤ 8) (ho : w'.ownsRow w.heap.size 9 1 (.slice aA al.length ac) al.length (strCells (gA al) al.length))
    (hg : gfin s ⟨0, ts⟩ (L.drop i) = gfin s ⟨0, ts ++ [(nm, al)]⟩ (L.drop k)) : DefEnd s L i ts w (.returned (.tuple #[.agg #[.string nm, .slice aA n ac], .int .i64 k, .int .i64 0])) w' := by
  subst hn
  exact ⟨hb, Or.inr ⟨k, nm, al, aA, ac, rfl, h1, h2, by omega, h4, ho, hg⟩⟩
end
set_option maxRecDepth 100000 in
set_option maxHeartbeats 4000000 in
theorem definition_any (s : ByteArray) (hs : s.size ≤ 4096) (A : Option Addr) (cap : Nat) (L : List Pce) (i : Nat) (tA : Option Addr) (tc : Nat) (ts : TList) (w : World) (h : PRd w A L) (ha : AllOk s L) (hl : L.length ≤ 4096) (hi : i < L.length) (ht : TypRd w w.heap.size tA (schOf ts)) (hts : ts.length ≤ 16)
    {tt : TypeId} {fr : Nat × Nat} (hkw : w.heap[0]? = some (.cells kwArr tt fr)) :
    Calls Tryd.prog 45 #[.string s, .slice A L.length cap, .int .i64 i, .slice tA ts.length tc] w fun e w' => DefEnd s L i ts w e w' := by
  have hb1 : Below w.heap.size w ((w.alloc (.cells #[.string ⟨#[]⟩, .slice none 0 0] 40)).alloc (.cells #[.string ⟨#[]⟩, .slice none 0 0] 40)) := bnew (bnew (Below.refl w.heap.size w) (.cells #[.string ⟨#[]⟩, .slice none 0 0] 40)) (.cells #[.string ⟨#[]⟩, .slice none 0 0] 40)
  have BR1 : Hid (((w.alloc (.cells #[.string ⟨#[]⟩, .slice none 0 0] 40)).alloc (.cells #[.string ⟨#[]⟩, .slice none 0 0] 40)).heap[w.heap.size]? = some (.cells #[.string ⟨#[]⟩, .slice none 0 0] 40 (0, 0))) := Lib.hid (blk_alloc (blk_new w #[.string ⟨#[]⟩, .slice none 0 0] 40) _)
  have BT1 : Hid (((w.alloc (.cells #[.string ⟨#[]⟩, .slice none 0 0] 40)).alloc (.cells #[.string ⟨#[]⟩, .slice none 0 0] 40)).heap[w.heap.size + 1]? = some (.cells #[.string ⟨#[]⟩, .slice none 0 0] 40 (0, 0))) := by
    have h := blk_new (w.alloc (.cells #[.string ⟨#[]⟩, .slice none 0 0] 40)) #[.string ⟨#[]⟩, .slice none 0 0] 40
    rw [World.size_alloc] at h
    exact Lib.hid h
  have hz1 : w.heap.size + 2 ≤ ((w.alloc (.cells #[.string ⟨#[]⟩, .slice none 0 0] 40)).alloc (.cells #[.string ⟨#[]⟩, .slice none 0 0] 40)).heap.size := by
    rw [World.size_alloc, World.size_alloc]
    omega
  have HP1 := Lib.hid (h.later hb1)
  have HT1 := Lib.hid (ht.later hb1)
  have HK1 := Lib.hid (block_below hkw hb1)
  have HA := Lib.hid ha
  have HP := Lib.hid h
  have HK := Lib.hid hkw
  obtain ⟨i0, hi0, iz0, iz1, iz2⟩ := info_parts infoStr
  have hlen : ts.length * 40 ≤ 140737488351232 := by omega
  clear h ht ha hkw
  go_enter Tryd.func45, Tryd.ntmps45
  go_wp2_with fail
  generalize (w.alloc _).alloc _ = w1 at *
  refine (is_any s hs A cap L i tyB _ HP1.out HA.out hl).mono ?_
  rintro e w2 ⟨rfl, hb12⟩
  have hb2 := bcall hb1 hb12
  have BR2 := Lib.hid (blk_below BR1.out hb12)
  have BT2 := Lib.hid (blk_below BT1.out hb12)
  have HP2 := Lib.hid (RowRd.later HP1.out hb12)
  have HT2 := Lib.hid (HT1.out.later hb12)
  have HK2 := Lib.hid (block_below HK1.out hb12)
  have hz2 : w.heap.size + 2 ≤ w2.heap.size := Nat.le_trans hz1 hb12.size
  cases hq0 : isB s L i tyB
  · have HG := Lib.hid (st0_no (ts := ts) hi hq0)
    clear hq0
    have r0 := blk_cell (j := 0) BR2.out rfl
    have r1 := blk_cell (j := 1) BR2.out rfl
    have q0 := blk_cell (j := 0) BT2.out rfl
    have q1 := blk_cell (j := 1) BT2.out rfl
    have f0 := blk_free BR2.out 0
    have f1 := blk_free BR2.out 1
    have x0 : ((w2.setCell ⟨w.heap.size, 0, none⟩ (.string ⟨#[]⟩)).setCell ⟨w.heap.size, 1, none⟩ (.slice none 0 0)).cell? ⟨w.heap.size, 0, none⟩ = some (.string ⟨#[]⟩) := blk_cell (blk_set (blk_set BR2.out 0 (.string ⟨#[]⟩)) 1 (.slice none 0 0)) rfl
    have x1 : ((w2.setCell ⟨w.heap.size, 0, none⟩ (.string ⟨#[]⟩)).setCell ⟨w.heap.size, 1, none⟩ (.slice none 0 0)).cell? ⟨w.heap.size, 1, none⟩ = some (.slice none 0 0) := blk_cell (blk_set (blk_set BR2.out 0 (.string ⟨#[]⟩)) 1 (.slice none 0 0)) rfl
    have hbE : Below w.heap.size w ((w2.setCell ⟨w.heap.size, 0, none⟩ (.string ⟨#[]⟩)).setCell ⟨w.heap.size, 1, none⟩ (.slice none 0 0)) := (hb2.setCell (Nat.le_refl _) _).setCell (Nat.le_refl _) _
    go_wp2_with fail
    refine bodyPost_ret (v := .tuple #[.agg #[.string ⟨#[]⟩, .slice none 0 0], .int .i64 i, .int .i64 21]) ?_ rfl ?_
    · simp [results, Tryd.results45, go_sem, x0, x1]
    · exact def_bad hbE (by decide) HG.out
  by_cases h16 : ts.length = 16
  · have HG := Lib.hid (st0_many (ts := ts) HA.out hq0 h16)
    clear hq0
    have r0 := blk_cell (j := 0) BR2.out rfl
    have r1 := blk_cell (j := 1) BR2.out rfl
    have q0 := blk_cell (j := 0) BT2.out rfl
    have q1 := blk_cell (j := 1) BT2.out rfl
    have f0 := blk_free BR2.out 0
    have f1 := blk_free BR2.out 1
    have x0 : ((w2.setCell ⟨w.heap.size, 0, none⟩ (.string ⟨#[]⟩)).setCell ⟨w.heap.size, 1, none⟩ (.slice none 0 0)).cell? ⟨w.heap.size, 0, none⟩ = some (.string ⟨#[]⟩) := blk_cell (blk_set (blk_set BR2.out 0 (.string ⟨#[]⟩)) 1 (.slice none 0 0)) rfl
    have x1 : ((w2.setCell ⟨w.heap.size, 0, none⟩ (.string ⟨#[]⟩)).setCell ⟨w.heap.size, 1, none⟩ (.slice none 0 0)).cell? ⟨w.heap.size, 1, none⟩ = some (.slice none 0 0) := blk_cell (blk_set (blk_set BR2.out 0 (.string ⟨#[]⟩)) 1 (.slice none 0 0)) rfl
    have hbE : Below w.heap.size w ((w2.setCell ⟨w.heap.size, 0, none⟩ (.string ⟨#[]⟩)).setCell ⟨w.heap.size, 1, none⟩ (.slice none 0 0)) := (hb2.setCell (Nat.le_refl _) _).setCell (Nat.le_refl _) _
    go_wp2_with fail
    refine bodyPost_ret (v := .tuple #[.agg #[.string ⟨#[]⟩, .slice none 0 0], .int .i64 i, .int .i64 23]) ?_ rfl ?_
    · simp [results, Tryd.results45, go_sem, x0, x1]
    · exact def_bad hbE (by decide) HG.out
  have HG0 := Lib.hid (st0_ok (ts := ts) HA.out hq0 h16)
  clear hq0
  go_wp2_with fail
  refine (named_any s hs A cap L (i + 1) tA tc ts _ HP2.out HA.out hl HT2.out HK2.out).mono ?_
  rintro e w3 ⟨rfl, hb23⟩
  have hb3 := bcall hb2 hb23
  have BR3 := Lib.hid (blk_below BR2.out hb23)
  have BT3 := Lib.hid (blk_below BT2.out hb23)
  have HP3 := Lib.hid (RowRd.later HP2.out hb23)
  have HK3 := Lib.hid (block_below HK2.out hb23)
  have hz3 : w.heap.size + 2 ≤ w3.heap.size := Nat.le_trans hz2 hb23.size
  by_cases hq1 : nameE s L (i + 1) ts = 0
  · have hq2 : wordB s L (i + 1) = true := by
      cases hw : wordB s L (i + 1)
      · rw [nameE, if_neg (by rw [hw]; simp)] at hq1
        cases hq1
      · rfl
    have hi1 := wordB_lt hq2
    have HG1 : Hid (gfin s ⟨0, ts⟩ (L.drop i) = gfin s ⟨2, ts ++ [(wdAt s L (i + 1), [])]⟩ (L.drop (i + 2))) := Lib.hid (by
      rw [HG0.out, st1_ok HA.out hq2 (by rw [nameE, if_pos hq2] at hq1; exact hq1)])
    rw [hq1]
    clear hq1 hq2
    obtain ⟨b, off, rfl, hbb, c0, c1, c2⟩ := PRd.at_ HP3.out hi1
    have hok := HA.out (i + 1) hi1
    have e1 := hok.lt
    have e2 := hok.le
    have HWD : Hid (s.extract (gp L (i + 1)).a (gp L (i + 1)).z = wdAt s L (i + 1)) := Lib.hid rfl
    clear hok c2
    generalize wdAt s L (i + 1) = nm at *
    generalize gp L (i + 1) = pc at *
    have q0 := blk_cell (j := 0) BT3.out rfl
    have g0 := blk_free BT3.out 0
    go_wp2_with fail
    go_region
    rw [HWD.out]
    have hb4 : Below w.heap.size w ((w3.setCell ⟨w.heap.size + 1, 0, none⟩ (.string nm)).drew) := (hb3.setCell (Nat.le_succ _) _).drew
    have BR4 : Hid (((w3.setCell ⟨w.heap.size + 1, 0, none⟩ (.string nm)).drew).heap[w.heap.size]? = some (.cells #[.string ⟨#[]⟩, .slice none 0 0] 40 (0, 0))) := Lib.hid (blk_other (p := ⟨w.heap.size + 1, 0, none⟩) BR3.out (show w.heap.size + 1 ≠ w.heap.size by omega) _)
    have BT4 : Hid (((w3.setCell ⟨w.heap.size + 1, 0, none⟩ (.string nm)).drew).heap[w.heap.size + 1]? = some (.cells #[.string nm, .slice none 0 0] 40 (0, 0))) := Lib.hid (blk_set BT3.out 0 (.string nm))
    have HP4 : Hid (PRd ((w3.setCell ⟨w.heap.size + 1, 0, none⟩ (.string nm)).drew) (some ⟨b, off, none⟩) L) := Lib.hid (prd_set HP.out hb3 hb4)
    have HK4 := Lib.hid (block_below HK.out hb4)
    have hz4 : w.heap.size + 2 ≤ ((w3.setCell ⟨w.heap.size + 1, 0, none⟩ (.string nm)).drew).heap.size := Nat.le_trans hz3 (Nat.le_of_eq (World.size_setCell w3 _ _).symm)
    generalize (w3.setCell ⟨w.heap.size + 1, 0, none⟩ (.string nm)).drew = w4 at *
    clear q0 g0 c0 c1 HWD
    go_wp2_with fail
    refine (is_any s hs _ cap L (i + 2) ⟨#[40]⟩ _ HP4.out HA.out hl).mono ?_
    rintro e w5 ⟨rfl, hb45⟩
    have hb5 := bcall hb4 hb45
    have BR5 := Lib.hid (blk_below BR4.out hb45)
    have BT5 := Lib.hid (blk_below BT4.out hb45)
    have HP5 := Lib.hid (RowRd.later HP4.out hb45)
    have HK5 := Lib.hid (block_below HK4.out hb45)
    have hz5 : w.heap.size + 2 ≤ w5.heap.size := Nat.le_trans hz4 hb45.size
    cases hq3 : isB s L (i + 2) ⟨#[40]⟩
    · have HG : Hid (gfin s ⟨0, ts⟩ (L.drop i) = ⟨21, placeN s L (i + 2), []⟩) := Lib.hid (by rw [HG1.out, st2_no HA.out hq3])
      clear hq3
      have r0 := blk_cell (j := 0) BR5.out rfl
      have r1 := blk_cell (j := 1) BR5.out rfl
      have q0 := blk_cell (j := 0) BT5.out rfl
      have q1 := blk_cell (j := 1) BT5.out rfl
      have f0 := blk_free BR5.out 0
      have f1 := blk_free BR5.out 1
      have x0 : ((w5.setCell ⟨w.heap.size, 0, none⟩ (.string nm)).setCell ⟨w.heap.size, 1, none⟩ (.slice none 0 0)).cell? ⟨w.heap.size, 0, none⟩ = some (.string nm) := blk_cell (blk_set (blk_set BR5.out 0 (.string nm)) 1 (.slice none 0 0)) rfl
      have x1 : ((w5.setCell ⟨w.heap.size, 0, none⟩ (.string nm)).setCell ⟨w.heap.size, 1, none⟩ (.slice none 0 0)).cell? ⟨w.heap.size, 1, none⟩ = some (.slice none 0 0) := blk_cell (blk_set (blk_set BR5.out 0 (.string nm)) 1 (.slice none 0 0)) rfl
      have hbE : Below w.heap.size w ((w5.setCell ⟨w.heap.size, 0, none⟩ (.string nm)).setCell ⟨w.heap.size, 1, none⟩ (.slice none 0 0)) := (hb5.setCell (Nat.le_refl _) _).setCell (Nat.le_refl _) _
      go_wp2_with fail
      refine bodyPost_ret (v := .tuple #[.agg #[.string nm, .slice none 0 0], .int .i64 ((i : Int) + 2), .int .i64 21]) ?_ rfl ?_
      · simp [results, Tryd.results45, go_sem, x0, x1]
      · exact def_bad (k := i + 2) hbE (by decide) HG.out
    have hi2 := isB_lt hq3
    have HG2 : Hid (gfin s ⟨0, ts⟩ (L.drop i) = gfin s ⟨3, ts ++ [(nm, [])]⟩ (L.drop (i + 3))) := Lib.hid (by rw [HG1.out, st_mark HA.out hq3 (by decide) (gmark_open rfl rfl)])
    clear hq3
    go_wp2_with fail
    refine (is_any s hs _ cap L (i + 3) ⟨#[41]⟩ _ HP5.out HA.out hl).mono ?_
    rintro e w6 ⟨rfl, hb56⟩
    have hb6 := bcall hb5 hb56
    have BR6 := Lib.hid (blk_below BR5.out hb56)
    have BT6 := Lib.hid (blk_below BT5.out hb56)
    have HP6 := Lib.hid (RowRd.later HP5.out hb56)
    have HK6 := Lib.hid (block_below HK5.out hb56)
    have hz6 : w.heap.size + 2 ≤ w6.heap.size := Nat.le_trans hz5 hb56.size
    cases hq4 : isB s L (i + 3) ⟨#[41]⟩
    · have HQ4 := Lib.hid hq4
      clear hq4
      go_wp2_with fail
      go_loopw [12, 13] (fun _ k wr => ∃ (k' wt : Nat) (al : List ByteArray) (aA : Option Addr) (ac : Nat), k = .int .i64 k' ∧ i < k' ∧ k' ≤ L.length ∧ al.length ≤ 8 ∧ Hid (wt = 3 ∨ wt = 4) ∧ Hid (wt = 3 → isB s L k' ⟨#[41]⟩ = false) ∧ Hid (gfin s ⟨0, ts⟩ (L.drop i) = gfin s ⟨wt, ts ++ [(nm, al)]⟩ (L.drop k')) ∧ Below w.heap.size w wr ∧ w.heap.size + 2 ≤ wr.heap.size ∧
        Hid (wr.heap[w.heap.size]? = some (.cells #[.string ⟨#[]⟩, .slice none 0 0] 40 (0, 0))) ∧ Hid (wr.heap[w.heap.size + 1]? = some (.cells #[.string nm, .slice aA al.length ac] 40 (0, 0))) ∧ Hid (wr.ownsRow w.heap.size 9 1 (.slice aA al.length ac) al.length (strCells (gA al) al.length))) (fun _ k _ => L.length + 1 - (intOf k).toNat)
      case atStart => exact ⟨i + 3, 3, [], none, 0, by go_num, by omega, by omega, by simp, Lib.hid (Or.inl rfl), Lib.hid (fun _ => HQ4.out), HG2, hb6, hz6, BR6, BT6, Lib.hid (World.ownsRow_nil _ _ _ _)⟩
      case round =>
        obtain ⟨k, wt, al, aA, ac, rfl, hik, hk, hal, HWT, HCL, HG, hb, hz, BR, BT, HO⟩ := hrel
        have HPr : Hid (PRd wr (some ⟨b, off, none⟩) L) := Lib.hid (RowRd.later HP.out hb)
        have HKr := Lib.hid (block_below HK.out hb)
        have HS := Lib.hid (own_str (f := gA al) HO.out (by omega))
        have q1 := blk_cell (j := 1) BT.out rfl
        go_wp2_with fail
        refine (attribute_any s hs _ cap L k aA ac al _ HPr.out HA.out hl HS.out hal HKr.out).mono ?_
        rintro e w7 ⟨rfl, hb67⟩
        have hb7 := bcall hb hb67
        have BR7 := Lib.hid (blk_below BR.out hb67)
        have BT7 := Lib.hid (blk_below BT.out hb67)
        have HP7 := Lib.hid (RowRd.later HPr.out hb67)
        have HO7 := Lib.hid (own_below HO.out hb67)
        have hz7 : w.heap.size + 2 ≤ w7.heap.size := Nat.le_trans hz hb67.size
        clear q1
        by_cases hq5 : attrE s L k al = 0
        · have hq6 : wordB s L k = true := by
            cases hw : wordB s L k
            · rw [attrE, if_neg (by rw [hw]; simp)] at hq5
              cases hq5
            · rfl
          have hkl := wordB_lt hq6
          have hg0 : gattr al (wdAt s L k) = 0 := by rw [attrE, if_pos hq6] at hq5; exact hq5
          have hal8 : ¬ al.length = 8 := fun e8 => by
            rw [at_many (is_word HA.out hq6).2 e8] at hg0
            cases hg0
          have HG7 : Hid (gfin s ⟨0, ts⟩ (L.drop i) = gfin s ⟨5, ts ++ [(nm, al ++ [wdAt s L k])]⟩ (L.drop (k + 1))) := Lib.hid (by rw [HG.out, stA_ok HWT.out HA.out hq6 hg0])
          rw [hq5]
          clear hq5 hq6 hg0
          obtain ⟨b', off', eA, hbb', c0, c1, c2⟩ := PRd.at_ HP7.out hkl
          cases eA
          have hok := HA.out k hkl
          have e1 := hok.lt
          have e2 := hok.le
          have HWD : Hid (s.extract (gp L k).a (gp L k).z = wdAt s L k) := Lib.hid rfl
          have e1' := Nat.le_of_lt e1
          clear hok c2
          generalize wdAt s L k = x at *
          generalize gp L k = pk at *
          have q1 := blk_cell (j := 1) BT7.out rfl
          have g1 := blk_free BT7.out 1
          have hne : (Value.slice aA al.length ac).ownBlock ≠ some (w.heap.size + 1) := own_not HO7.out BT7.out (by decide)
          have hne0 : (Value.slice aA al.length ac).ownBlock ≠ some w.heap.size := own_not HO7.out BR7.out (by decide)
          have HNE := Lib.hid hne
          have HNE0 := Lib.hid hne0
          clear hne hne0
          have hz7' : w.heap.size + 1 < w7.heap.size := by omega
          go_upto_region 19 with fail
          go_cut [] from 72 to 122 (fun wx => ∃ gg gcap, Hid (wx.heap[w.heap.size]? = some (.cells #[.string ⟨#[]⟩, .slice none 0 0] 40 (0, 0))) ∧ Hid (wx.heap[w.heap.size + 1]? = some (.cells #[.string nm, .slice (some ⟨gg, 0, none⟩) (al.length + 1) gcap] 40 (0, 0))) ∧
            Hid (wx.ownsRow w.heap.size 9 1 (.slice (some ⟨gg, 0, none⟩) (al.length + 1) gcap) (al.length + 1) (strCells (gA al) al.length ++ [.string x])) ∧ Below w.heap.size w wx ∧ w.heap.size + 2 ≤ wx.heap.size)
          case first =>
            go_region_law
              ((refine step_append_lies _ (by rfl) _ _ _ (by rfl) w.heap.size 9 i0 _ 1 16 Tryd.underlying38 hi0 iz0 iz1 iz2 rfl (by omega) (.slice aA al.length ac) al.length (strCells (gA al) al.length) (by rfl) ((HO7.out.drew).alloc _)
                  ⟨w7.heap.size, 0, none⟩ 1 1 [.string (s.extract pk.a pk.z)] (by rfl) (by rfl) (World.news_of_block (cs := #[.string (s.extract pk.a pk.z)]) (t := 9) (fr := (0, 0)) (heap_alloc_new w7.drew _)) (by simp [Value.oneCell'])
                  (by omega) (by unfold maxLen; omega) (by omega) (by simp; omega) (w7.heap.size + 1) (by simp) ?_; intro gg gcap w8 hown8 hgrow hat hlt8; have t1 : w8.cell? ⟨w.heap.size + 1, 1, none⟩ = some (.slice aA al.length ac) := (hgrow.cell_far _ (by simp; omega) (Ne.symm HNE.out)).trans (cell_alloc (w := w7.drew) q1 _); have t2 : w8.frozen? ⟨w.heap.size + 1, 1, none⟩ = false := (hgrow.frozen_far _ (by simp; omega) (Ne.symm HNE.out)).trans (frozen_alloc (w := w7.drew) (p := ⟨w.heap.size + 1, 1, none⟩) hz7' g1 _)))
            all_goals
              rw [HWD.out] at hown8
              have BR8 : Hid ((w8.setCell ⟨w.heap.size + 1, 1, none⟩ (.slice (some ⟨gg, 0, none⟩) (al.length + 1) gcap)).heap[w.heap.size]? = some (.cells #[.string ⟨#[]⟩, .slice none 0 0] 40 (0, 0))) := Lib.hid (blk_other (blk_grown (blk_alloc (w := w7.drew) BR7.out _) hgrow HNE0.out) (show w.heap.size + 1 ≠ w.heap.size by omega) _)
              have BT8' := blk_grown (blk_alloc (w := w7.drew) BT7.out _) hgrow HNE.out
              have BT8 : Hid ((w8.setCell ⟨w.heap.size + 1, 1, none⟩ (.slice (some ⟨gg, 0, none⟩) (al.length + 1) gcap)).heap[w.heap.size + 1]? = some (.cells #[.string nm, .slice (some ⟨gg, 0, none⟩) (al.length + 1) gcap] 40 (0, 0))) := Lib.hid (blk_set BT8' 1 (.slice (some ⟨gg, 0, none⟩) (al.length + 1) gcap))
              have HO8 : Hid ((w8.setCell ⟨w.heap.size + 1, 1, none⟩ (.slice (some ⟨gg, 0, none⟩) (al.length + 1) gcap)).ownsRow w.heap.size 9 1 (.slice (some ⟨gg, 0, none⟩) (al.length + 1) gcap) (al.length + 1) (strCells (gA al) al.length ++ [.string x])) := Lib.hid (own_blk hown8 BT8' (by decide) 1 (.slice (some ⟨gg, 0, none⟩) (al.length + 1) gcap))
              have hb8 : Below w.heap.size w (w8.setCell ⟨w.heap.size + 1, 1, none⟩ (.slice (some ⟨gg, 0, none⟩) (al.length + 1) gcap)) := ((bnew (bdrew hb7) _).grown hgrow (by simp; omega) (fun y hy => (HO7.out.lt y hy).1)).setCell (Nat.le_succ _) _
              have hz8 : w.heap.size + 2 ≤ (w8.setCell ⟨w.heap.size + 1, 1, none⟩ (.slice (some ⟨gg, 0, none⟩) (al.length + 1) gcap)).heap.size := by
                have := hgrow.size
                simp at this
                rw [World.size_setCell]
                omega
              go_wp2_with fail
              go_meet
              exact ⟨gg, gcap, BR8, BT8, HO8, hb8, hz8⟩
          case rest =>
          obtain ⟨gg, gcap, BR8, BT8, HO8, hb8, hz8⟩ := hcut
          have HGA : Hid (strCells (gA al) al.length ++ [Value.string x] = strCells (gA (al ++ [x])) (al ++ [x]).length) := Lib.hid (gA_snoc al x).symm
          have hl1 : (al ++ [x]).length = al.length + 1 := by simp
          rw [HGA.out, hl1] at HO8
          have hal1 : (al ++ [x]).length ≤ 8 := by omega
          clear HGA
          generalize al ++ [x] = al1 at *
          have HP8 : Hid (PRd wc (some ⟨b, off, none⟩) L) := Lib.hid (prd_set HP.out hb7 hb8)
          obtain ⟨w9, ew9⟩ : ∃ w9 : World, w9 = wc := ⟨_, rfl⟩
          subst ew9
          have HO9 : Hid (w9.ownsRow w.heap.size 9 1 (.slice (some ⟨gg, 0, none⟩) al1.length gcap) al1.length (strCells (gA al1) al1.length)) := by rw [hl1]; exact HO8
          have BT9 : Hid (w9.heap[w.heap.size + 1]? = some (.cells #[.string nm, .slice (some ⟨gg, 0, none⟩) al1.length gcap] 40 (0, 0))) := by rw [hl1]; exact BT8
          have HP9 := HP8
          clear HO8 q1 g1 c0 c1
          go_wp2_with fail
          refine (is_any s hs _ cap L (k + 1) ⟨#[41]⟩ _ HP9.out HA.out hl).mono ?_
          rintro e w10 ⟨rfl, hb90⟩
          have hb10 := bcall hb8 hb90
          have BR10 := Lib.hid (blk_below BR8.out hb90)
          have BT10 := Lib.hid (blk_below BT8.out hb90)
          have BTX := Lib.hid (blk_below BT9.out hb90)
          have HP10 := Lib.hid (RowRd.later HP9.out hb90)
          have HO10 := Lib.hid (own_below HO9.out hb90)
          have hz10 : w.heap.size + 2 ≤ w10.heap.size := Nat.le_trans hz8 hb90.size
          cases hq7 : isB s L (k + 1) ⟨#[41]⟩
          · have HQ7 := Lib.hid hq7
            clear hq7
            go_wp2_with fail
            refine (is_any s hs _ cap L (k + 1) ⟨#[44]⟩ _ HP10.out HA.out hl).mono ?_
            rintro e w11 ⟨rfl, hb11'⟩
            have hb11 := bcall hb10 hb11'
            have BR11 := Lib.hid (blk_below BR10.out hb11')
            have BT11 := Lib.hid (blk_below BT10.out hb11')
            have BTY := Lib.hid (blk_below BTX.out hb11')
            have HO11 := Lib.hid (own_below HO10.out hb11')
            have hz11 : w.heap.size + 2 ≤ w11.heap.size := Nat.le_trans hz10 hb11'.size
            cases hq8 : isB s L (k + 1) ⟨#[44]⟩
            · have HGE : Hid (gfin s ⟨0, ts⟩ (L.drop i) = ⟨21, placeN s L (k + 1), []⟩) := Lib.hid (by rw [HG7.out, st5_no HA.out HQ7.out hq8])
              clear hq8
              have r0 := blk_cell (j := 0) BR11.out rfl
              have r1 := blk_cell (j := 1) BR11.out rfl
              have q0 := blk_cell (j := 0) BT11.out rfl
              have q1 := blk_cell (j := 1) BT11.out rfl
              have f0 := blk_free BR11.out 0
              have f1 := blk_free BR11.out 1
              have x0 : ((w11.setCell ⟨w.heap.size, 0, none⟩ (.string nm)).setCell ⟨w.heap.size, 1, none⟩ (.slice (some ⟨gg, 0, none⟩) (al.length + 1) gcap)).cell? ⟨w.heap.size, 0, none⟩ = some (.string nm) := blk_cell (blk_set (blk_set BR11.out 0 (.string nm)) 1 (.slice (some ⟨gg, 0, none⟩) (al.length + 1) gcap)) rfl
              have x1 : ((w11.setCell ⟨w.heap.size, 0, none⟩ (.string nm)).setCell ⟨w.heap.size, 1, none⟩ (.slice (some ⟨gg, 0, none⟩) (al.length + 1) gcap)).cell? ⟨w.heap.size, 1, none⟩ = some (.slice (some ⟨gg, 0, none⟩) (al.length + 1) gcap) := blk_cell (blk_set (blk_set BR11.out 0 (.string nm)) 1 (.slice (some ⟨gg, 0, none⟩) (al.length + 1) gcap)) rfl
              have hbE : Below w.heap.size w ((w11.setCell ⟨w.heap.size, 0, none⟩ (.string nm)).setCell ⟨w.heap.size, 1, none⟩ (.slice (some ⟨gg, 0, none⟩) (al.length + 1) gcap)) := (hb11.setCell (Nat.le_refl _) _).setCell (Nat.le_refl _) _
              go_wp2_with fail
              refine bodyPost_ret (v := .tuple #[.agg #[.string nm, .slice (some ⟨gg, 0, none⟩) (al.length + 1) gcap], .int .i64 ((k : Int) + 1), .int .i64 21]) ?_ rfl ?_
              · simp [results, Tryd.results45, go_sem, x0, x1]
              · exact def_bad (k := k + 1) hbE (by decide) HGE.out
            · have hk1 := isB_lt hq8
              have HGN : Hid (gfin s ⟨0, ts⟩ (L.drop i) = gfin s ⟨4, ts ++ [(nm, al1)]⟩ (L.drop (k + 2))) := Lib.hid (by rw [HG7.out, st_mark HA.out hq8 (by decide) (gmark_comma rfl rfl)])
              clear hq8
              go_wp2_with fail
              go_roundw
              case rel => exact ⟨k + 2, 4, al1, _, gcap, by go_num, by omega, by omega, hal1, Lib.hid (Or.inr rfl), Lib.hid (fun h => by cases h), HGN, hb11, hz11, BR11, BTY, HO11⟩
              case measure => simp [intOf]; omega
          · have hk1 := isB_lt hq7
            have HGN : Hid (gfin s ⟨0, ts⟩ (L.drop i) = gfin s ⟨0, ts ++ [(nm, al1)]⟩ (L.drop (k + 2))) := Lib.hid (by rw [HG7.out, st_mark HA.out hq7 (by decide) (gmark_close rfl (Or.inr rfl))])
            clear hq7
            have r0 := blk_cell (j := 0) BR10.out rfl
            have r1 := blk_cell (j := 1) BR10.out rfl
            have q0 := blk_cell (j := 0) BT10.out rfl
            have q1 := blk_cell (j := 1) BT10.out rfl
            have f0 := blk_free BR10.out 0
            have f1 := blk_free BR10.out 1
            have x0 : ((w10.setCell ⟨w.heap.size, 0, none⟩ (.string nm)).setCell ⟨w.heap.size, 1, none⟩ (.slice (some ⟨gg, 0, none⟩) (al.length + 1) gcap)).cell? ⟨w.heap.size, 0, none⟩ = some (.string nm) := blk_cell (blk_set (blk_set BR10.out 0 (.string nm)) 1 (.slice (some ⟨gg, 0, none⟩) (al.length + 1) gcap)) rfl
            have x1 : ((w10.setCell ⟨w.heap.size, 0, none⟩ (.string nm)).setCell ⟨w.heap.size, 1, none⟩ (.slice (some ⟨gg, 0, none⟩) (al.length + 1) gcap)).cell? ⟨w.heap.size, 1, none⟩ = some (.slice (some ⟨gg, 0, none⟩) (al.length + 1) gcap) := blk_cell (blk_set (blk_set BR10.out 0 (.string nm)) 1 (.slice (some ⟨gg, 0, none⟩) (al.length + 1) gcap)) rfl
            have hbE : Below w.heap.size w ((w10.setCell ⟨w.heap.size, 0, none⟩ (.string nm)).setCell ⟨w.heap.size, 1, none⟩ (.slice (some ⟨gg, 0, none⟩) (al.length + 1) gcap)) := (hb10.setCell (Nat.le_refl _) _).setCell (Nat.le_refl _) _
            go_wp2_with fail
            refine bodyPost_ret (v := .tuple #[.agg #[.string nm, .slice (some ⟨gg, 0, none⟩) (al.length + 1) gcap], .int .i64 ((k : Int) + 2), .int .i64 0]) ?_ rfl ?_
            · simp [results, Tryd.results45, go_sem, x0, x1]
            · exact def_ok (k := k + 2) (al := al1) hbE hl1.symm (by omega) (by omega) hts h16 hal1 (own_blk (own_blk HO10.out BR10.out (by decide) 0 _) (blk_set BR10.out 0 _) (by decide) 1 _) HGN.out
        · have hz' : (attrE s L k al != 0) = true := by rw [bne_iff_ne]; exact hq5
          have HGE : Hid (gfin s ⟨0, ts⟩ (L.drop i) = ⟨attrE s L k al, placeN s L k, []⟩) := by
            refine Lib.hid ?_
            rw [HG.out]
            cases hw : wordB s L k
            · rw [attrE, if_neg (by rw [hw]; simp)]
              exact stA_no HWT.out HA.out HCL.out hw
            · have e : attrE s L k al = gattr al (wdAt s L k) := if_pos hw
              rw [e] at hq5 ⊢
              exact stA_bad HWT.out HA.out hw rfl hq5
          generalize attrE s L k al = ne at *
          have r0 := blk_cell (j := 0) BR7.out rfl
          have r1 := blk_cell (j := 1) BR7.out rfl
          have q0 := blk_cell (j := 0) BT7.out rfl
          have q1 := blk_cell (j := 1) BT7.out rfl
          have f0 := blk_free BR7.out 0
          have f1 := blk_free BR7.out 1
          have x0 : ((w7.setCell ⟨w.heap.size, 0, none⟩ (.string nm)).setCell ⟨w.heap.size, 1, none⟩ (.slice aA al.length ac)).cell? ⟨w.heap.size, 0, none⟩ = some (.string nm) := blk_cell (blk_set (blk_set BR7.out 0 (.string nm)) 1 (.slice aA al.length ac)) rfl
          have x1 : ((w7.setCell ⟨w.heap.size, 0, none⟩ (.string nm)).setCell ⟨w.heap.size, 1, none⟩ (.slice aA al.length ac)).cell? ⟨w.heap.size, 1, none⟩ = some (.slice aA al.length ac) := blk_cell (blk_set (blk_set BR7.out 0 (.string nm)) 1 (.slice aA al.length ac)) rfl
          have hbE : Below w.heap.size w ((w7.setCell ⟨w.heap.size, 0, none⟩ (.string nm)).setCell ⟨w.heap.size, 1, none⟩ (.slice aA al.length ac)) := (hb7.setCell (Nat.le_refl _) _).setCell (Nat.le_refl _) _
          go_wp2_with fail
          refine bodyPost_ret (v := .tuple #[.agg #[.string nm, .slice aA al.length ac], .int .i64 k, .int .i64 ne]) ?_ rfl ?_
          · simp [results, Tryd.results45, go_sem, x0, x1]
          · exact def_bad hbE hq5 HGE.out
    · have hi3 := isB_lt hq4
      have HG3 : Hid (gfin s ⟨0, ts⟩ (L.drop i) = gfin s ⟨0, ts ++ [(nm, [])]⟩ (L.drop (i + 4))) := Lib.hid (by rw [HG2.out, st_mark HA.out hq4 (by decide) (gmark_close rfl (Or.inl rfl))])
      clear hq4
      have r0 := blk_cell (j := 0) BR6.out rfl
      have r1 := blk_cell (j := 1) BR6.out rfl
      have q0 := blk_cell (j := 0) BT6.out rfl
      have q1 := blk_cell (j := 1) BT6.out rfl
      have f0 := blk_free BR6.out 0
      have f1 := blk_free BR6.out 1
      have x0 : ((w6.setCell ⟨w.heap.size, 0, none⟩ (.string nm)).setCell ⟨w.heap.size, 1, none⟩ (.slice none 0 0)).cell? ⟨w.heap.size, 0, none⟩ = some (.string nm) := blk_cell (blk_set (blk_set BR6.out 0 (.string nm)) 1 (.slice none 0 0)) rfl
      have x1 : ((w6.setCell ⟨w.heap.size, 0, none⟩ (.string nm)).setCell ⟨w.heap.size, 1, none⟩ (.slice none 0 0)).cell? ⟨w.heap.size, 1, none⟩ = some (.slice none 0 0) := blk_cell (blk_set (blk_set BR6.out 0 (.string nm)) 1 (.slice none 0 0)) rfl
      have hbE : Below w.heap.size w ((w6.setCell ⟨w.heap.size, 0, none⟩ (.string nm)).setCell ⟨w.heap.size, 1, none⟩ (.slice none 0 0)) := (hb6.setCell (Nat.le_refl _) _).setCell (Nat.le_refl _) _
      go_wp2_with fail
      refine bodyPost_ret (v := .tuple #[.agg #[.string nm, .slice none 0 0], .int .i64 ((i : Int) + 4), .int .i64 0]) ?_ rfl ?_
      · simp [results, Tryd.results45, go_sem, x0, x1]
      · exact def_ok (k := i + 4) (al := []) hbE rfl (by omega) (by omega) hts h16 (by decide) (World.ownsRow_nil _ _ _ _) HG3.out
  · have hz : (nameE s L (i + 1) ts != 0) = true := by rw [bne_iff_ne]; exact hq1
    have HG : Hid (gfin s ⟨0, ts⟩ (L.drop i) = ⟨nameE s L (i + 1) ts, placeN s L (i + 1), []⟩) := by
      refine Lib.hid ?_
      rw [HG0.out]
      cases hw : wordB s L (i + 1)
      · rw [nameE, if_neg (by rw [hw]; simp)]
        exact st1_no HA.out hw
      · have e : nameE s L (i + 1) ts = gname ts (wdAt s L (i + 1)) := if_pos hw
        rw [e] at hq1 ⊢
        exact st1_bad HA.out hw rfl hq1
    generalize nameE s L (i + 1) ts = ne at *
    have r0 := blk_cell (j := 0) BR3.out rfl
    have r1 := blk_cell (j := 1) BR3.out rfl
    have q0 := blk_cell (j := 0) BT3.out rfl
    have q1 := blk_cell (j := 1) BT3.out rfl
    have f0 := blk_free BR3.out 0
    have f1 := blk_free BR3.out 1
    have x0 : ((w3.setCell ⟨w.heap.size, 0, none⟩ (.string ⟨#[]⟩)).setCell ⟨w.heap.size, 1, none⟩ (.slice none 0 0)).cell? ⟨w.heap.size, 0, none⟩ = some (.string ⟨#[]⟩) := blk_cell (blk_set (blk_set BR3.out 0 (.string ⟨#[]⟩)) 1 (.slice none 0 0)) rfl
    have x1 : ((w3.setCell ⟨w.heap.size, 0, none⟩ (.string ⟨#[]⟩)).setCell ⟨w.heap.size, 1, none⟩ (.slice none 0 0)).cell? ⟨w.heap.size, 1, none⟩ = some (.slice none 0 0) := blk_cell (blk_set (blk_set BR3.out 0 (.string ⟨#[]⟩)) 1 (.slice none 0 0)) rfl
    have hbE : Below w.heap.size w ((w3.setCell ⟨w.heap.size, 0, none⟩ (.string ⟨#[]⟩)).setCell ⟨w.heap.size, 1, none⟩ (.slice none 0 0)) := (hb3.setCell (Nat.le_refl _) _).setCell (Nat.le_refl _) _
    go_wp2_with fail
    refine bodyPost_ret (v := .tuple #[.agg #[.string ⟨#[]⟩, .slice none 0 0], .int .i64 ((i : Int) + 1), .int .i64 ne]) ?_ rfl ?_
    · simp [results, Tryd.results45, go_sem, x0, x1]
    · exact def_bad (k := i + 1) hbE hq1 HG.out
end Go.Proofs.YtppeonlpocdhkaaDoor

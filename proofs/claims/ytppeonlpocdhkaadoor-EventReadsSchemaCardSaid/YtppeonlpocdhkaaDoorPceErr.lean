/-
  The walks of the reference's attribute and named.
-/
import Derived.Test.YtppeonlpocdhkaaDoorPceFns
set_option linter.unusedSimpArgs false
set_option linter.unusedVariables false
namespace Go.Proofs.YtppeonlpocdhkaaDoor
open Go.RowKit Go.ChangeShapes Go.WideShapes Go.ChangeAt Go.Deep Go.Joins
section
variable {s wd : ByteArray} {L : List Pce} {i : Nat} {ts : TList} {l : List ByteArray}
theorem wd_pos (ha : AllOk s L) (hi : i < L.length) : 0 < (wdAt s L i).size := by
  have h := ha i hi
  have h1 := h.lt
  have h2 := h.le
  rw [wdAt, ByteArray.size_extract]
  omega
theorem nm_name (h : digI (first0 wd).toNat = false) (h1 : nameB wd = false) : gname ts wd = 22 := by unfold gname; rw [if_neg (by rw [h]; simp), if_pos h1]
theorem nm_twice (h : digI (first0 wd).toNat = false) (h1 : nameB wd = true) (h2 : inB ts.length (nmOf ts) wd = true) : gname ts wd = 25 := by unfold gname; rw [if_neg (by rw [h]; simp), if_neg (by rw [h1]; simp), if_pos h2]
theorem nm_ok (h : digI (first0 wd).toNat = false) (h1 : nameB wd = true) (h2 : inB ts.length (nmOf ts) wd = false) : gname ts wd = 0 := by unfold gname; rw [if_neg (by rw [h]; simp), if_neg (by rw [h1]; simp), if_neg (by rw [h2]; simp)]
theorem at_many (h : digI (first0 wd).toNat = false) (h1 : l.length = 8) : gattr l wd = 24 := by unfold gattr; rw [if_neg (by rw [h]; simp), if_pos h1]
theorem at_name (h : digI (first0 wd).toNat = false) (h1 : ¬ l.length = 8) (h2 : nameB wd = false ∨ (wd.toList == [116, 115]) = true) : gattr l wd = 22 := by unfold gattr; rw [if_neg (by rw [h]; simp), if_neg h1, if_pos h2]
theorem at_twice (h : digI (first0 wd).toNat = false) (h1 : ¬ l.length = 8) (h2 : nameB wd = true) (h3 : (wd.toList == [116, 115]) = false) (h4 : inB l.length (fun j => l.getD j .empty) wd = true) : gattr l wd = 25 := by
  unfold gattr; rw [if_neg (by rw [h]; simp), if_neg h1, if_neg (by rw [h2, h3]; simp), if_pos h4]
theorem at_ok (h : digI (first0 wd).toNat = false) (h1 : ¬ l.length = 8) (h2 : nameB wd = true) (h3 : (wd.toList == [116, 115]) = false) (h4 : inB l.length (fun j => l.getD j .empty) wd = false) : gattr l wd = 0 := by
  unfold gattr; rw [if_neg (by rw [h]; simp), if_neg h1, if_neg (by rw [h2, h3]; simp), if_neg (by rw [h4]; simp)]
/-- What attribute says. -/
def attrE (s : ByteArray) (L : List Pce) (i : Nat) (l : List ByteArray) : Int := if wordB s L i = true then gattr l (wdAt s L i) else 21
def nameE (s : ByteArray) (L : List Pce) (i : Nat) (ts : TList) : Int := if wordB s L i = true then gname ts (wdAt s L i) else 21
end
set_option maxRecDepth 100000 in
set_option maxHeartbeats 4000000 in
theorem named_any (s : ByteArray) (hs : s.size ≤ 4096) (A : Option Addr) (cap : Nat) (L : List Pce) (i : Nat) (tA : Option Addr) (tc : Nat) (ts : TList) (w : World) (h : PRd w A L) (ha : AllOk s L) (hl : L.length ≤ 4096) (ht : TypRd w w.heap.size tA (schOf ts))
    {tt : TypeId} {fr : Nat × Nat} (hkw : w.heap[0]? = some (.cells kwArr tt fr)) :
    Calls Tryd.prog 66 #[.string s, .slice A L.length cap, .int .i64 i, .slice tA ts.length tc] w fun e w' => e = .returned (.int .i64 (nameE s L i ts)) ∧ Below w.heap.size w w' := by
  have HP := Lib.hid h
  have HT := Lib.hid ht
  have HA := Lib.hid ha
  have HK := Lib.hid hkw
  have hn : ts.length * 40 ≤ 140737488351232 := ht.1
  cases hw : wordB s L i
  · have HE : Hid (nameE s L i ts = 21) := Lib.hid (if_neg (by rw [hw]; simp))
    clear h ht ha hkw
    have HW := Lib.hid hw
    clear hw
    go_enter Tryd.func66, Tryd.ntmps66
    go_wp2_with fail
    refine (wordAt_any s hs A cap L i _ HP.out HA.out hl).mono ?_
    rintro e w3 ⟨rfl, hb3⟩
    rw [HW.out]
    go_wp2_with fail
    go_ret
    exact ⟨by rw [HE.out]; rfl, hb3⟩
  · have HE : Hid (nameE s L i ts = gname ts (wdAt s L i)) := Lib.hid (if_pos hw)
    have hi := wordB_lt hw
    have hd := (is_word ha hw).2
    have hps := wd_pos ha hi
    obtain ⟨b, off, rfl, hb, c0, c1, c2⟩ := PRd.at_ h hi
    have hok := ha i hi
    have e1 := hok.lt
    have e2 := hok.le
    have HW := Lib.hid hw
    have HWD : Hid (s.extract (gp L i).a (gp L i).z = wdAt s L i) := Lib.hid rfl
    have HDG := Lib.hid hd
    clear h ht ha hkw hw hd hok c2
    go_enter Tryd.func66, Tryd.ntmps66
    go_wp2_with fail
    refine (wordAt_any s hs _ cap L i _ HP.out HA.out hl).mono ?_
    rintro e w3 ⟨rfl, hb3⟩
    rw [HW.out]
    have d0 := rd_later c0 hb3
    have d1 := rd_later c1 hb3
    have HT3 := Lib.hid (HT.out.later hb3)
    clear c0 c1
    generalize hw0 : wdAt s L i = wd at *
    generalize gp L i = p at *
    clear hw0
    go_wp2_with fail
    go_quiet (fail)
    rw [HWD.out]
    rename_i nq
    have hb4 := bdrewN hb3 nq
    have HT4 := Lib.hid (show TypRd (w3.drewN nq) (w3.drewN nq).heap.size tA (schOf ts) from HT3.out)
    generalize w3.drewN nq = w4 at *
    clear d0 d1 HWD
    cases hn1 : nameB wd
    · have HN := Lib.hid (nm_name (ts := ts) HDG.out hn1)
      have HNB := Lib.hid hn1
      clear hn1
      go_wp2_with fail
      refine (refIsName_any wd _ (block_below HK.out hb4)).mono ?_
      rintro e w5 ⟨rfl, rfl⟩
      rw [HNB.out]
      go_wp2_with fail
      go_ret
      exact ⟨by rw [HE.out, HN.out]; rfl, hb4⟩
    · have HNB := Lib.hid hn1
      clear hn1
      go_wp2_with fail
      refine (refIsName_any wd _ (block_below HK.out hb4)).mono ?_
      rintro e w5 ⟨rfl, rfl⟩
      rw [HNB.out]
      go_wp2_with fail
      go_loopw [10] (fun v wr => ∃ k : Nat, k ≤ ts.length ∧ v = .int .i64 k ∧ Hid (∀ j, j < k → ((nmOf ts j).toList == wd.toList) = false) ∧ ∃ q, wr = w5.drewN q) (fun v _ => ts.length - (intOf v).toNat)
      case atStart => exact ⟨0, Nat.zero_le _, rfl, Lib.hid none_zero, 0, rfl⟩
      case round =>
        obtain ⟨k, hk, rfl, HN, q, rfl⟩ := hrel
        by_cases hlt : k < ts.length
        · obtain ⟨b2, off2, rfl, hbl2, hcs2⟩ := HT4.out.2 (by show ts.length ≠ 0; omega)
          obtain ⟨d1, _⟩ := hcs2 k hlt
          have d1 : (w5.drewN q).cell? ⟨b2, off2 + k * 2, none⟩ = some (.string (nmOf ts k)) := d1
          clear hcs2
          cases hp : ((nmOf ts k).toList == wd.toList)
          all_goals
            have HP2 := Lib.hid hp
            go_wp2_with fail
          · go_roundw
            case rel => exact ⟨k + 1, by omega, by go_num, Lib.hid (none_step (p := fun j => (nmOf ts j).toList == wd.toList) HN.out HP2.out), _, rfl⟩
            case measure => simp [intOf]; omega
          · have HNM := Lib.hid (nm_twice (ts := ts) HDG.out HNB.out (inB_hit hlt HP2.out))
            go_ret
            exact ⟨by rw [HE.out, HNM.out]; rfl, bdrewN hb4 _⟩
        · have HNM := Lib.hid (nm_ok (ts := ts) HDG.out HNB.out (inB_none (fun j hj => HN.out j (by omega))))
          go_wp2_with fail
          go_ret
          exact ⟨by rw [HE.out, HNM.out]; rfl, bdrewN hb4 _⟩
set_option maxRecDepth 100000 in
set_option maxHeartbeats 4000000 in
theorem attribute_any (s : ByteArray) (hs : s.size ≤ 4096) (A : Option Addr) (cap : Nat) (L : List Pce) (i : Nat) (tA : Option Addr) (tc : Nat) (al : List ByteArray) (w : World) (h : PRd w A L) (ha : AllOk s L) (hl : L.length ≤ 4096) (ht : StrRd w w.heap.size tA al.length (fun j => al.getD j .empty)) (hal : al.length ≤ 8)
    {tt : TypeId} {fr : Nat × Nat} (hkw : w.heap[0]? = some (.cells kwArr tt fr)) :
    Calls Tryd.prog 67 #[.string s, .slice A L.length cap, .int .i64 i, .slice tA al.length tc] w fun e w' => e = .returned (.int .i64 (attrE s L i al)) ∧ Below w.heap.size w w' := by
  have HP := Lib.hid h
  have HT := Lib.hid ht
  have HA := Lib.hid ha
  have HK := Lib.hid hkw
  cases hw : wordB s L i
  · have HE : Hid (attrE s L i al = 21) := Lib.hid (if_neg (by rw [hw]; simp))
    clear h ht ha hkw
    have HW := Lib.hid hw
    clear hw
    go_enter Tryd.func67, Tryd.ntmps67
    go_wp2_with fail
    refine (wordAt_any s hs A cap L i _ HP.out HA.out hl).mono ?_
    rintro e w3 ⟨rfl, hb3⟩
    rw [HW.out]
    go_wp2_with fail
    go_ret
    exact ⟨by rw [HE.out]; rfl, hb3⟩
  · have HE : Hid (attrE s L i al = gattr al (wdAt s L i)) := Lib.hid (if_pos hw)
    have hi := wordB_lt hw
    have hd := (is_word ha hw).2
    have hps := wd_pos ha hi
    obtain ⟨b, off, rfl, hb, c0, c1, c2⟩ := PRd.at_ h hi
    have hok := ha i hi
    have e1 := hok.lt
    have e2 := hok.le
    have HW := Lib.hid hw
    have HWD : Hid (s.extract (gp L i).a (gp L i).z = wdAt s L i) := Lib.hid rfl
    have HDG := Lib.hid hd
    clear h ht ha hkw hw hd hok c2
    go_enter Tryd.func67, Tryd.ntmps67
    go_wp2_with fail
    refine (wordAt_any s hs _ cap L i _ HP.out HA.out hl).mono ?_
    rintro e w3 ⟨rfl, hb3⟩
    rw [HW.out]
    have d0 := rd_later c0 hb3
    have d1 := rd_later c1 hb3
    have HT3 := Lib.hid (HT.out.later hb3)
    clear c0 c1
    generalize hw0 : wdAt s L i = wd at *
    generalize gp L i = p at *
    clear hw0
    go_wp2_with fail
    go_quiet (fail)
    rw [HWD.out]
    rename_i nq
    have hb4 := bdrewN hb3 nq
    have HT4 := Lib.hid (show StrRd (w3.drewN nq) (w3.drewN nq).heap.size tA al.length (fun j => al.getD j .empty) from HT3.out)
    generalize w3.drewN nq = w4 at *
    clear d0 d1 HWD
    by_cases h8 : al.length = 8
    · have HN := Lib.hid (at_many HDG.out h8)
      go_wp2_with fail
      go_ret
      exact ⟨by rw [HE.out, HN.out]; rfl, hb4⟩
    cases hn1 : nameB wd
    · have HN := Lib.hid (at_name (l := al) HDG.out h8 (Or.inl hn1))
      have HNB := Lib.hid hn1
      clear hn1
      go_wp2_with fail
      refine (refIsName_any wd _ (block_below HK.out hb4)).mono ?_
      rintro e w5 ⟨rfl, rfl⟩
      rw [HNB.out]
      go_wp2_with fail
      go_ret
      exact ⟨by rw [HE.out, HN.out]; rfl, hb4⟩
    · have HNB := Lib.hid hn1
      clear hn1
      cases hts : (wd.toList == [116, 115])
      · have HTS := Lib.hid hts
        go_wp2_with fail
        refine (refIsName_any wd _ (block_below HK.out hb4)).mono ?_
        rintro e w5 ⟨rfl, rfl⟩
        rw [HNB.out]
        go_wp2_with fail
        refine (refIn_any tA al.length tc (fun j => al.getD j .empty) wd _ HT4.out).mono ?_
        rintro e w6 ⟨rfl, rfl⟩
        cases hin : inB al.length (fun j => al.getD j .empty) wd
        · have HN := Lib.hid (at_ok HDG.out h8 HNB.out HTS.out hin)
          clear hin
          go_wp2_with fail
          go_ret
          exact ⟨by rw [HE.out, HN.out]; rfl, hb4⟩
        · have HN := Lib.hid (at_twice HDG.out h8 HNB.out HTS.out hin)
          clear hin
          go_wp2_with fail
          go_ret
          exact ⟨by rw [HE.out, HN.out]; rfl, hb4⟩
      · have HN := Lib.hid (at_name (l := al) HDG.out h8 (Or.inr hts))
        have HTS := Lib.hid hts
        go_wp2_with fail
        refine (refIsName_any wd _ (block_below HK.out hb4)).mono ?_
        rintro e w5 ⟨rfl, rfl⟩
        rw [HNB.out]
        go_wp2_with fail
        go_ret
        exact ⟨by rw [HE.out, HN.out]; rfl, hb4⟩
end Go.Proofs.YtppeonlpocdhkaaDoor

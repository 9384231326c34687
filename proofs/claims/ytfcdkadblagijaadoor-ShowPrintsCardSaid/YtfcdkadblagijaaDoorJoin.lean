/-
  The walks of lex.Spell and lex.Join.
-/
import Derived.Test.YtfcdkadblagijaaDoorWriter2
import Derived.Test.YtfcdkadblagijaaDoorKwVar
import Derived.Test.YtfcdkadblagijaaDoorMem
import Derived.Lib.AppendStr
set_option linter.unusedSimpArgs false
set_option linter.unusedVariables false
namespace Go.Proofs.YtfcdkadblagijaaDoor
open Go.RowKit Go.ChangeShapes Go.WideShapes Go.ChangeAt Go.Deep Go.Joins
def spelL : List (List UInt8) := [[], [], [], [40], [41], [123], [125], [44], [46], [33], [124], [43], [45], [42], [47], [37], [61], [33, 61], [60], [60, 61], [62], [62, 61]]
def spelAt (j : Nat) : ByteArray := ⟨(spelL.getD j []).toArray⟩
/-- The table of signs' spellings, where it is listed. -/
def SplV (w : World) : Prop := ∃ t fr, w.heap[6]? = some (.cells (spelL.map fun s => Value.string ⟨s.toArray⟩).toArray t fr)
theorem SplV.later {w w' : World} (h : SplV w) (hb : Below w.heap.size w w') : SplV w' := by obtain ⟨t, fr, h⟩ := h; exact ⟨t, fr, blk_below h hb⟩
theorem SplV.cell {w : World} (h : SplV w) {j : Nat} (hj : j < 22) : w.cell? ⟨6, j, none⟩ = some (.string (spelAt j)) := by
  obtain ⟨t, fr, h⟩ := h
  refine blk_cell h ?_
  have : j < spelL.length := hj
  simp [spelAt, List.getD_eq_getElem?_getD, this]
/-- How a token is spelt. -/
def spB (t : Tk) : ByteArray := if t.k = 1 then t.s else if t.k = 2 then ⟨(Lib.itoa t.n).toArray⟩ else if t.k ≤ 21 then spelAt t.k.toNat else kwAt (t.k - 30).toNat
/-- A token as they are written. -/
def TkOk (t : Tk) : Prop := (t.k = 1 ∨ t.k = 2 ∨ (3 ≤ t.k ∧ t.k ≤ 21) ∨ (30 ≤ t.k ∧ t.k ≤ 56)) ∧ I64 t.n ∧ (spB t).size ≤ 21
set_option maxRecDepth 100000 in
set_option maxHeartbeats 1000000 in
theorem spell_any (k n : Int) (s : ByteArray) (at_ : Int) (hk : k = 1 ∨ k = 2 ∨ (3 ≤ k ∧ k ≤ 21) ∨ (30 ≤ k ∧ k ≤ 56)) (hn : I64 n) (w : World) (hp : Pow w) (hs : SplV w) {tt : TypeId} {fr : Nat × Nat} (hkw : w.heap[2]? = some (.cells kwArr tt fr)) :
    Calls Tryd.prog 58 #[.agg #[.int .i64 k, .string s, .int .i64 n, .int .i64 at_]] w fun e w' => e = .returned (.string (spB ⟨k, s, n⟩)) ∧ Below w.heap.size w w' := by
  have HB := Lib.hid (bnew (Below.refl w.heap.size w) (.cells #[.int .i64 k, .string s, .int .i64 n, .int .i64 at_] 62))
  rcases hk with rfl | rfl | ⟨h1, h2⟩ | ⟨h1, h2⟩
  · go_enter Tryd.func58, Tryd.ntmps58
    go_wp2_with fail
    go_ret
    exact ⟨rfl, HB.out⟩
  · have HP := Lib.hid (hp.later HB.out)
    go_enter Tryd.func58, Tryd.ntmps58
    go_wp2_with fail
    refine (fmtInt_any n hn.1 hn.2 _ HP.out).mono ?_
    rintro e w1 ⟨rfl, hb1⟩
    go_wp2_with fail
    go_ret
    exact ⟨rfl, bcall HB.out hb1⟩
  · obtain ⟨j, rfl⟩ : ∃ j : Nat, k = (j : Int) := ⟨k.toNat, by omega⟩
    have HE := Lib.hid (show spB ⟨(j : Int), s, n⟩ = spelAt j by
      unfold spB
      rw [if_neg (by show ¬ (j : Int) = 1; omega), if_neg (by show ¬ (j : Int) = 2; omega), if_pos (by show (j : Int) ≤ 21; omega)]
      rfl)
    have q1 : ((j : Int) == 1) = false := by rw [beq_eq_false_iff_ne]; omega
    have q2 : ((j : Int) == 2) = false := by rw [beq_eq_false_iff_ne]; omega
    have hj : j < 22 := by omega
    have d0 := (hs.later HB.out).cell hj
    obtain ⟨x, hx⟩ : ∃ x, spelAt j = x := ⟨_, rfl⟩
    rw [hx] at HE d0
    clear hx hs hp hkw
    go_enter Tryd.func58, Tryd.ntmps58
    go_wp2_with fail
    go_ret
    exact ⟨by rw [HE.out]; rfl, HB.out⟩
  · obtain ⟨j, rfl⟩ : ∃ j : Nat, k = 30 + (j : Int) := ⟨(k - 30).toNat, by omega⟩
    have HE := Lib.hid (show spB ⟨30 + (j : Int), s, n⟩ = kwAt j by
      unfold spB
      rw [if_neg (by show ¬ 30 + (j : Int) = 1; omega), if_neg (by show ¬ 30 + (j : Int) = 2; omega), if_neg (by show ¬ 30 + (j : Int) ≤ 21; omega)]
      show kwAt (30 + (j : Int) - 30).toNat = _
      rw [show (30 + (j : Int) - 30).toNat = j by omega])
    have q1 : ((30 + (j : Int)) == 1) = false := by rw [beq_eq_false_iff_ne]; omega
    have q2 : ((30 + (j : Int)) == 2) = false := by rw [beq_eq_false_iff_ne]; omega
    have hj : j < 27 := by omega
    have hsub : 30 + (j : Int) - 30 = (j : Int) := by omega
    have d0 := kwArr_cell (block_below hkw HB.out) j hj
    obtain ⟨x, hx⟩ : ∃ x, kwAt j = x := ⟨_, rfl⟩
    rw [hx] at HE d0
    clear hx hs hp hkw
    go_enter Tryd.func58, Tryd.ntmps58
    go_wp2_with fail
    go_ret
    exact ⟨by rw [HE.out]; rfl, HB.out⟩
/-- The tokens' text: a blank between each two. -/
def joinB : List Tk → List UInt8
  | [] => []
  | [t] => (spB t).data.toList
  | t :: r => (spB t).data.toList ++ 32 :: joinB r
theorem joinB_cons (t : Tk) {r : List Tk} (h : r ≠ []) : joinB (t :: r) = (spB t).data.toList ++ 32 :: joinB r := by
  cases r with
  | nil => exact absurd rfl h
  | cons x r => rfl
theorem joinB_append : ∀ {L M : List Tk}, L ≠ [] → M ≠ [] → joinB (L ++ M) = joinB L ++ 32 :: joinB M
  | [], _, h, _ => absurd rfl h
  | [t], M, _, hM => joinB_cons t hM
  | t :: x :: L, M, _, hM => by
    rw [List.cons_append, joinB_cons t (by simp), joinB_cons t (by simp), joinB_append (L := x :: L) (by simp) hM]
    simp
theorem joinB_snoc (L : List Tk) (t : Tk) : joinB (L ++ [t]) = (if L = [] then [] else joinB L ++ [32]) ++ (spB t).data.toList := by
  by_cases h : L = []
  · subst h; rfl
  · rw [if_neg h, joinB_append h (by simp)]
    simp [joinB]
theorem joinB_len : ∀ {L : List Tk}, (∀ t ∈ L, (spB t).size ≤ 21) → (joinB L).length ≤ 22 * L.length
  | [], _ => by simp [joinB]
  | [t], h => by
    have := h t (by simp)
    simp only [joinB, List.length_cons, List.length_nil, ByteArray.size] at this ⊢
    simp only [Array.length_toList]
    omega
  | t :: x :: L, h => by
    have h1 := h t (by simp)
    have h2 := joinB_len (L := x :: L) (fun u hu => h u (by simp [hu]))
    rw [joinB_cons t (by simp)]
    simp only [List.length_append, List.length_cons, ByteArray.size, Array.length_toList] at h1 h2 ⊢
    omega
theorem byteCells_app (xs ys : List UInt8) : byteCells (xs ++ ys) = byteCells xs ++ byteCells ys := List.map_append
theorem strCells_byte (s : ByteArray) : byteCells s.data.toList = Lib.strCells s := rfl
theorem lenB (s : ByteArray) : s.data.toList.length = s.size := Array.length_toList
theorem infoU8 : (Tryd.prog.info? 5).map (fun i => (i.zero, i.size, i.bytes)) = some (some (.int .u8 0), 1, 1) := by kernel_rfl
/-- A list of tokens that can be read. -/
def TkList (w : World) (A : Option Addr) (L : List Tk) : Prop := ∀ j t, L[j]? = some t → ∃ b off, A = some ⟨b, off, none⟩ ∧ w.cell? ⟨b, off + j * 4, none⟩ = some (.int .i64 t.k) ∧ w.cell? ⟨b, off + j * 4 + 1, none⟩ = some (.string t.s) ∧ w.cell? ⟨b, off + j * 4 + 2, none⟩ = some (.int .i64 t.n) ∧ w.cell? ⟨b, off + j * 4 + 3, none⟩ = some (.int .i64 0)
set_option maxRecDepth 100000 in
set_option maxHeartbeats 2000000 in
theorem join_any (L : List Tk) (A : Option Addr) (c : Nat) (w : World) (hR : TkList w A L) (hok : ∀ t ∈ L, TkOk t) (hl : L.length ≤ 100000) (hp : Pow w) (hs : SplV w) {tt : TypeId} {fr : Nat × Nat} (hkw : w.heap[2]? = some (.cells kwArr tt fr)) :
    Calls Tryd.prog 46 #[.slice A L.length c] w fun e w' => e = .returned (.string ⟨(joinB L).toArray⟩) ∧ Below w.heap.size w w' := by
  obtain ⟨i0, hi0, hz0, hz1, hz2⟩ := info_parts infoU8
  have HR := Lib.hid hR
  have HOK := Lib.hid hok
  have PW := Lib.hid hp
  have SP := Lib.hid hs
  have HK := Lib.hid hkw
  have HLE : Hid (∀ k, (joinB (L.take k)).length ≤ 22 * L.length) := Lib.hid fun k => by
    have h1 := joinB_len (L := L.take k) (fun t ht => (hok t (List.mem_of_mem_take ht)).2.2)
    have h2 : (L.take k).length ≤ L.length := by rw [List.length_take]; omega
    omega
  clear hR hok hp hs hkw
  go_enter Tryd.func46, Tryd.ntmps46
  go_wp2_with fail
  go_loopw [3, 8] (fun o i wr => ∃ (k : Nat) (ov : Value), k ≤ L.length ∧ i = .int .i64 k ∧ ov = o ∧ Below w.heap.size w wr ∧ Hid (wr.ownsRow w.heap.size 5 1 ov (joinB (L.take k)).length (byteCells (joinB (L.take k))))) (fun _ i _ => L.length - (intOf i).toNat)
  case atStart => exact ⟨0, .slice none 0 0, Nat.zero_le _, rfl, rfl, Below.refl _ _, Lib.hid (World.ownsRow_nil _ _ _ _)⟩
  case round =>
    obtain ⟨k, ov, hk, rfl, rfl, hb, HO⟩ := hrel
    obtain ⟨W1, e1⟩ : ∃ W1 : World, W1 = wr := ⟨_, rfl⟩
    subst e1
    by_cases hlt : k < L.length
    · obtain ⟨t, ht⟩ : ∃ t, L[k]? = some t := ⟨_, List.getElem?_eq_getElem hlt⟩
      obtain ⟨b, off, rfl, c0, c1, c2, c3⟩ := HR.out k t ht
      obtain ⟨hok1, hok2, hok3⟩ := HOK.out t (List.mem_of_getElem? ht)
      have HT := Lib.hid ht
      obtain ⟨tk, ts, tn⟩ := t
      dsimp only at c0 c1 c2 c3 hok1 hok2
      have d0 := (hb.cell (p := ⟨b, off + k * 4, none⟩) (cell_lt c0)).trans c0
      have d1 := (hb.cell (p := ⟨b, off + k * 4 + 1, none⟩) (cell_lt c1)).trans c1
      have d2 := (hb.cell (p := ⟨b, off + k * 4 + 2, none⟩) (cell_lt c2)).trans c2
      have d3 := (hb.cell (p := ⟨b, off + k * 4 + 3, none⟩) (cell_lt c3)).trans c3
      have hjl := HLE.out k
      have hle0 := hb.size
      clear c0 c1 c2 c3 ht
      have B1 := Lib.hid (blk_new W1 #[.int .i64 tk, .string ts, .int .i64 tn, .int .i64 0] 62)
      have hb1 := bnew hb (.cells #[.int .i64 tk, .string ts, .int .i64 tn, .int .i64 0] 62)
      have O1 := Lib.hid (rowown_below HO.out (bnew (Below.refl _ _) (.cells #[.int .i64 tk, .string ts, .int .i64 tn, .int .i64 0] 62)))
      obtain ⟨nb, hnb⟩ : ∃ nb, W1.heap.size = nb := ⟨_, rfl⟩
      rw [hnb] at B1 hle0
      obtain ⟨oA, oc, rfl, _⟩ := rowown_shape O1.out
      go_upto_region 5 with fail
      try rw [hnb]
      clear hnb HO d0 d1 d2 d3
      generalize W1.alloc _ = w1 at *
      by_cases hk0 : k = 0
      · have HTN := Lib.hid (show L.take k = [] by rw [hk0]; rfl)
        have hkz : k ≤ 0 := by omega
        clear hk0
        have hb2 := hb1
        have O2 := O1
        obtain ⟨z0, z1, z2, z3⟩ : w1.cell? ⟨nb, 0, none⟩ = some (.int .i64 tk) ∧ w1.cell? ⟨nb, 1, none⟩ = some (.string ts) ∧ w1.cell? ⟨nb, 2, none⟩ = some (.int .i64 tn) ∧ w1.cell? ⟨nb, 3, none⟩ = some (.int .i64 0) := ⟨blk_cell B1.out rfl, blk_cell B1.out rfl, blk_cell B1.out rfl, blk_cell B1.out rfl⟩
        go_wp2_with fail
        refine (spell_any tk tn ts 0 hok1 hok2 _ (PW.out.later hb2) (SP.out.later hb2) (block_below HK.out hb2)).mono ?_
        rintro e w3 ⟨rfl, hb3⟩
        have O3 := Lib.hid (rowown_below O2.out hb3)
        have hb3' := bcall hb2 hb3
        obtain ⟨sx, hsx⟩ : ∃ s, spB ⟨tk, ts, tn⟩ = s := ⟨_, rfl⟩
        rw [hsx] at hok3
        have HSX := Lib.hid hsx
        rw [hsx]
        clear hsx
        have hle := hb3'.size
        have hml : (joinB (L.take k)).length + sx.size ≤ maxLen := by unfold maxLen; omega
        go_wp2_with (at_builtin; go_loud (refine Lib.wpList_append_own_string _ rfl _ _ _ _ rfl w.heap.size 5 i0 Tryd.underlying92 Tryd.underlying9 hi0 hz0 hz1 hz2 (.slice oA (joinB (L.take k)).length oc) _ (byteCells (joinB (L.take k))) rfl O3.out sx rfl hml (by omega) hle ?_; intro v9 w9 hown hg hiff))
        have hb9 := below_grown hb3' hg hle (fun x hx => (O3.out.lt x hx).1)
        have HN := Lib.hid (show w9.ownsRow w.heap.size 5 1 v9 (joinB (L.take (k + 1))).length (byteCells (joinB (L.take (k + 1)))) by
          have e1 : joinB (L.take (k + 1)) = joinB (L.take k) ++ sx.data.toList := by
            rw [List.take_add_one, HT.out]
            show joinB (L.take k ++ [⟨tk, ts, tn⟩]) = _
            rw [joinB_snoc, HSX.out, if_pos HTN.out, HTN.out, show joinB [] = [] from rfl]
          have e2 : (joinB (L.take (k + 1))).length = (joinB (L.take k)).length + sx.size := by rw [e1, List.length_append, lenB]; first | done | (rw [List.length_append]; rfl)
          rw [e2, e1]
          have e3 : byteCells (joinB (L.take k) ++ sx.data.toList) = byteCells (joinB (L.take k)) ++ Lib.strCells sx := by rw [byteCells_app, strCells_byte]; first | done | rfl | (rw [byteCells_app]; rfl)
          rw [e3]
          exact hown)
        clear hown
        go_roundw
        case rel => exact ⟨k + 1, _, by omega, by go_num, rfl, hb9, HN⟩
        case measure => simp [intOf]; omega
      · have hkp : 0 < k := by omega
        have HTN := Lib.hid (show L.take k ≠ [] by
          intro e
          have := congrArg List.length e
          rw [List.length_take, List.length_nil] at this
          omega)
        clear hk0
        have hle1 : w.heap.size ≤ w1.heap.size := hb1.size
        have hml0 : (joinB (L.take k)).length + 1 ≤ maxLen := by unfold maxLen; omega
        go_upto_region 7 with (at_builtin; go_loud (refine wpList_append_lies _ rfl _ _ _ rfl w.heap.size 5 i0 _ 1 1 Tryd.underlying92 hi0 hz0 hz1 hz2 rfl (by omega) (.slice oA (joinB (L.take k)).length oc) _ (byteCells (joinB (L.take k))) rfl (rowown_below O1.out (bnew (Below.refl _ _) _)) ⟨w1.heap.size, 0, none⟩ 1 1 [.int .u8 32] rfl rfl (World.news_of_block (cs := #[.int .u8 32]) (t := 5) (fr := (0, 0)) (heap_alloc_new w1 _)) (by simp [Value.oneCell']) (by omega) hml0 (by omega) (by rw [World.size_alloc]; omega) (w1.heap.size + 1) (by simp) ?_; intro gg gcap w2 hown0 hg0 hat0 hlt0))
        have hb2 := below_grown (bnew hb1 (.cells #[.int .u8 32] 5)) hg0 (by rw [World.size_alloc]; omega) (fun x hx => (O1.out.lt x hx).1)
        have B2 := Lib.hid (blk_grown (blk_alloc B1.out (.cells #[.int .u8 32] 5)) hg0 (fun e => by
          obtain ⟨cc, fz, h1⟩ := Lib.ownsRow_kind O1.out nb e
          rw [B1.out] at h1
          injection h1 with h1
          injection h1 with _ h1
          exact absurd h1 (by decide)))
        have O2 := Lib.hid hown0
        obtain ⟨z0, z1, z2, z3⟩ : w2.cell? ⟨nb, 0, none⟩ = some (.int .i64 tk) ∧ w2.cell? ⟨nb, 1, none⟩ = some (.string ts) ∧ w2.cell? ⟨nb, 2, none⟩ = some (.int .i64 tn) ∧ w2.cell? ⟨nb, 3, none⟩ = some (.int .i64 0) := ⟨blk_cell B2.out rfl, blk_cell B2.out rfl, blk_cell B2.out rfl, blk_cell B2.out rfl⟩
        clear hown0 hg0 hat0
        go_wp2_with fail
        refine (spell_any tk tn ts 0 hok1 hok2 _ (PW.out.later hb2) (SP.out.later hb2) (block_below HK.out hb2)).mono ?_
        rintro e w3 ⟨rfl, hb3⟩
        have O3 := Lib.hid (rowown_below O2.out hb3)
        have hb3' := bcall hb2 hb3
        obtain ⟨sx, hsx⟩ : ∃ s, spB ⟨tk, ts, tn⟩ = s := ⟨_, rfl⟩
        rw [hsx] at hok3
        have HSX := Lib.hid hsx
        rw [hsx]
        clear hsx
        have hle := hb3'.size
        have hml : ((joinB (L.take k)).length + 1) + sx.size ≤ maxLen := by unfold maxLen; omega
        go_wp2_with (at_builtin; go_loud (refine Lib.wpList_append_own_string _ rfl _ _ _ _ rfl w.heap.size 5 i0 Tryd.underlying92 Tryd.underlying9 hi0 hz0 hz1 hz2 (.slice (some ⟨gg, 0, none⟩) ((joinB (L.take k)).length + 1) gcap) _ ((byteCells (joinB (L.take k)) ++ [.int .u8 32])) rfl O3.out sx rfl hml (by omega) hle ?_; intro v9 w9 hown hg hiff))
        have hb9 := below_grown hb3' hg hle (fun x hx => (O3.out.lt x hx).1)
        have HN := Lib.hid (show w9.ownsRow w.heap.size 5 1 v9 (joinB (L.take (k + 1))).length (byteCells (joinB (L.take (k + 1)))) by
          have e1 : joinB (L.take (k + 1)) = (joinB (L.take k) ++ [32]) ++ sx.data.toList := by
            rw [List.take_add_one, HT.out]
            show joinB (L.take k ++ [⟨tk, ts, tn⟩]) = _
            rw [joinB_snoc, HSX.out, if_neg HTN.out]
          have e2 : (joinB (L.take (k + 1))).length = ((joinB (L.take k)).length + 1) + sx.size := by rw [e1, List.length_append, lenB]; first | done | (rw [List.length_append]; rfl)
          rw [e2, e1]
          have e3 : byteCells ((joinB (L.take k) ++ [32]) ++ sx.data.toList) = (byteCells (joinB (L.take k)) ++ [.int .u8 32]) ++ Lib.strCells sx := by rw [byteCells_app, strCells_byte]; first | done | rfl | (rw [byteCells_app]; rfl)
          rw [e3]
          exact hown)
        clear hown
        go_roundw
        case rel => exact ⟨k + 1, _, by omega, by go_num, rfl, hb9, HN⟩
        case measure => simp [intOf]; omega
    · obtain rfl : k = L.length := by omega
      replace HO := Lib.hid (show W1.ownsRow w.heap.size 5 1 ov (joinB L).length (byteCells (joinB L)) by have := HO.out; rwa [List.take_length] at this)
      obtain ⟨jn, hjn⟩ : ∃ n, (joinB L).length = n := ⟨_, rfl⟩
      rw [hjn] at HO
      clear hjn
      obtain ⟨oA, oc, rfl, _⟩ := rowown_shape HO.out
      have hcv := run_string_own (P := Tryd.prog) W1 92 9 5 Tryd.underlying92 Tryd.underlying5 Tryd.underlying9 HO.out
      go_wp2_with fail
      go_ret
      exact ⟨rfl, hb⟩
end Go.Proofs.YtfcdkadblagijaaDoor

/-
  The walk of PrintSchema: the program's, over a builder.
-/
import Derived.Test.YtppeonlpocdhkaaDoorPrintSchemaRef
import Derived.Test.YtppeonlpocdhkaaDoorCheckSchema
import Derived.Test.YtppeonlpocdhkaaDoorSchemaCap
import Derived.Test.YtppeonlpocdhkaaDoorShelfBuilder
import Derived.Deep.RegionHeld3
import Derived.BigQuiet
import Derived.Handy
set_option linter.unusedSimpArgs false
namespace Go.Proofs.YtppeonlpocdhkaaDoor
open Go.RowKit Go.ChangeShapes Go.WideShapes Go.ChangeAt
/-- A builder stays one while nothing that was there turns. -/
theorem builder_below {T e : TypeId} {B b : Nat} {bs : List Value} {w w' : World} (h : Lib.IsBuilder T e B b bs w) (hb : Below w.heap.size w w') : Lib.IsBuilder T e B b bs w' := by
  have one : ∀ {p : Value}, Lib.BuilderAt T e B b p bs w → Lib.BuilderAt T e B b p bs w' := fun k => by
    have hlt := k.lt
    obtain ⟨hB, v, h1, h2, h3⟩ := k
    exact ⟨hB, v, (hb.block b hlt).trans h1, own_below h2 hb, h3⟩
  rcases h with h | h
  · exact Or.inl (one h)
  · exact Or.inr (one h)
/-- The first n attributes, joined. -/
def attrJoin (S : Sch) (i n : Nat) : List UInt8 := Lib.join (((List.range n).map (S.atr i)).map (·.data.toList)) [44, 32]
theorem attrJoin_zero (S : Sch) (i : Nat) : attrJoin S i 0 = [] := rfl
theorem attrJoin_one (S : Sch) (i : Nat) : attrJoin S i 1 = (S.atr i 0).data.toList := by simp [attrJoin, Lib.join_one]
theorem attrJoin_succ (S : Sch) (i n : Nat) : attrJoin S i (n + 2) = attrJoin S i (n + 1) ++ [44, 32] ++ (S.atr i (n + 1)).data.toList := by
  unfold attrJoin
  rw [List.range_succ, List.map_append, List.map_append]
  have hr : (List.range (n + 1)).map (S.atr i) = S.atr i 0 :: ((List.range n).map fun j => S.atr i (j + 1)) := by
    rw [List.range_succ_eq_map]; simp
  rw [hr]
  simp only [List.map_cons, List.cons_append, Lib.join_cons, Lib.joinTail]
  simp
theorem toList_append (a b : ByteArray) : (a ++ b).data.toList = a.data.toList ++ b.data.toList := by simp
theorem attrAcc_join (S : Sch) (i : Nat) (out : ByteArray) : ∀ n, attrAcc S i out n = out ++ (((⟨#[116, 121, 112, 101, 32]⟩ ++ S.nm i) ++ ⟨#[40]⟩) ++ ⟨(attrJoin S i n).toArray⟩)
  | 0 => by
    apply ByteArray.ext; apply Array.ext'
    simp [attrAcc, attrJoin_zero, List.append_assoc]
  | 1 => by
    apply ByteArray.ext; apply Array.ext'
    simp [attrAcc, attrJoin_one, List.append_assoc]
  | n + 2 => by
    apply ByteArray.ext; apply Array.ext'
    rw [attrAcc, attrAcc_join S i out (n + 1), attrJoin_succ]
    simp [List.append_assoc]
theorem attrJoin_size {S : Sch} {i n : Nat} (h : ∀ j, j < n → (S.atr i j).size ≤ 16) : (attrJoin S i n).length ≤ 18 * n := by
  induction n using Nat.strongRecOn with
  | _ n ih =>
    match n with
    | 0 => simp [attrJoin_zero]
    | 1 =>
      have := h 0 (by omega)
      rw [attrJoin_one]
      simpa using (by simp at this ⊢; omega : (S.atr i 0).data.toList.length ≤ 18)
    | n + 2 =>
      have h1 := ih (n + 1) (by omega) (fun j hj => h j (by omega))
      have h2 := h (n + 1) (by omega)
      rw [attrJoin_succ]
      have h3 : (S.atr i (n + 1)).data.toList.length ≤ 16 := by simpa using h2
      simp only [List.length_append, List.length_cons, List.length_nil]
      omega
/-- A definition's text. -/
def defText (S : Sch) (i : Nat) : ByteArray := (((⟨#[116, 121, 112, 101, 32]⟩ ++ S.nm i) ++ ⟨#[40]⟩) ++ ⟨(attrJoin S i (S.ln i)).toArray⟩) ++ ⟨#[41, 10]⟩
theorem defText_size {S : Sch} {i : Nat} (h1 : (S.nm i).size ≤ 16) (h2 : S.ln i ≤ 8) (h3 : ∀ j, j < S.ln i → (S.atr i j).size ≤ 16) : (defText S i).size ≤ 200 := by
  have e1 : (ByteArray.mk #[116, 121, 112, 101, 32]).size = 5 := rfl
  have e2 : (ByteArray.mk #[40]).size = 1 := rfl
  have e3 : (ByteArray.mk #[41, 10]).size = 2 := rfl
  have e4 : (ByteArray.mk (attrJoin S i (S.ln i)).toArray).size = (attrJoin S i (S.ln i)).length := rfl
  have h4 := attrJoin_size (S := S) (i := i) (n := S.ln i) h3
  simp only [defText, ByteArray.size_append, e1, e2, e3, e4]
  omega
theorem schAcc_next (S : Sch) (i : Nat) : schAcc S (i + 1) = schAcc S i ++ defText S i := by
  rw [schAcc, attrAcc_join, defText, ByteArray.append_assoc]
theorem join_any {w : World} {aa : Option Addr} {n ac : Nat} {f : Nat → ByteArray} (h : StrRd w w.heap.size aa n f) (hc : n ≤ ac) (hl : (Lib.join (((List.range n).map f).map (·.data.toList)) [44, 32]).length ≤ 140737488355328) {J : ByteArray} (hJ : J = ⟨(Lib.join (((List.range n).map f).map (·.data.toList)) [44, 32]).toArray⟩) :
    Calls Tryd.prog 39 #[.slice aa n ac, .string ⟨#[44, 32]⟩] w fun e w' => e = .returned (.string J) ∧ Below w.heap.size w w' := by
  subst hJ
  have h16 := h.1
  rcases Nat.eq_zero_or_pos n with h0 | h0
  · subst h0
    refine (Tryd.strings_Join_none aa ac ⟨#[44, 32]⟩ w).mono ?_
    rintro e w' ⟨rfl, rfl⟩
    exact ⟨rfl, Below.refl _ _⟩
  · obtain ⟨b, off, rfl, hb, hcs⟩ := h.2 (by omega)
    have hj := Tryd.strings_Join b off ac ((List.range n).map f) ⟨#[44, 32]⟩ w (fun j x hx => by
      rw [List.getElem?_map] at hx
      obtain ⟨k, hk, rfl⟩ := Option.map_eq_some_iff.1 hx
      have hj : j < n := by
        rcases Nat.lt_or_ge j n with h | h
        · exact h
        · rw [List.getElem?_eq_none (by simpa using h)] at hk; cases hk
      rw [List.getElem?_range hj] at hk
      injection hk with hk
      subst hk
      exact hcs j hj) hb (by simp; omega) (by simpa using hc) hl
    rw [List.length_map, List.length_range] at hj
    exact hj
theorem byteCells_text (a b : ByteArray) : Lib.byteCells (a ++ b).data.toList = Lib.byteCells a.data.toList ++ Lib.strCells b := by
  rw [toList_append, Lib.byteCells_append, Lib.strCells_eq]
set_option maxRecDepth 100000 in
set_option maxHeartbeats 1000000 in
theorem printSchema_any (A : Option Addr) (cap : Nat) (S : Sch) (w : World) (h : TypRd w w.heap.size A S) (hcap : Caps w A S) {tt : TypeId} {fr : Nat × Nat} (hkw : w.heap[0]? = some (.cells kwArr tt fr)) :
    Calls Tryd.prog 19 #[.agg #[.slice A S.n cap]] w fun e w' => e = .returned (.tuple #[.string (schOut S), .int .i64 (schErr S)]) ∧ Below w.heap.size w w' := by
  have hn := h.1
  have HT := Lib.hid h
  have HK := Lib.hid hkw
  have HCP := Lib.hid hcap
  have hb0 := bnew (Below.refl w.heap.size w) (.cells #[.slice A S.n cap] 25)
  have x0 : (w.alloc (.cells #[.slice A S.n cap] 25)).cell? ⟨w.heap.size, 0, none⟩ = some (.slice A S.n cap) := by simp [go_sem]
  have hz0 : w.heap.size < (w.alloc (.cells #[.slice A S.n cap] 25)).heap.size := by simp
  clear h hkw hcap
  go_enter Tryd.func19, Tryd.ntmps19
  go_wp2_with fail
  generalize w.alloc (.cells #[.slice A S.n cap] 25) = w2 at *
  refine (checkSchema_any A cap S _ (HT.out.later hb0) (block_below HK.out hb0)).mono ?_
  rintro e w3 ⟨rfl, hb3⟩
  have x3 := (hb3.cell (p := ⟨w.heap.size, 0, none⟩) hz0).trans x0
  have hbf := bcall hb0 hb3
  have hz3 := hb3.size
  clear x0
  by_cases hc : schErr S = 0
  · have HSM := Lib.hid (small_of hc)
    have HO := Lib.hid (schOut_ok hc)
    rw [hc]
    have HC := Lib.hid hc
    clear hc
    have x4 := cell_alloc x3 (.cells #[.pointer none, .slice none 0 0] 65)
    have hbl0 := Lib.hid (Lib.fresh_isBuilder 65 5 w3)
    have hb4 := bnew (Below.refl w3.heap.size w3) (.cells #[.pointer none, .slice none 0 0] 65)
    have hz4 : w3.heap.size < (w3.alloc (.cells #[.pointer none, .slice none 0 0] 65)).heap.size := by simp
    go_wp2_with fail
    generalize w3.alloc (.cells #[.pointer none, .slice none 0 0] 65) = w4 at *
    go_loopw [16] (fun i wr => ∃ k : Nat, k ≤ S.n ∧ i = .int .i64 k ∧ Hid (Lib.IsBuilder 65 5 w3.heap.size w3.heap.size (Lib.byteCells (schAcc S k).data.toList) wr) ∧ Below w3.heap.size w3 wr ∧ w3.heap.size < wr.heap.size) (fun i _ => S.n - (intOf i).toNat)
    case atStart => exact ⟨0, Nat.zero_le _, rfl, hbl0, hb4, hz4⟩
    case round =>
      clear x3 x4 hbl0 hb4 hz4
      obtain ⟨k, hk, rfl, HB, hb, hsz⟩ := hrel
      obtain ⟨W1, e1⟩ : ∃ W1 : World, W1 = wr := ⟨_, rfl⟩
      subst e1
      have hbw := hbf.trans (hb.mono hbf.size)
      by_cases hlt : k < S.n
      · obtain ⟨b, off, rfl, hbl, hcs⟩ := HT.out.2 (by omega)
        obtain ⟨c1, aa, ac, c2, hsr⟩ := hcs k hlt
        have hac := HCP.out b off rfl k hlt aa ac c2
        have d1 := (hbw.cell (p := ⟨b, off + k * 2, none⟩) hbl).trans c1
        have d2 := (hbw.cell (p := ⟨b, off + k * 2 + 1, none⟩) hbl).trans c2
        obtain ⟨s16, l8, a16⟩ := HSM.out.2 k hlt
        have hss := schAcc_size HSM.out k (by omega)
        have hn16 := HSM.out.1
        have hjz := attrJoin_size (S := S) (i := k) (n := S.ln k) a16
        have HS := Lib.hid (hsr.later (bnew hbw (.cells #[.string (S.nm k), .slice aa (S.ln k) ac] 40)))
        have HN := Lib.hid (builder_below HB.out (bnew (Below.refl W1.heap.size W1) (.cells #[.string (S.nm k), .slice aa (S.ln k) ac] 40)))
        have hb5' := bnew (Below.refl W1.heap.size W1) (.cells #[.string (S.nm k), .slice aa (S.ln k) ac] 40)
        have hb5 := bnew hb (.cells #[.string (S.nm k), .slice aa (S.ln k) ac] 40)
        have t0 : (W1.alloc (.cells #[.string (S.nm k), .slice aa (S.ln k) ac] 40)).cell? ⟨W1.heap.size, 0, none⟩ = some (.string (S.nm k)) := by simp [go_sem]
        have t1 : (W1.alloc (.cells #[.string (S.nm k), .slice aa (S.ln k) ac] 40)).cell? ⟨W1.heap.size, 1, none⟩ = some (.slice aa (S.ln k) ac) := by simp [go_sem]
        have hz5 : (W1.alloc (.cells #[.string (S.nm k), .slice aa (S.ln k) ac] 40)).heap.size = W1.heap.size + 1 := by simp
        have HX := Lib.hid (schAcc_next S k)
        have hdz := defText_size s16 l8 a16
        have hlen : (Lib.byteCells (schAcc S k).data.toList).length + (defText S k).size ≤ 140737488355328 := by
          rw [Lib.byteCells_length]
          have : (schAcc S k).data.toList.length = (schAcc S k).size := by simp
          omega
        have HLEN := Lib.hid hlen
        clear hlen
        clear hcs c1 c2 hsr HB a16
        go_wp2_with fail
        generalize W1.alloc (.cells #[.string (S.nm k), .slice aa (S.ln k) ac] 40) = w5 at *
        have q1 : ¬ 9223372036854775807 < 5 + (S.nm k).size := by omega
        have q2 : ¬ 9223372036854775807 < 5 + (S.nm k).size + 1 := by omega
        obtain ⟨J, hJ⟩ : ∃ J, J = ByteArray.mk (attrJoin S k (S.ln k)).toArray := ⟨_, rfl⟩
        have hJz : J.size ≤ 18 * S.ln k := by rw [hJ]; exact hjz
        have q3 : ¬ 9223372036854775807 < 5 + (S.nm k).size + 1 + J.size := by omega
        have q4 : ¬ 9223372036854775807 < 5 + (S.nm k).size + 1 + J.size + 2 := by omega
        have HD := Lib.hid (show defText S k = (((⟨#[116, 121, 112, 101, 32]⟩ ++ S.nm k) ++ ⟨#[40]⟩) ++ J) ++ ⟨#[41, 10]⟩ by rw [hJ]; rfl)
        have HJ := Lib.hid hJ
        clear hJ
        rw [HD.out] at hdz HLEN
        go_region_with (first
          | (go_at_call 39; go_loud (refine (join_any (show StrRd w5.drew w5.drew.heap.size aa (S.ln k) (S.atr k) from HS.out) hac (Nat.le_trans hjz (by omega)) HJ.out).mono ?_; rintro e w6 ⟨rfl, hb6⟩; have hb6' : Below w5.heap.size w5 w6 := (Below.refl w5.heap.size w5).drew.trans hb6; have t06 := (hb6'.cell (p := ⟨W1.heap.size, 0, none⟩) (show W1.heap.size < w5.heap.size by omega)).trans t0; have hz6 := hb6'.size))
          | (go_at_call 38; go_loud (refine (Tryd.Builder_WriteString w3.heap.size w3.heap.size _ _ _ (builder_below HN.out hb6') HLEN.out (by omega)).mono ?_; rintro e w7 ⟨rfl, hB7, hb7⟩)))
        all_goals
          have hz7 := hb7.size
          have hb8 : Below w3.heap.size w3 w7 := (hb5.trans (hb6'.mono hb5.size)).trans hb7
          have HB8 := Lib.hid (show Lib.IsBuilder 65 5 w3.heap.size w3.heap.size (Lib.byteCells (schAcc S (k + 1)).data.toList) w7 by rw [HX.out, HD.out, byteCells_text]; exact Or.inr hB7)
          clear hB7 hb7
          go_wp2_with fail
          go_roundw
          case rel => exact ⟨k + 1, by omega, by go_num, HB8, hb8, by omega⟩
          case measure => simp [intOf]; omega
      · obtain rfl : k = S.n := by omega
        go_wp2_with fail
        refine (Tryd.Builder_String_any w3.heap.size w3.heap.size _ W1 HB.out (by omega)).mono ?_
        rintro e w9 ⟨rfl, hb9⟩
        go_wp2_with fail
        go_ret2
        exact ⟨by rw [HO.out, HC.out]; rfl, hbf.trans ((hb.trans hb9).mono hbf.size)⟩
  · have hne : (schErr S != 0) = true := by rw [bne_iff_ne]; exact hc
    have HR := Lib.hid (schOut_bad hc)
    clear hc
    go_wp2_with fail
    go_ret2
    exact ⟨by rw [HR.out]; rfl, hbf⟩
end Go.Proofs.YtppeonlpocdhkaaDoor

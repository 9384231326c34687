/-
  Several texts in one: Bulk, BulkQuery, KwVar, Rename, Names6, Number6, RenTree, Turned, Renamed, CheckRenamedWalk.
-/
import Derived.Test.YtagcbljfaflhoaaDoorCheckFn
import Derived.Test.YtagcbljfaflhoaaDoorRen0
import Derived.Test.YtagcbljfaflhoaaDoorMem
import Derived.Test.YtagcbljfaflhoaaDoorSchemaOwn
import Derived.Laws.OwnMore
import Derived.OwnWalk
import Derived.Handy
import Derived.Test.YtagcbljfaflhoaaDoorTwinTree6
import Derived.Test.YtagcbljfaflhoaaDoorQueryTwin
import Derived.Test.YtagcbljfaflhoaaDoorQuerySame
import Derived.Deep.RegionLaw
import Derived.Deep.DrawnRows
import Derived.StillTactics
import Derived.Laws.Pointers
import Derived.Test.YtagcbljfaflhoaaDoorNodes
import Derived.Test.YtagcbljfaflhoaaDoorQuery
import Derived.Test.YtagcbljfaflhoaaDoorLetters2
import Derived.Test.YtagcbljfaflhoaaDoorShaped5
import Derived.Test.YtagcbljfaflhoaaDoorCheckSchemaRef
set_option linter.unusedSimpArgs false
set_option linter.unusedVariables false
/-! ### Other names, another order of the types (plain): the flaw stays. -/
namespace Go.Proofs.YtagcbljfaflhoaaDoor
theorem firstI_congr {p q : Nat → Bool} {n : Nat} (h : ∀ k, k < n → p k = q k) : firstI p n = firstI q n := by
  rcases firstI_or q n with ⟨e, hn⟩ | ⟨j, hj, e, hp, hb⟩
  · rw [e]
    exact firstI_none fun k hk => by rw [h k hk]; exact hn k hk
  · rw [e]
    exact firstI_hit hj (by rw [h j hj]; exact hp) fun k hk => by rw [h k (by omega)]; exact hb k hk
theorem allB_congr {p q : Nat → Bool} {n : Nat} (h : ∀ k, k < n → p k = q k) : allB p n = allB q n := by
  cases e : allB q n
  · have : ¬ ∀ k, k < n → q k = true := fun hq => by rw [all_yes hq] at e; cases e
    cases e2 : allB p n
    · rfl
    · exact absurd (fun k hk => by rw [← h k hk]; exact of_all e2 hk) this
  · exact all_yes fun k hk => by rw [h k hk]; exact of_all e hk
theorem find_congr {p q : Nat → Bool} : ∀ {L : List Nat}, (∀ x ∈ L, p x = q x) → L.find? p = L.find? q
  | [], _ => rfl
  | x :: r, h => by
    rw [List.find?_cons, List.find?_cons, h x (by simp), find_congr fun y hy => h y (by simp [hy])]
/-! ### A tree by what its nodes are, without their names -/
section
variable {f g : Nat → Nod} {n : Nat}
/-- The same operators and operands. -/
def Alike (f g : Nat → Nod) : Prop := ∀ i, (g i).op = (f i).op ∧ (g i).a = (f i).a ∧ (g i).b = (f i).b
theorem bg_alike (h : Alike f g) : ∀ n, (∀ i, i < n → fieldsB (g i) = fieldsB (f i)) → bg g n = bg f n
  | 0, _ => rfl
  | n + 1, hf => by
    have e := bg_alike h n fun i hi => hf i (by omega)
    obtain ⟨h1, h2, h3⟩ := h n
    have hr : ∀ l, nodeRes (g n) l n = nodeRes (f n) l n := fun l => by
      unfold nodeRes
      rw [hf n (by omega), h1, h2, h3]
    rw [bg, bg, e]
    cases bg f n with
    | none => rfl
    | some l => simp only [hr]
theorem tree_alike (h : Alike f g) (hf : ∀ i, i < n → fieldsB (g i) = fieldsB (f i)) : treeB n g = treeB n f := by unfold treeB; rw [bg_alike h n hf]
theorem beg_alike (h : Alike f g) (hf : ∀ i, i < n → fieldsB (g i) = fieldsB (f i)) : begF n g = begF n f := by unfold begF; rw [bg_alike h n hf]
theorem size_alike (h : Alike f g) (hf : ∀ i, i < n → fieldsB (g i) = fieldsB (f i)) (root : Int) : sizeI n g root = sizeI n f root := by
  unfold sizeI
  rw [tree_alike h hf, beg_alike h hf]
theorem conjF_alike (h : Alike f g) : ∀ k r, conjF g k r = conjF f k r
  | 0, _ => rfl
  | k + 1, r => by
    obtain ⟨h1, h2, h3⟩ := h r
    rw [conjF, conjF, h1, h2, h3, conjF_alike h k, conjF_alike h k]
theorem conj_alike (h : Alike f g) (hf : ∀ i, i < n → fieldsB (g i) = fieldsB (f i)) : conjL n g = conjL n f := by
  unfold conjL
  rw [tree_alike h hf, conjF_alike h]
theorem truth_alike (h : Alike f g) : isTruthB n g = isTruthB n f := by
  unfold isTruthB
  rw [(h (n - 1)).1]
theorem kid_alike (h : Alike f g) (want : Bool) (k : Int) : kidB g want k = kidB f want k := by
  unfold kidB
  rw [(h k.toNat).1]
theorem kinds_alike (h : Alike f g) (i : Nat) : kindsB g (g i) = kindsB f (f i) := by
  obtain ⟨h1, h2, h3⟩ := h i
  unfold kindsB
  rw [h1, h2, h3, kid_alike h, kid_alike h]
end
/-! ### Other names -/
section
variable (ρ : ByteArray → ByteArray)
def renN (x : Nod) : Nod := ⟨x.op, x.n, if x.vr.toList.isEmpty = true then x.vr else ρ x.vr, x.at_, x.a, x.b⟩
def renI (x : Itm) : Itm := ⟨x.neg, x.tn, x.ty, ρ x.vr, x.lo, x.hi⟩
def renQ (Q : Qry) : Qry := ⟨Q.n, fun i => renI ρ (Q.it i), Q.mode, Q.after, Q.wn, fun i => renN ρ (Q.wh i), Q.within, Q.by_, Q.m, Q.ln, fun k i => renN ρ (Q.rt k i)⟩
end
/-- The names that stand in U get other ones, unlike ones for unlike ones. -/
structure Ren (ρ : ByteArray → ByteArray) (U : ByteArray → Prop) : Prop where
  name : ∀ v, U v → nameB (ρ v) = true
  inj : ∀ v w, U v → U w → (ρ v).toList = (ρ w).toList → v.toList = w.toList
section
variable {ρ : ByteArray → ByteArray} {U : ByteArray → Prop} {Q : Qry} {S : Sch} {f : Nat → Nod} {n : Nat}
theorem ren_alike : Alike f (fun i => renN ρ (f i)) := fun _ => ⟨rfl, rfl, rfl⟩
theorem name_some {v : ByteArray} (h : nameB v = true) : v.toList.isEmpty = false := by
  unfold nameB at h
  simp only [Bool.and_eq_true, decide_eq_true_eq] at h
  have h1 := h.1.1.1.1
  cases e : v.toList with
  | nil =>
    exfalso
    have e2 : v.data.toList = [] := by rw [← Go.ByteArray.toList_eq]; exact e
    have e3 : v.data.toList.length = 0 := by rw [e2]; rfl
    have e4 : v.data.toList.length = v.size := by simp
    omega
  | cons => rfl
theorem fields_ren (hr : Ren ρ U) {x : Nod} (hx : x.vr.toList.isEmpty = false → U x.vr) (h : fieldsB x = true) : fieldsB (renN ρ x) = fieldsB x := by
  unfold fieldsB renN at *
  simp only [Bool.and_eq_true] at h
  have hv : varB x.op (if x.vr.toList.isEmpty = true then x.vr else ρ x.vr) = varB x.op x.vr := by
    cases he : x.vr.toList.isEmpty
    · rw [if_neg (by simp)]
      have h2 := h.1.2
      unfold varB at h2 ⊢
      by_cases hc : 4 ≤ x.op ∧ x.op ≤ 11
      · rw [if_pos hc] at h2 ⊢
        rw [if_pos hc, h2, hr.name _ (hx he)]
      · rw [if_neg hc, he] at h2
        cases h2
    · rw [if_pos rfl]
  show (numB x.op x.n && varB x.op _ && attB x.op x.at_) = _
  rw [hv]
theorem fields_shift {x : Nod} {d : Nat} : fieldsB (shiftN x d) = fieldsB x := rfl
theorem item_ren (hr : Ren ρ U) (hU : ∀ i, i < Q.n → U (Q.it i).vr) {v : ByteArray} (hv : U v) : itemI Q.n (fun i => renI ρ (Q.it i)) (ρ v) = itemI Q.n Q.it v := by
  unfold itemI
  refine firstI_congr fun k hk => ?_
  show ((ρ (Q.it k).vr).toList == (ρ v).toList) = _
  rw [Bool.eq_iff_iff, beq_iff_eq, beq_iff_eq]
  constructor
  · exact hr.inj _ _ (hU k hk) hv
  · intro h
    have : (Q.it k).vr = v := txt_eq (by rw [beq_iff_eq]; exact h)
    rw [this]
theorem ment_some {x : Nod} (hf : fieldsB x = true) (hb : (bareB x.op || aggB x.op) = true) : x.vr.toList.isEmpty = false := by
  have h4 : 4 ≤ x.op ∧ x.op ≤ 11 := by
    simp only [bareB, aggB, Bool.or_eq_true, beq_iff_eq, Bool.and_eq_true, decide_eq_true_eq] at hb
    omega
  unfold fieldsB at hf
  simp only [Bool.and_eq_true] at hf
  have h2 := hf.1.2
  unfold varB at h2
  rw [if_pos h4] at h2
  exact name_some h2
theorem ment_ren (hr : Ren ρ U) (hU : ∀ i, i < Q.n → U (Q.it i).vr) {r : Bool} {x : Nod} (hx : x.vr.toList.isEmpty = false → U x.vr) (hf : fieldsB x = true) : mentE S (renQ ρ Q) r (renN ρ x) = mentE S Q r x := by
  unfold mentE
  show (if (!bareB x.op && !aggB x.op) = true then 0 else _) = _
  cases hb : (bareB x.op || aggB x.op)
  · rw [Bool.or_eq_false_iff] at hb
    rw [hb.1, hb.2]
    rfl
  · have hn : ¬ (!bareB x.op && !aggB x.op) = true := by
      intro h
      rw [Bool.or_eq_true] at hb
      rcases hb with h' | h' <;> simp [h'] at h
    have he := ment_some hf hb
    have ev : (renN ρ x).vr = ρ x.vr := by
      show (if x.vr.toList.isEmpty = true then x.vr else ρ x.vr) = _
      rw [if_neg (by rw [he]; simp)]
    have ei : itemI (renQ ρ Q).n (renQ ρ Q).it (renN ρ x).vr = itemI Q.n Q.it x.vr := by rw [ev]; exact item_ren hr hU (hx he)
    rw [if_neg hn, if_neg hn, ei]
    rfl
theorem node_ren (hr : Ren ρ U) (hU : ∀ i, i < Q.n → U (Q.it i).vr) {r : Bool} (hx : ∀ i, i < n → (f i).vr.toList.isEmpty = false → U (f i).vr) (hf : ∀ i, i < n → fieldsB (f i) = true) {i : Nat} (hi : i < n) : nodeE S (renQ ρ Q) r (fun i => renN ρ (f i)) i = nodeE S Q r f i := by
  unfold nodeE
  rw [ment_ren hr hU (hx i hi) (hf i hi), kinds_alike (g := fun i => renN ρ (f i)) ren_alike i]
theorem walk_ren (hr : Ren ρ U) (hU : ∀ i, i < Q.n → U (Q.it i).vr) {r : Bool} (hx : ∀ i, i < n → (f i).vr.toList.isEmpty = false → U (f i).vr) (hf : ∀ i, i < n → fieldsB (f i) = true) : walkP S (renQ ρ Q) r n (fun i => renN ρ (f i)) = walkP S Q r n f := by
  have e : firstI (fun i => nodeE S (renQ ρ Q) r (fun i => renN ρ (f i)) i != 0) n = firstI (fun i => nodeE S Q r f i != 0) n := firstI_congr fun k hk => by rw [node_ren hr hU hx hf hk]
  unfold walkP
  rw [e]
  rcases firstI_or (fun i => nodeE S Q r f i != 0) n with ⟨e1, _⟩ | ⟨j, hj, e1, _, _⟩
  · rw [e1, if_pos rfl, if_pos rfl]
  · rw [e1, if_neg (by omega), if_neg (by omega)]
    have : ((j : Int)).toNat = j := rfl
    rw [this, node_ren hr hU hx hf hj]
theorem treeP_ren (hr : Ren ρ U) (hU : ∀ i, i < Q.n → U (Q.it i).vr) {r : Bool} (hx : ∀ i, i < n → (f i).vr.toList.isEmpty = false → U (f i).vr) (hf : ∀ i, i < n → fieldsB (f i) = true) : treeP S (renQ ρ Q) r n (fun i => renN ρ (f i)) = treeP S Q r n f := by
  unfold treeP
  rw [walk_ren hr hU hx hf, truth_alike (g := fun i => renN ρ (f i)) ren_alike]
theorem uses_ren (hr : Ren ρ U) (hU : ∀ i, i < Q.n → U (Q.it i).vr) {k m : Nat} (hx : ∀ i, i < k → (f i).vr.toList.isEmpty = false → U (f i).vr) (hf : ∀ i, i < k → fieldsB (f i) = true) : usesL bareB Q.n (fun i => renI ρ (Q.it i)) (fun i => renN ρ (f i)) k m = usesL bareB Q.n Q.it f k m := by
  unfold usesL
  refine List.filter_congr fun i _ => ?_
  unfold anyU
  rw [Bool.eq_iff_iff, List.any_eq_true, List.any_eq_true]
  have key : ∀ j, j < k → ((itemI Q.n (fun i => renI ρ (Q.it i)) (renN ρ (f j)).vr == i && bareB (renN ρ (f j)).op) = (itemI Q.n Q.it (f j).vr == i && bareB (f j).op)) := fun j hj => by
    show (_ && bareB (f j).op) = _
    cases hb : bareB (f j).op
    · rw [Bool.and_false, Bool.and_false]
    · have he := ment_some (hf j hj) (by rw [hb]; rfl)
      have ev : (renN ρ (f j)).vr = ρ (f j).vr := by
        show (if (f j).vr.toList.isEmpty = true then (f j).vr else ρ (f j).vr) = _
        rw [if_neg (by rw [he]; simp)]
      rw [ev, item_ren hr hU (hx j hj he)]
  constructor
  · rintro ⟨j, hj, h⟩
    exact ⟨j, hj, by rw [← key j (List.mem_range.1 hj)]; exact h⟩
  · rintro ⟨j, hj, h⟩
    exact ⟨j, hj, by rw [key j (List.mem_range.1 hj)]; exact h⟩
theorem sub_ren (root : Int) (ha : begF n (fun i => renN ρ (f i)) = begF n f) : subF n (fun i => renN ρ (f i)) root = fun i => renN ρ (subF n f root i) := by
  funext i
  unfold subF
  rw [ha]
  rfl
theorem where_ren (hr : Ren ρ U) (hU : ∀ i, i < Q.n → U (Q.it i).vr) (hx : ∀ i, i < Q.wn → (Q.wh i).vr.toList.isEmpty = false → U (Q.wh i).vr) (ht : Q.wn ≠ 0 → treeB Q.wn Q.wh = true) : whereF S (renQ ρ Q) = whereF S Q := by
  by_cases h0 : Q.wn = 0
  · unfold whereF
    show (if Q.wn = 0 then _ else _) = _
    rw [if_pos h0, if_pos h0]
  · have ht := ht h0
    have hf : ∀ i, i < Q.wn → fieldsB (Q.wh i) = true := (tree_shp ht).2.2.2
    have hff : ∀ i, i < Q.wn → fieldsB (renN ρ (Q.wh i)) = fieldsB (Q.wh i) := fun i hi => fields_ren hr (hx i hi) (hf i hi)
    have e1 : treeP S (renQ ρ Q) false Q.wn (fun i => renN ρ (Q.wh i)) = treeP S Q false Q.wn Q.wh := treeP_ren hr hU hx hf
    have e2 : conjL Q.wn (fun i => renN ρ (Q.wh i)) = conjL Q.wn Q.wh := conj_alike ren_alike hff
    have e3 : ∀ root ∈ conjL Q.wn Q.wh, mixB (renQ ρ Q) (usesL bareB Q.n (fun i => renI ρ (Q.it i)) (subF Q.wn (fun i => renN ρ (Q.wh i)) (root : Int)) (sizeI Q.wn (fun i => renN ρ (Q.wh i)) (root : Int)) Q.n) = mixB Q (usesL bareB Q.n Q.it (subF Q.wn Q.wh (root : Int)) (sizeI Q.wn Q.wh (root : Int)) Q.n) := fun root hroot => by
      have hlt := conjL_lt ht root hroot
      rw [sub_ren (root : Int) (beg_alike ren_alike hff), size_alike ren_alike hff]
      have hle := (tree_shp ht).2.1.le root hlt
      have hin : ∀ i, i < sizeI Q.wn Q.wh (root : Int) → begF Q.wn Q.wh root + i < Q.wn := fun i hi => by
        rw [sizeI_in ht hlt] at hi
        omega
      rw [uses_ren (f := subF Q.wn Q.wh (root : Int)) hr hU (fun i hi => hx _ (hin i hi)) (fun i hi => hf _ (hin i hi))]
      rfl
    unfold whereF
    show (if Q.wn = 0 then _ else if (treeP S (renQ ρ Q) false Q.wn (fun i => renN ρ (Q.wh i))).2 ≠ 0 then (⟨(treeP S (renQ ρ Q) false Q.wn (fun i => renN ρ (Q.wh i))).2, 4, (treeP S (renQ ρ Q) false Q.wn (fun i => renN ρ (Q.wh i))).1, 0⟩ : Flw) else match (conjL Q.wn (fun i => renN ρ (Q.wh i))).find? (fun root : Nat => mixB (renQ ρ Q) (usesL bareB Q.n (fun i => renI ρ (Q.it i)) (subF Q.wn (fun i => renN ρ (Q.wh i)) (root : Int)) (sizeI Q.wn (fun i => renN ρ (Q.wh i)) (root : Int)) Q.n)) with
      | some root => ⟨77, 4, root, 0⟩
      | none => ⟨0, 0, 0, 0⟩) = _
    rw [e1, e2, find_congr e3]
    rfl
theorem ret_ren (hr : Ren ρ U) (hU : ∀ i, i < Q.n → U (Q.it i).vr) (hx : ∀ k, k < Q.m → ∀ i, i < Q.ln k → (Q.rt k i).vr.toList.isEmpty = false → U (Q.rt k i).vr) (ht : ∀ k, k < Q.m → treeB (Q.ln k) (Q.rt k) = true) {k : Nat} (hk : k < Q.m) : retE S (renQ ρ Q) k = retE S Q k := by
  unfold retE
  exact treeP_ren hr hU (hx k hk) (tree_shp (ht k hk)).2.2.2
theorem rest_ren (hr : Ren ρ U) (hU : ∀ i, i < Q.n → U (Q.it i).vr) (hx : ∀ k, k < Q.m → ∀ i, i < Q.ln k → (Q.rt k i).vr.toList.isEmpty = false → U (Q.rt k i).vr) (ht : ∀ k, k < Q.m → treeB (Q.ln k) (Q.rt k) = true) : restF S (renQ ρ Q) = restF S Q := by
  have e1 : retF S (renQ ρ Q) = retF S Q := by
    by_cases h8 : 8 < Q.m
    · rw [retF_many h8, retF_many (show 8 < (renQ ρ Q).m from h8)]
    · rcases firstI_or (fun k => (retE S Q k).2 != 0) Q.m with ⟨_, hn⟩ | ⟨j, hj, _, hp, hb⟩
      · rw [retF_end h8 hn, retF_end (show ¬ 8 < (renQ ρ Q).m from h8) (fun k hk => by rw [ret_ren hr hU hx ht hk]; exact hn k hk)]
      · rw [bne_iff_ne] at hp
        rw [retF_hit (i := (retE S Q j).1) (e := (retE S Q j).2) h8 hj rfl hp hb, retF_hit (i := (retE S Q j).1) (e := (retE S Q j).2) (show ¬ 8 < (renQ ρ Q).m from h8) hj (ret_ren hr hU hx ht hj) hp (fun k hk => by rw [ret_ren hr hU hx ht (by omega)]; exact hb k hk)]
  unfold restF
  rw [e1]
  rfl
theorem items_ren (hr : Ren ρ U) (hU : ∀ i, i < Q.n → U (Q.it i).vr) : itemsF S (renQ ρ Q) = itemsF S Q := by
  have e : ∀ i, i < Q.n → badI S (fun i => renI ρ (Q.it i)) i = badI S Q.it i := fun i hi => by
    unfold badI
    have e1 : itemE S (renI ρ (Q.it i)) = itemE S (Q.it i) := rfl
    have e2 : itemI i (fun i => renI ρ (Q.it i)) (renI ρ (Q.it i)).vr = itemI i Q.it (Q.it i).vr := by
      unfold itemI
      refine firstI_congr fun k hk => ?_
      show ((ρ (Q.it k).vr).toList == (ρ (Q.it i).vr).toList) = _
      rw [Bool.eq_iff_iff, beq_iff_eq, beq_iff_eq]
      constructor
      · exact hr.inj _ _ (hU k (by omega)) (hU i hi)
      · intro h
        have : (Q.it k).vr = (Q.it i).vr := txt_eq (by rw [beq_iff_eq]; exact h)
        rw [this]
    rw [e1, e2]
  have e0 : firstI (fun i => badI S (fun i => renI ρ (Q.it i)) i != 0) Q.n = firstI (fun i => badI S Q.it i != 0) Q.n := firstI_congr fun k hk => by rw [e k hk]
  unfold itemsF
  show (if 10 < Q.n then _ else if firstI (fun i => badI S (fun i => renI ρ (Q.it i)) i != 0) Q.n = -1 then (if allB (fun i => (Q.it i).neg) Q.n = true then _ else _) else (⟨badI S (fun i => renI ρ (Q.it i)) (firstI (fun i => badI S (fun i => renI ρ (Q.it i)) i != 0) Q.n).toNat, 1, firstI (fun i => badI S (fun i => renI ρ (Q.it i)) i != 0) Q.n, 0⟩ : Flw)) = _
  rw [e0]
  rcases firstI_or (fun i => badI S Q.it i != 0) Q.n with ⟨e1, _⟩ | ⟨j, hj, e1, _, _⟩
  · rw [e1, if_pos rfl, if_pos rfl]
  · rw [e1, if_neg (show ¬ ((j : Int) = -1) by omega), if_neg (show ¬ ((j : Int) = -1) by omega)]
    have : ((j : Int)).toNat = j := rfl
    rw [this, e j hj]
theorem shaped_items (h : shapedB Q = true) : ∀ i, i < Q.n → itemShB (Q.it i) = true := by
  intro i hi
  simp only [shapedB, Bool.and_eq_true] at h
  exact of_all h.1.1.1.2 hi
theorem shaped_ren (hr : Ren ρ U) (hU : ∀ i, i < Q.n → U (Q.it i).vr) (hx : ∀ i, i < Q.wn → (Q.wh i).vr.toList.isEmpty = false → U (Q.wh i).vr) (hy : ∀ k, k < Q.m → ∀ i, i < Q.ln k → (Q.rt k i).vr.toList.isEmpty = false → U (Q.rt k i).vr) (h : shapedB Q = true) : shapedB (renQ ρ Q) = true := by
  have h1 := shaped_items h
  have h2 := shaped_where h
  have h3 := shaped_ret h
  have t1 : allB (fun i => itemShB (renI ρ (Q.it i))) Q.n = true := all_yes fun i hi => by
    have a := h1 i hi
    simp only [itemShB, Bool.and_eq_true] at a ⊢
    exact ⟨⟨⟨⟨⟨a.1.1.1.1.1, hr.name _ (hU i hi)⟩, a.1.1.1.2⟩, a.1.1.2⟩, a.1.2⟩, a.2⟩
  have t2 : (decide (Q.wn = 0) || treeB Q.wn (fun i => renN ρ (Q.wh i))) = true := by
    by_cases h0 : Q.wn = 0
    · rw [decide_eq_true h0]; rfl
    · have ht := h2 h0
      rw [tree_alike (g := fun i => renN ρ (Q.wh i)) ren_alike (fun i hi => fields_ren hr (hx i hi) ((tree_shp ht).2.2.2 i hi)), ht, Bool.or_true]
  have t3 : allB (fun k => treeB (Q.ln k) (fun i => renN ρ (Q.rt k i))) Q.m = true := all_yes fun k hk => by
    have ht := h3 k hk
    show treeB (Q.ln k) (fun i => renN ρ (Q.rt k i)) = true
    rw [tree_alike (g := fun i => renN ρ (Q.rt k i)) ren_alike (fun i hi => fields_ren hr (hy k hk i hi) ((tree_shp ht).2.2.2 i hi)), ht]
  simp only [shapedB, Bool.and_eq_true] at h ⊢
  exact ⟨⟨⟨⟨h.1.1.1.1, t1⟩, t2⟩, h.1.2⟩, t3⟩
theorem check_ren (hr : Ren ρ U) (hU : ∀ i, i < Q.n → U (Q.it i).vr) (hx : ∀ i, i < Q.wn → (Q.wh i).vr.toList.isEmpty = false → U (Q.wh i).vr) (hy : ∀ k, k < Q.m → ∀ i, i < Q.ln k → (Q.rt k i).vr.toList.isEmpty = false → U (Q.rt k i).vr) (h : shapedB Q = true) : checkF S (renQ ρ Q) = checkF S Q := by
  unfold checkF
  rw [shaped_ren hr hU hx hy h, h, items_ren hr hU, where_ren hr hU hx (shaped_where h), rest_ren hr hU hy (shaped_ret h)]
end
/-! ### Another order of the types -/
def turnS (S : Sch) : Sch := ⟨S.n, fun i => S.nm (S.n - 1 - i), fun i => S.ln (S.n - 1 - i), fun i => S.atr (S.n - 1 - i)⟩
section
variable {S : Sch} {Q : Qry}
theorem once_nm (h : schErr S = 0) {i j : Nat} (hi : i < S.n) (hj : j < S.n) (he : (S.nm i).toList = (S.nm j).toList) : i = j := by
  have h1 := (sch_zero h).2.2
  rcases Nat.lt_trichotomy i j with hl | e | hl
  · have h2 := (h1 j hj).2.1
    have h3 := of_inB h2 i hl
    rw [beq_eq_false_iff_ne] at h3
    exact absurd he h3
  · exact e
  · have h2 := (h1 i hi).2.1
    have h3 := of_inB h2 j hl
    rw [beq_eq_false_iff_ne] at h3
    exact absurd he.symm h3
theorem type_cases (h : schErr S = 0) (v : ByteArray) : (typeI S v = -1 ∧ typeI (turnS S) v = -1) ∨ ∃ j, j < S.n ∧ typeI S v = j ∧ typeI (turnS S) v = (S.n - 1 - j : Nat) := by
  rcases firstI_or (fun k => (S.nm k).toList == v.toList) S.n with ⟨e, hn⟩ | ⟨j, hj, e, hp, hb⟩
  · refine .inl ⟨e, ?_⟩
    exact firstI_none fun k hk => hn (S.n - 1 - k) (by have : k < S.n := hk; omega)
  · refine .inr ⟨j, hj, e, ?_⟩
    rw [beq_iff_eq] at hp
    refine firstI_hit (p := fun k => (S.nm (S.n - 1 - k)).toList == v.toList) (show S.n - 1 - j < S.n by omega) ?_ fun k hk => ?_
    · show ((S.nm (S.n - 1 - (S.n - 1 - j))).toList == v.toList) = true
      have : S.n - 1 - (S.n - 1 - j) = j := by omega
      rw [this, beq_iff_eq]
      exact hp
    · show ((S.nm (S.n - 1 - k)).toList == v.toList) = false
      rw [beq_eq_false_iff_ne]
      intro he
      have := once_nm h (i := S.n - 1 - k) (j := j) (by omega) hj (he.trans hp.symm)
      omega
theorem col_turn (h : schErr S = 0) (t a : ByteArray) : colB (turnS S) t a = colB S t a := by
  unfold colB
  rcases type_cases h t with ⟨e1, e2⟩ | ⟨j, hj, e1, e2⟩
  · rw [e1, e2]
    rfl
  · rw [e1, e2]
    have g1 : ¬ (((j : Nat) : Int) < 0 ∨ (S.n : Int) ≤ (j : Int)) := by omega
    have g2 : ¬ (((S.n - 1 - j : Nat) : Int) < 0 ∨ ((turnS S).n : Int) ≤ ((S.n - 1 - j : Nat) : Int)) := by
      show ¬ (((S.n - 1 - j : Nat) : Int) < 0 ∨ (S.n : Int) ≤ ((S.n - 1 - j : Nat) : Int))
      omega
    unfold attrI
    rw [if_neg g1, if_neg g2]
    have e3 : ((S.n - 1 - j : Nat) : Int).toNat = S.n - 1 - j := rfl
    have e4 : ((j : Nat) : Int).toNat = j := rfl
    rw [e3, e4]
    show ((if (a.toList == [116, 115]) = true then (-2 : Int) else if placeI (S.ln (S.n - 1 - (S.n - 1 - j))) (S.atr (S.n - 1 - (S.n - 1 - j))) a < 8 then placeI (S.ln (S.n - 1 - (S.n - 1 - j))) (S.atr (S.n - 1 - (S.n - 1 - j))) a else -1) != -1) = _
    have : S.n - 1 - (S.n - 1 - j) = j := by omega
    rw [this]
theorem has_turn (h : schErr S = 0) : hasB (turnS S) = hasB S := by
  funext x a
  exact allB_congr fun j _ => col_turn h _ _
theorem known_turn (h : schErr S = 0) : knownB (turnS S) = knownB S := by
  funext x
  refine allB_congr fun j _ => ?_
  rcases type_cases h (x.ty j) with ⟨e1, e2⟩ | ⟨i, hi, e1, e2⟩
  · rw [e1, e2]
  · rw [e1, e2, decide_eq_true (show (0 : Int) ≤ ((S.n - 1 - i : Nat) : Int) by omega), decide_eq_true (show (0 : Int) ≤ ((i : Nat) : Int) by omega)]
theorem sch_fine {S : Sch} (h1 : 0 < S.n) (h2 : S.n ≤ 16) (h : ∀ i, i < S.n → nameB (S.nm i) = true ∧ twiceB S.nm i = false ∧ S.ln i ≤ 8 ∧ ∀ j, j < S.ln i → nameB (S.atr i j) = true ∧ ((S.atr i j).toList == [116, 115]) = false ∧ twiceB (S.atr i) j = false) : schErr S = 0 := by
  rw [schErr_rest h1 h2]
  refine firstNZ_zero fun i hi => ?_
  obtain ⟨a, b, c, d⟩ := h i hi
  rw [typeErr_rest a b (by omega)]
  refine firstNZ_zero fun j hj => ?_
  obtain ⟨p, q, r⟩ := d j hj
  exact attrErr_ok p q r
theorem sch_turn (h : schErr S = 0) : schErr (turnS S) = 0 := by
  obtain ⟨h1, h2, h3⟩ := sch_zero h
  refine sch_fine (S := turnS S) h1 h2 fun i hi => ?_
  have hi : i < S.n := hi
  obtain ⟨a, b, c, d⟩ := h3 (S.n - 1 - i) (by omega)
  refine ⟨a, inB_none fun k hk => ?_, c, d⟩
  show ((S.nm (S.n - 1 - k)).toList == (S.nm (S.n - 1 - i)).toList) = false
  rw [beq_eq_false_iff_ne]
  intro he
  have := once_nm h (i := S.n - 1 - k) (j := S.n - 1 - i) (by omega) (by omega) he
  omega
theorem check_turn (h : schErr S = 0) : checkF (turnS S) Q = checkF S Q := by
  have e1 : itemE (turnS S) = itemE S := by
    funext x
    unfold itemE
    rw [known_turn h]
  have e2 : badI (turnS S) = badI S := by
    funext it i
    unfold badI
    rw [e1]
  have e3 : itemsF (turnS S) Q = itemsF S Q := by
    unfold itemsF
    rw [e2]
  have e4 : useE (turnS S) = useE S := by
    funext r y x
    unfold useE
    rw [has_turn h]
  have e5 : mentE (turnS S) = mentE S := by
    funext Q r x
    unfold mentE
    rw [e4]
  have e6 : nodeE (turnS S) = nodeE S := by
    funext Q r f i
    unfold nodeE
    rw [e5]
  have e7 : walkP (turnS S) = walkP S := by
    funext Q r n f
    unfold walkP
    rw [e6]
  have e8 : treeP (turnS S) = treeP S := by
    funext Q r n f
    unfold treeP
    rw [e7]
  have e9 : whereF (turnS S) Q = whereF S Q := by
    unfold whereF
    rw [e8]
  have e10 : retE (turnS S) = retE S := by
    funext Q k
    unfold retE
    rw [e8]
  have e11 : retF (turnS S) Q = retF S Q := by
    unfold retF
    rw [e10]
  have e12 : partB (turnS S) Q = partB S Q := by
    unfold partB
    rw [has_turn h]
  have e13 : restF (turnS S) Q = restF S Q := by
    unfold restF
    rw [e11, e12]
  unfold checkF
  rw [sch_turn h, h, e3, e9, e13]
end
end Go.Proofs.YtagcbljfaflhoaaDoor

/-! ### Names that are numbered in the order in which they are met, and called v0, v1, .. (plain). -/
namespace Go.Proofs.YtagcbljfaflhoaaDoor
/-- Where a text stands in a list; the list's length where it does not. -/
def spotOf (L : List ByteArray) (v : ByteArray) : Nat := L.findIdx (fun x => x.toList == v.toList)
def InL (L : List ByteArray) (v : ByteArray) : Prop := spotOf L v < L.length
def growL (L : List ByteArray) (v : ByteArray) : List ByteArray := if spotOf L v < L.length then L else L ++ [v]
section
variable {L M : List ByteArray} {v u : ByteArray}
theorem spot_le : spotOf L v ≤ L.length := List.findIdx_le_length
theorem spot_pre (h : L <+: M) (hl : InL L v) : spotOf M v = spotOf L v := by
  obtain ⟨R, rfl⟩ := h
  unfold InL at hl
  unfold spotOf at *
  rw [List.findIdx_append, if_pos hl]
theorem in_pre (h : L <+: M) (hl : InL L v) : InL M v := by
  have e := spot_pre h hl
  unfold InL at *
  rw [e]
  exact Nat.lt_of_lt_of_le hl h.length_le
theorem grow_pre : L <+: growL L v := by
  unfold growL
  split
  · exact List.prefix_rfl
  · exact List.prefix_append _ _
theorem grow_in : InL (growL L v) v := by
  unfold growL
  by_cases h : spotOf L v < L.length
  · rw [if_pos h]; exact h
  · rw [if_neg h]
    unfold InL spotOf at *
    rw [List.findIdx_append, if_neg h]
    simp
theorem grow_old (h : spotOf L v < L.length) : growL L v = L := if_pos h
theorem grow_new (h : ¬ spotOf L v < L.length) : growL L v = L ++ [v] ∧ spotOf (L ++ [v]) v = L.length := by
  refine ⟨if_neg h, ?_⟩
  unfold spotOf at *
  rw [List.findIdx_append, if_neg h]
  simp
theorem grow_len : (growL L v).length ≤ L.length + 1 := by
  unfold growL
  split
  · omega
  · simp
theorem spot_at (h : InL L v) : (L.getD (spotOf L v) .empty).toList = v.toList := by
  have h0 : L.findIdx (fun x : ByteArray => x.toList == v.toList) < L.length := h
  have h1 := List.findIdx_getElem (xs := L) (p := fun x : ByteArray => x.toList == v.toList) (w := h0)
  have h2 : (L[L.findIdx (fun x : ByteArray => x.toList == v.toList)]'h0).toList = v.toList := by simpa using h1
  unfold spotOf
  rw [List.getD_eq_getElem?_getD, List.getElem?_eq_getElem h0]
  exact h2
theorem spot_inj (hv : InL L v) (hu : InL L u) (h : spotOf L v = spotOf L u) : v.toList = u.toList := by
  rw [← spot_at hv, ← spot_at hu, h]
theorem spot_hit {k : Nat} (hk : k < L.length) (he : (L.getD k .empty).toList = v.toList) (hn : ∀ j, j < k → (L.getD j .empty).toList ≠ v.toList) : spotOf L v = k := by
  unfold spotOf
  rw [List.findIdx_eq hk]
  have g : ∀ j (hj : j < L.length), L[j] = L.getD j .empty := fun j hj => by rw [List.getD_eq_getElem?_getD, List.getElem?_eq_getElem hj]; rfl
  refine ⟨by rw [beq_iff_eq, g k hk]; exact he, fun j hj => ?_⟩
  rw [beq_eq_false_iff_ne, g j (by omega)]
  exact hn j hj
theorem spot_none (hn : ∀ j, j < L.length → (L.getD j .empty).toList ≠ v.toList) : spotOf L v = L.length := by
  unfold spotOf
  rw [List.findIdx_eq_length]
  intro x hx
  obtain ⟨j, hj, rfl⟩ := List.getElem_of_mem hx
  rw [beq_eq_false_iff_ne]
  have := hn j hj
  rwa [List.getD_eq_getElem?_getD, List.getElem?_eq_getElem hj] at this
end
/-! ### The names of a query, in the order in which they are met -/
def nmI (it : Nat → Itm) : Nat → List ByteArray
  | 0 => []
  | k + 1 => growL (nmI it k) (it k).vr
def nmT (L : List ByteArray) (f : Nat → Nod) : Nat → List ByteArray
  | 0 => L
  | k + 1 => if (f k).vr.toList.isEmpty = true then nmT L f k else growL (nmT L f k) (f k).vr
def nmR (L : List ByteArray) (ln : Nat → Nat) (rt : Nat → Nat → Nod) : Nat → List ByteArray
  | 0 => L
  | k + 1 => nmT (nmR L ln rt k) (rt k) (ln k)
def namesF (Q : Qry) : List ByteArray := nmR (nmT (nmI Q.it Q.n) Q.wh Q.wn) Q.ln Q.rt Q.m
section
variable {it : Nat → Itm} {L : List ByteArray} {f : Nat → Nod} {ln : Nat → Nat} {rt : Nat → Nat → Nod}
theorem nmI_step (k : Nat) : nmI it k <+: nmI it (k + 1) := grow_pre
theorem nmT_step (k : Nat) : nmT L f k <+: nmT L f (k + 1) := by
  rw [nmT]
  split
  · exact List.prefix_rfl
  · exact grow_pre
theorem nmI_pre {k n : Nat} (h : k ≤ n) : nmI it k <+: nmI it n := by
  induction n with
  | zero => obtain rfl : k = 0 := by omega
            exact List.prefix_rfl
  | succ n ih =>
    by_cases e : k = n + 1
    · rw [e]; exact List.prefix_rfl
    · exact (ih (by omega)).trans (nmI_step n)
theorem nmT_pre {k n : Nat} (h : k ≤ n) : nmT L f k <+: nmT L f n := by
  induction n with
  | zero => obtain rfl : k = 0 := by omega
            exact List.prefix_rfl
  | succ n ih =>
    by_cases e : k = n + 1
    · rw [e]; exact List.prefix_rfl
    · exact (ih (by omega)).trans (nmT_step n)
theorem nmR_step (k : Nat) : nmR L ln rt k <+: nmR L ln rt (k + 1) := nmT_pre (k := 0) (Nat.zero_le _)
theorem nmR_pre {k n : Nat} (h : k ≤ n) : nmR L ln rt k <+: nmR L ln rt n := by
  induction n with
  | zero => obtain rfl : k = 0 := by omega
            exact List.prefix_rfl
  | succ n ih =>
    by_cases e : k = n + 1
    · rw [e]; exact List.prefix_rfl
    · exact (ih (by omega)).trans (nmR_step n)
theorem nmI_len (k : Nat) : (nmI it k).length ≤ k := by
  induction k with
  | zero => exact Nat.le_refl _
  | succ k ih =>
    have := grow_len (L := nmI it k) (v := (it k).vr)
    rw [nmI]
    omega
theorem nmT_len (k : Nat) : (nmT L f k).length ≤ L.length + k := by
  induction k with
  | zero => exact Nat.le_refl _
  | succ k ih =>
    have := grow_len (L := nmT L f k) (v := (f k).vr)
    rw [nmT]
    split <;> omega
theorem nmR_len (k : Nat) : (nmR L ln rt k).length ≤ L.length + sumN ln k := by
  induction k with
  | zero => exact Nat.le_refl _
  | succ k ih =>
    have := nmT_len (L := nmR L ln rt k) (f := rt k) (ln k)
    have e : sumN ln (k + 1) = sumN ln k + ln k := rfl
    rw [nmR]
    omega
theorem nmT_in {k n : Nat} (hk : k < n) (hv : (f k).vr.toList.isEmpty = false) : InL (nmT L f n) (f k).vr := by
  refine in_pre (nmT_pre (show k + 1 ≤ n from hk)) ?_
  rw [nmT, if_neg (by rw [hv]; simp)]
  exact grow_in
end
section
variable {Q : Qry}
theorem preI : nmI Q.it Q.n <+: namesF Q := (nmT_pre (k := 0) (Nat.zero_le _)).trans (nmR_pre (k := 0) (Nat.zero_le _))
theorem preT : nmT (nmI Q.it Q.n) Q.wh Q.wn <+: namesF Q := nmR_pre (k := 0) (Nat.zero_le _)
theorem inI : ∀ i, i < Q.n → InL (namesF Q) (Q.it i).vr := fun i hi => in_pre ((nmI_pre (show i + 1 ≤ Q.n from hi)).trans preI) grow_in
theorem inW : ∀ i, i < Q.wn → (Q.wh i).vr.toList.isEmpty = false → InL (namesF Q) (Q.wh i).vr := fun i hi hv => in_pre preT (nmT_in hi hv)
theorem inR : ∀ k, k < Q.m → ∀ i, i < Q.ln k → (Q.rt k i).vr.toList.isEmpty = false → InL (namesF Q) (Q.rt k i).vr := fun k hk i hi hv =>
  in_pre (nmR_pre (show k + 1 ≤ Q.m from hk)) (by rw [nmR]; exact nmT_in hi hv)
theorem names_len : (namesF Q).length ≤ Q.n + Q.wn + sumN Q.ln Q.m := by
  have h1 := nmI_len (it := Q.it) Q.n
  have h2 := nmT_len (L := nmI Q.it Q.n) (f := Q.wh) Q.wn
  have h3 := nmR_len (L := nmT (nmI Q.it Q.n) Q.wh Q.wn) (ln := Q.ln) (rt := Q.rt) Q.m
  unfold namesF
  omega
end
/-! ### v0, v1, .. -/
/-- A number's digits, from the last one on; none of 0. -/
def digR (n : Nat) : List UInt8 := if h : n = 0 then [] else UInt8.ofNat (48 + n % 10) :: digR (n / 10)
termination_by n
decreasing_by omega
theorem digR_zero : digR 0 = [] := by rw [digR]; rfl
theorem digR_some {n : Nat} (h : n ≠ 0) : digR n = UInt8.ofNat (48 + n % 10) :: digR (n / 10) := by rw [digR, dif_neg h]
theorem dig_val {a : Nat} (h : a < 10) : (UInt8.ofNat (48 + a)).toNat = 48 + a := by
  rw [UInt8.toNat_ofNat_of_lt' (by show 48 + a < 256; omega)]
theorem dig_inj {a b : Nat} (ha : a < 10) (hb : b < 10) (h : UInt8.ofNat (48 + a) = UInt8.ofNat (48 + b)) : a = b := by
  have := congrArg UInt8.toNat h
  rw [dig_val ha, dig_val hb] at this
  omega
theorem digR_inj : ∀ n m : Nat, digR n = digR m → n = m := by
  intro n
  induction n using Nat.strongRecOn with
  | _ n ih =>
    intro m h
    by_cases hn : n = 0
    · by_cases hm : m = 0
      · omega
      · rw [hn, digR_zero, digR_some hm] at h
        cases h
    · by_cases hm : m = 0
      · rw [hm, digR_zero, digR_some hn] at h
        cases h
      · rw [digR_some hn, digR_some hm] at h
        injection h with h1 h2
        have a := dig_inj (Nat.mod_lt _ (by omega)) (Nat.mod_lt _ (by omega)) h1
        have b := ih (n / 10) (by omega) (m / 10) h2
        omega
theorem digR_len : ∀ p n : Nat, n < 10 ^ p → (digR n).length ≤ p := by
  intro p
  induction p with
  | zero => intro n h; obtain rfl : n = 0 := by simpa using h
            rw [digR_zero]; exact Nat.le_refl _
  | succ p ih =>
    intro n h
    by_cases hn : n = 0
    · rw [hn, digR_zero]; simp
    · rw [digR_some hn, List.length_cons]
      have := ih (n / 10) (by rw [Nat.pow_succ] at h; omega)
      omega
theorem digR_dig : ∀ n : Nat, ∀ c ∈ digR n, 48 ≤ c.toNat ∧ c.toNat ≤ 57 := by
  intro n
  induction n using Nat.strongRecOn with
  | _ n ih =>
    intro c hc
    by_cases hn : n = 0
    · rw [hn, digR_zero] at hc; cases hc
    · rw [digR_some hn] at hc
      rcases List.mem_cons.1 hc with rfl | h
      · rw [dig_val (Nat.mod_lt _ (by omega))]
        have := Nat.mod_lt n (show 0 < 10 by omega)
        omega
      · exact ih (n / 10) (by omega) c h
def callL (k : Nat) : List UInt8 := 118 :: UInt8.ofNat (48 + k % 10) :: digR (k / 10)
def calledB (k : Nat) : ByteArray := ⟨(callL k).toArray⟩
theorem called_list (k : Nat) : (calledB k).toList = callL k := by rw [Go.ByteArray.toList_eq]; rfl
theorem called_inj {i j : Nat} (h : (calledB i).toList = (calledB j).toList) : i = j := by
  rw [called_list, called_list] at h
  unfold callL at h
  injection h with _ h
  injection h with h1 h2
  have a := dig_inj (Nat.mod_lt _ (by omega)) (Nat.mod_lt _ (by omega)) h1
  have b := digR_inj _ _ h2
  omega
theorem kw_second : ∀ j, j < 27 → ∃ c, (kwAt j).data.toList[1]? = some c ∧ 65 ≤ c.toNat := by decide
theorem called_name {k : Nat} (hk : k < 10000000) : nameB (calledB k) = true := by
  have hd : 48 ≤ (UInt8.ofNat (48 + k % 10)).toNat ∧ (UInt8.ofNat (48 + k % 10)).toNat ≤ 57 := by
    rw [dig_val (Nat.mod_lt _ (by omega))]
    have := Nat.mod_lt k (show 0 < 10 by omega)
    omega
  have hl : (callL k).length ≤ 8 := by
    have := digR_len 6 (k / 10) (by omega)
    unfold callL
    simp only [List.length_cons]
    omega
  have hl2 : 2 ≤ (callL k).length := by
    unfold callL
    simp only [List.length_cons]
    omega
  have hs : (calledB k).size = (callL k).length := rfl
  have hdata : (calledB k).data.toList = callL k := rfl
  have hw : (callL k).all (fun c => wordI c.toNat) = true := by
    rw [List.all_eq_true]
    intro c hc
    unfold callL at hc
    have key : ∀ c : UInt8, 48 ≤ c.toNat ∧ c.toNat ≤ 57 → wordI c.toNat = true := fun c h => by
      have : digI c.toNat = true := by
        unfold digI
        rw [decide_eq_true (show (48 : Int) ≤ c.toNat by omega), decide_eq_true (show (c.toNat : Int) ≤ 57 by omega)]
        rfl
      unfold wordI
      rw [this, Bool.or_true, Bool.true_or]
    rcases List.mem_cons.1 hc with rfl | hc
    · rfl
    · rcases List.mem_cons.1 hc with rfl | hc
      · exact key _ hd
      · exact key _ (digR_dig _ c hc)
  have hkw : isKw (calledB k) = false := isKw_none fun j hj => by
    obtain ⟨c, hc, h65⟩ := kw_second j hj
    unfold alikeB
    rw [beq_eq_false_iff_ne]
    intro he
    have h1 := congrArg (fun l => l[1]?) he
    simp only [hdata] at h1
    rw [hc] at h1
    have h2 : ((callL k).map up)[1]? = some (up (UInt8.ofNat (48 + k % 10))) := rfl
    rw [h2, up_other (by omega)] at h1
    injection h1 with h1
    rw [← h1] at h65
    omega
  unfold nameB
  rw [hdata, hs, hw, hkw, decide_eq_true (show 0 < (callL k).length by omega), decide_eq_true (show (callL k).length ≤ 16 by omega)]
  rfl
/-- The new names. -/
def rho (Q : Qry) (v : ByteArray) : ByteArray := calledB (spotOf (namesF Q) v)
theorem rho_ren {Q : Qry} (h : (namesF Q).length < 10000000) : Ren (rho Q) (InL (namesF Q)) where
  name := fun v hv => called_name (by unfold InL at hv; omega)
  inj := fun v w hv hw he => spot_inj hv hw (called_inj he)
theorem check_rho {S : Sch} {Q : Qry} (h : (namesF Q).length < 10000000) (hs : shapedB Q = true) : checkF S (renQ (rho Q) Q) = checkF S Q :=
  check_ren (rho_ren h) inI inW inR hs
end Go.Proofs.YtagcbljfaflhoaaDoor

/-! ### What keeps all blocks but those of one type; the walks of number, called. -/
namespace Go.Proofs.YtagcbljfaflhoaaDoor
open Go.RowKit Go.ChangeShapes Go.WideShapes Go.ChangeAt Go.Deep Go.Joins
/-- All below B stays, and all blocks but those of type e. -/
structure ButT (e : TypeId) (B : Nat) (w w' : World) : Prop where
  below : Below B w w'
  keep : ∀ (b : Nat) (cs : Array Value) (T : TypeId) (fr : Nat × Nat), w.heap[b]? = some (.cells cs T fr) → T ≠ e → w'.heap[b]? = some (.cells cs T fr)
section
variable {e e' : TypeId} {B B' : Nat} {w w' w'' w9 : World} {sz n : Nat} {v : Value} {xs : List Value} {o : Obj}
theorem ButT.refl (e : TypeId) (B : Nat) (w : World) : ButT e B w w := ⟨Below.refl _ _, fun _ _ _ _ h _ => h⟩
theorem ButT.of (h : Below w.heap.size w w') (hB : B ≤ w.heap.size) : ButT e B w w' := ⟨h.mono hB, fun b cs T fr hb _ => blk_below hb h⟩
theorem ButT.trans (h : ButT e B w w') (h1 : ButT e B w' w'') : ButT e B w w'' := ⟨h.below.trans h1.below, fun b cs T fr hb hT => h1.keep b cs T fr (h.keep b cs T fr hb hT) hT⟩
theorem ButT.row (h : ButT e B w w') (hr : w.ownsRow B' e' sz v n xs) (he : e' ≠ e) : w'.ownsRow B' e' sz v n xs := by
  refine ⟨hr.1, ?_⟩
  rcases hr.2 with h0 | ⟨g, cap, cur, e1, h1, h2, h3⟩
  · exact .inl h0
  · exact .inr ⟨g, cap, cur, e1, h1, h.keep g _ _ _ h2 he, h3⟩
theorem ButT.push (hr : w.ownsRow B e sz v n xs) (hB : B ≤ w.heap.size) (hg : (w.alloc o).grownBy w9 v.ownBlock) : ButT e B w w9 :=
  ⟨below_grown ((Below.refl B w).alloc hB o) hg (by simp; omega) (fun x hx => (hr.lt x hx).1), fun b cs T fr hb hT => blk_grown (blk_alloc hb o) hg (fun hv => by
    obtain ⟨c, fz, h1⟩ := Lib.ownsRow_kind hr b hv
    rw [h1] at hb
    injection hb with hb
    injection hb with _ hb
    exact hT hb.symm)⟩
theorem ButT.le (h : ButT e B w w') (hB : B' ≤ B) : ButT e B' w w' := ⟨h.below.mono hB, h.keep⟩
end
def strV (s : ByteArray) : Value := .string s
set_option maxRecDepth 100000 in
set_option maxHeartbeats 2000000 in
theorem number_any (B : Nat) (L : List ByteArray) (v : Value) (u : ByteArray) (w : World) (hL : w.ownsRow B 9 1 v L.length (L.map strV)) (hB : B ≤ w.heap.size) (hn : L.length ≤ 8388608) :
    Calls Tryd.prog 72 #[v, .string u] w fun e w' => ∃ v', e = .returned (.tuple #[.int .i64 (spotOf (growL L u) u), v']) ∧ ButT 9 B w w' ∧ w'.ownsRow B 9 1 v' (growL L u).length ((growL L u).map strV) := by
  obtain ⟨i0, hi0, hz0, hz1, hz2⟩ := info_parts infoStr
  obtain ⟨A, c, rfl, _⟩ := rowown_shape hL
  obtain ⟨g, hg⟩ : ∃ g : Nat → ByteArray, (fun j => L.getD j .empty) = g := ⟨_, rfl⟩
  have HG := Lib.hid (fun j => congrFun hg j)
  have HL := Lib.hid hL
  have HC := Lib.hid (show ∀ j, j < L.length → ∃ b, A = some ⟨b, 0, none⟩ ∧ w.cell? ⟨b, j, none⟩ = some (.string (g j)) from fun j hj => by
    obtain ⟨b, cap, e, _, _⟩ := hL.form (by omega)
    injection e with e1 _ e3
    subst e1 e3
    refine ⟨b, rfl, ?_⟩
    rw [hL.cellAt j (by omega), ← hg]
    simp [strV, hj, List.getD_eq_getElem?_getD])
  clear hL hg
  go_enter Tryd.func72, Tryd.ntmps72
  go_wp2_with fail
  go_loopw [6] (fun i wr => ∃ k : Nat, k ≤ L.length ∧ i = .int .i64 k ∧ wr = w ∧ Hid (∀ j, j < k → (g j).toList ≠ u.toList)) (fun i _ => L.length - (intOf i).toNat)
  case atStart => exact ⟨0, Nat.zero_le _, rfl, by first | rfl | trivial, Lib.hid fun j hj => absurd hj (Nat.not_lt_zero _)⟩
  case round =>
    obtain ⟨k, hk, rfl, rfl, HN⟩ := hrel
    by_cases hlt : k < L.length
    · obtain ⟨b, eA, d0⟩ := HC.out k hlt
      subst eA
      obtain ⟨q, hq⟩ : ∃ q, ((g k).toList == u.toList) = q := ⟨_, rfl⟩
      cases q
      · have HQ := Lib.hid (show ∀ j, j < k + 1 → (g j).toList ≠ u.toList from fun j hj => by
          by_cases e : j = k
          · subst e; rw [beq_eq_false_iff_ne] at hq; exact hq
          · exact HN.out j (by omega))
        go_wp2_with fail
        go_roundw
        case rel => exact ⟨k + 1, by omega, by go_num, (by first | trivial | rfl), HQ⟩
        case measure => simp [intOf]; omega
      · have hs : spotOf L u = k := spot_hit hlt (by rw [beq_iff_eq] at hq; rw [HG.out k]; exact hq) (fun j hj => by rw [HG.out j]; exact HN.out j hj)
        have HE := Lib.hid (show growL L u = L ∧ spotOf (growL L u) u = k from by
          have e := grow_old (L := L) (v := u) (by omega)
          rw [e]
          exact ⟨rfl, hs⟩)
        clear hs
        go_wp2_with fail
        go_ret2
        exact ⟨.slice (some ⟨b, 0, none⟩) L.length c, by rw [HE.out.2]; rfl, ButT.refl _ _ _, by rw [HE.out.1]; exact HL.out⟩
    · obtain rfl : k = L.length := by omega
      have hs : spotOf L u = L.length := spot_none (fun j hj => by rw [HG.out j]; exact HN.out j hj)
      have HE := Lib.hid (show growL L u = L ++ [u] ∧ spotOf (growL L u) u = L.length from by
        obtain ⟨e1, e2⟩ := grow_new (L := L) (v := u) (by omega)
        rw [e1]
        exact ⟨rfl, e2⟩)
      clear hs
      go_wp2_with (at_builtin; go_loud (refine wpList_append_lies _ rfl _ _ _ rfl B 9 i0 _ 1 16 Tryd.underlying75 hi0 hz0 hz1 hz2 rfl (by omega) _ L.length (L.map strV) rfl (World.ownsRow.alloc HL.out _) ⟨wr.heap.size, 0, none⟩ 1 1 [.string u] rfl rfl (World.news_of_block (cs := #[.string u]) (t := 9) (fr := (0, 0)) (heap_alloc_new wr _)) (by simp [Value.oneCell']) (by omega) (by unfold maxLen; omega) (by omega) (by simp; omega) (wr.heap.size + 1) (by simp) ?_; intro gg gcap w9 hown9 hgrow hat hlt9))
      go_ret2
      refine ⟨.slice (some ⟨gg, 0, none⟩) (L.length + 1) gcap, ?_, ButT.push HL.out hB hgrow, ?_⟩
      · rw [HE.out.2]
        simp
      · rw [HE.out.1, List.length_append, List.map_append]
        exact hown9
theorem infoU8 : (Tryd.prog.info? 5).map (fun i => (i.zero, i.size, i.bytes)) = some (some (.int .u8 0), 1, 1) := by kernel_rfl
theorem dig_cell (n : Nat) : ((UInt8.ofNat (48 + n % 10)).toNat : Int) = 48 + (n : Int) % 10 := by
  rw [dig_val (Nat.mod_lt _ (by omega))]
  omega
theorem call_len {k : Nat} (hk : k < 10000000) : (callL k).length ≤ 8 := by
  have := digR_len 6 (k / 10) (by omega)
  unfold callL
  simp only [List.length_cons]
  omega
set_option maxRecDepth 100000 in
set_option maxHeartbeats 2000000 in
theorem called_any (k : Nat) (hk : k < 10000000) (w : World) : Calls Tryd.prog 73 #[.int .i64 k] w fun e w' => e = .returned (.string (calledB k)) ∧ Below w.heap.size w w' := by
  obtain ⟨i0, hi0, hz0, hz1, hz2⟩ := info_parts infoU8
  have hcl := call_len hk
  have HCL := Lib.hid hcl
  have hm0 : 0 ≤ (k : Int) % 10 := by omega
  have hm1 : (k : Int) % 10 ≤ 9 := by omega
  have hb0 := bnew (Below.refl w.heap.size w) (.cells #[.int .u8 118, .int .u8 (48 + (k : Int) % 10)] 5)
  have HO0 := Lib.hid (World.ownsRow_lit (base := w.heap.size) (e := 5) (size := 1) w #[.int .u8 118, .int .u8 (48 + (k : Int) % 10)] 2 (Nat.le_refl _) (by unfold maxLen; omega) rfl)
  clear hcl
  go_enter Tryd.func73, Tryd.ntmps73
  go_wp2_with fail
  go_loopw [0, 3] (fun i b wr => ∃ (n : Nat) (xs : List UInt8), i = .int .i64 n ∧ n ≤ k ∧ Hid (wr.ownsRow w.heap.size 5 1 b xs.length (byteCells xs)) ∧ Hid (xs ++ digR n = callL k) ∧ Below w.heap.size w wr) (fun i _ _ => (intOf i).toNat)
  case atStart =>
    refine ⟨k / 10, [118, UInt8.ofNat (48 + k % 10)], by go_num, by omega, Lib.hid ?_, Lib.hid rfl, hb0⟩
    have h := HO0.out
    have e : byteCells [118, UInt8.ofNat (48 + k % 10)] = [.int .u8 118, .int .u8 (48 + (k : Int) % 10)] := by
      unfold byteCells
      simp only [List.map_cons, List.map_nil, dig_cell]
      rfl
    rw [e]
    exact h
  case round =>
    clear hb0 HO0
    obtain ⟨n, xs, rfl, hn, HO, HX, hb⟩ := hrel
    obtain ⟨W1, e1⟩ : ∃ W1 : World, W1 = wr := ⟨_, rfl⟩
    subst e1
    have hz := hb.size
    have hxl : xs.length ≤ 8 := by
      have h1 := congrArg List.length HX.out
      rw [List.length_append] at h1
      have := HCL.out
      omega
    by_cases h0 : n = 0
    · subst h0
      have HE := Lib.hid (show (⟨xs.toArray⟩ : ByteArray) = calledB k by
        have h1 := HX.out
        rw [digR_zero, List.append_nil] at h1
        rw [h1]
        rfl)
      have hcv := run_string_own (P := Tryd.prog) W1 124 9 5 Tryd.underlying124 Tryd.underlying5 Tryd.underlying9 HO.out
      go_wp2_with fail
      go_ret
      exact ⟨by rw [← HE.out]; rfl, hb⟩
    · have hpos : (0 : Int) < (n : Int) := by omega
      have hm0 : 0 ≤ (n : Int) % 10 := by omega
      have hm1 : (n : Int) % 10 ≤ 9 := by omega
      have HX2 := Lib.hid (show (xs ++ [UInt8.ofNat (48 + n % 10)]) ++ digR (n / 10) = callL k by rw [← HX.out, digR_some h0, List.append_assoc]; rfl)
      have HE := Lib.hid (show byteCells xs ++ [.int .u8 (48 + (n : Int) % 10)] = byteCells (xs ++ [UInt8.ofNat (48 + n % 10)]) by
        unfold byteCells
        rw [List.map_append]
        simp only [List.map_cons, List.map_nil, dig_cell])
      go_wp2_with (at_builtin; go_loud (refine wpList_append_lies _ rfl _ _ _ rfl w.heap.size 5 i0 _ 1 1 Tryd.underlying124 hi0 hz0 hz1 hz2 rfl (by omega) _ xs.length (byteCells xs) rfl (World.ownsRow.alloc HO.out _) ⟨W1.heap.size, 0, none⟩ 1 1 [.int .u8 (48 + (n : Int) % 10)] rfl rfl (World.news_of_block (cs := #[.int .u8 (48 + (n : Int) % 10)]) (t := 5) (fr := (0, 0)) (heap_alloc_new W1 _)) (by simp [Value.oneCell']) (by omega) (by unfold maxLen; omega) (by omega) (by simp; omega) (W1.heap.size + 1) (by simp) ?_; intro gg gcap w9 hown9 hgrow hat hlt9))
      have hb9 := below_grown (bnew hb (.cells #[.int .u8 (48 + (n : Int) % 10)] 5)) hgrow (by simp; omega) (fun x hx => (HO.out.lt x hx).1)
      go_roundw
      case rel => exact ⟨n / 10, xs ++ [UInt8.ofNat (48 + n % 10)], by go_num, by omega, Lib.hid (by rw [List.length_append, ← HE.out]; exact hown9), HX2, hb9⟩
      case measure => simp [intOf]; omega
end Go.Proofs.YtagcbljfaflhoaaDoor

/-! ### The walk of renamedTree. -/
namespace Go.Proofs.YtagcbljfaflhoaaDoor
open Go.RowKit Go.ChangeShapes Go.WideShapes Go.ChangeAt Go.Deep Go.Joins
section
variable {e e' : TypeId} {B : Nat} {w wr w9 : World} {sz n : Nat} {v : Value} {xs : List Value} {o : Obj}
theorem ButT.alloc (h : ButT e B w wr) (hB : B ≤ w.heap.size) (o : Obj) : ButT e B w (wr.alloc o) := ⟨h.below.alloc (Nat.le_trans hB h.below.size) o, fun b cs T fr hb hT => blk_alloc (h.keep b cs T fr hb hT) o⟩
theorem ButT.set (h : ButT e B w wr) (hB : B ≤ w.heap.size) {p : Addr} (hp : w.heap.size ≤ p.block) (u : Value) : ButT e B w (wr.setCell p u) :=
  ⟨h.below.setCell (Nat.le_trans hB hp) u, fun b cs T fr hb hT => blk_other (h.keep b cs T fr hb hT) (by have := blk_lt hb; omega) u⟩
theorem ButT.grown (h : ButT e B w wr) (hB : B ≤ w.heap.size) (hr : wr.ownsRow w.heap.size e' sz v n xs) (hg : (wr.alloc o).grownBy w9 v.ownBlock) : ButT e B w w9 :=
  ⟨below_grown (h.below.alloc (Nat.le_trans hB h.below.size) o) hg (by have := h.below.size; simp; omega) (fun x hx => Nat.le_trans hB (hr.lt x hx).1), fun b cs T fr hb hT => blk_grown (blk_alloc (h.keep b cs T fr hb hT) o) hg (fun hv => by
    have h1 := (hr.lt b hv).1
    have h2 := blk_lt hb
    omega)⟩
end
theorem nod_snoc (g : Nat → Nod) (k : Nat) {x : Nod} (h : g k = x) : flat (fun j => nodCell (g j)) 6 (k + 1) = flat (fun j => nodCell (g j)) 6 k ++ [.int .i64 x.op, .int .i64 x.n, .string x.vr, .string x.at_, .int .i64 x.a, .int .i64 x.b] := by
  rw [flat_succ, h]
  rfl
set_option maxRecDepth 100000 in
set_option maxHeartbeats 8000000 in
theorem renTree_any (M : List ByteArray) (B : Nat) (aT : Option Addr) (n c : Nat) (f : Nat → Nod) (L : List ByteArray) (v : Value) (w : World) (hT : NodRd w B aT n f) (hL : w.ownsRow B 9 1 v L.length (L.map strV)) (hB : B ≤ w.heap.size) (hM : nmT L f n <+: M) (hlen : M.length ≤ 8388608) :
    Calls Tryd.prog 74 #[.slice aT n c, v] w fun e w' => ∃ o' v', e = .returned (.tuple #[o', v']) ∧ ButT 9 B w w' ∧ w'.ownsRow w.heap.size 60 6 o' n (flat (fun j => nodCell (renN (fun u => calledB (spotOf M u)) (f j))) 6 n) ∧ w'.ownsRow B 9 1 v' (nmT L f n).length ((nmT L f n).map strV) := by
  obtain ⟨i1, hi1, hy0, hy1, hy2⟩ := info_parts infoNode
  have hn := hT.1
  have HT := Lib.hid hT
  have HL := Lib.hid hL
  have HM := Lib.hid hM
  obtain ⟨g, hg⟩ : ∃ g : Nat → Nod, (fun j => renN (fun u => calledB (spotOf M u)) (f j)) = g := ⟨_, rfl⟩
  have HG := Lib.hid (fun j => congrFun hg j)
  have HGF := Lib.hid hg
  clear hT hL hM hg
  go_enter Tryd.func74, Tryd.ntmps74
  go_wp2_with fail
  go_loopw [1, 6, 7] (fun nv ov i wr => ∃ k : Nat, k ≤ n ∧ i = .int .i64 k ∧ Hid (wr.ownsRow B 9 1 nv (nmT L f k).length ((nmT L f k).map strV)) ∧ Hid (wr.ownsRow w.heap.size 60 6 ov k (flat (fun j => nodCell (g j)) 6 k)) ∧ Hid (ButT 9 B w wr)) (fun _ _ i _ => n - (intOf i).toNat)
  case atStart => exact ⟨0, Nat.zero_le _, rfl, HL, Lib.hid (by rw [flat_zero]; exact World.ownsRow_nil _ _ _ _), Lib.hid (ButT.refl _ _ _)⟩
  case round =>
    clear HL
    obtain ⟨k, hk, rfl, HNV, HOV, HBT⟩ := hrel
    obtain ⟨W1, e1⟩ : ∃ W1 : World, W1 = wr := ⟨_, rfl⟩
    subst e1
    have hz1 := HBT.out.below.size
    by_cases hlt : k < n
    · obtain ⟨tb, toff, rfl, htb, htc⟩ := NodRd.spot (NodRd.below HT.out HBT.out.below) (by omega)
      obtain ⟨c0, c1, c2, c3, c4, c5⟩ := htc k hlt
      obtain ⟨x, hx⟩ : ∃ x, f k = x := ⟨_, rfl⟩
      rw [hx] at c0 c1 c2 c3 c4 c5
      have HX := Lib.hid hx
      obtain ⟨op, nn, vr, at_, a, b2⟩ := x
      have c0 : W1.cell? ⟨tb, toff + k * 6, none⟩ = some (.int .i64 op) := c0
      have c1 : W1.cell? ⟨tb, toff + k * 6 + 1, none⟩ = some (.int .i64 nn) := c1
      have c2 : W1.cell? ⟨tb, toff + k * 6 + 2, none⟩ = some (.string vr) := c2
      have c3 : W1.cell? ⟨tb, toff + k * 6 + 3, none⟩ = some (.string at_) := c3
      have c4 : W1.cell? ⟨tb, toff + k * 6 + 4, none⟩ = some (.int .i64 a) := c4
      have c5 : W1.cell? ⟨tb, toff + k * 6 + 5, none⟩ = some (.int .i64 b2) := c5
      have N4 := Lib.hid (blk_new W1 #[.int .i64 op, .int .i64 nn, .string vr, .string at_, .int .i64 a, .int .i64 b2] 60)
      have HB4 := Lib.hid (ButT.alloc HBT.out hB (.cells #[.int .i64 op, .int .i64 nn, .string vr, .string at_, .int .i64 a, .int .i64 b2] 60))
      have HNV4 := Lib.hid (World.ownsRow.alloc HNV.out (.cells #[.int .i64 op, .int .i64 nn, .string vr, .string at_, .int .i64 a, .int .i64 b2] 60))
      have HOV4 := Lib.hid (World.ownsRow.alloc HOV.out (.cells #[.int .i64 op, .int .i64 nn, .string vr, .string at_, .int .i64 a, .int .i64 b2] 60))
      have hz4 : W1.heap.size < (W1.alloc (.cells #[.int .i64 op, .int .i64 nn, .string vr, .string at_, .int .i64 a, .int .i64 b2] 60)).heap.size := by simp
      clear htc hx
      go_upto_region 6 with fail
      generalize W1.alloc _ = w4 at *
      clear c0 c1 c2 c3 c4 c5
      have d2 := blk_cell N4.out (j := 2) rfl
      obtain ⟨ve, hve⟩ : ∃ ve, vr.toList.isEmpty = ve := ⟨_, rfl⟩
      have hnm : nmT L f (k + 1) <+: M := (nmT_pre (show k + 1 ≤ n from hlt)).trans HM.out
      have HNM := Lib.hid hnm
      have hlk : (nmT L f k).length ≤ 8388608 := Nat.le_trans ((nmT_pre (f := f) (L := L) (show k ≤ n from hk)).trans HM.out).length_le hlen
      clear hnm
      cases ve
      · have HVE := Lib.hid hve
        have HNX := Lib.hid (show nmT L f (k + 1) = growL (nmT L f k) vr by rw [nmT, HX.out, if_neg (by rw [hve]; simp)])
        obtain ⟨ix, hix⟩ : ∃ ix, spotOf (growL (nmT L f k) vr) vr = ix := ⟨_, rfl⟩
        have HIX := Lib.hid (show spotOf M vr = ix by rw [← hix, ← HNX.out]; exact spot_pre HNM.out (by rw [HNX.out]; exact grow_in))
        have hixl : ix < 10000000 := by
          have h1 : ix ≤ M.length := by rw [← HIX.out]; exact spot_le
          omega
        go_wp2_with fail
        refine (number_any B (nmT L f k) _ vr _ HNV4.out (by omega) hlk).mono ?_
        rw [hix]
        clear hix hve
        rintro e w5 ⟨v5, rfl, hb5, hown5⟩
        have N5 := Lib.hid (hb5.keep _ _ _ _ N4.out (by decide))
        have HOV5 := Lib.hid (ButT.row hb5 HOV4.out (by decide))
        have HB5 := Lib.hid (ButT.trans HB4.out hb5)
        have hz5 := hb5.below.size
        obtain ⟨A5, c5, rfl, _⟩ := rowown_shape hown5
        have HNV5 := Lib.hid (show w5.ownsRow B 9 1 (.slice A5 (growL (nmT L f k) vr).length c5) (nmT L f (k + 1)).length ((nmT L f (k + 1)).map strV) by rw [HNX.out]; exact hown5)
        clear hb5 hown5 d2
        go_wp2_with fail
        refine (called_any ix hixl _).mono ?_
        rintro e w6 ⟨rfl, hb6⟩
        have N6 := blk_below N5.out hb6
        have HOV6 := rowown_below HOV5.out hb6
        have HNV6 := rowown_below HNV5.out hb6
        have HB6 := ButT.trans HB5.out (ButT.of hb6 (by omega))
        have hz6 := hb6.size
        have d2 := blk_cell N6 (j := 2) rfl
        have f2 := blk_free N6 2
        have N7 : Hid ((w6.setCell ⟨W1.heap.size, 2, none⟩ (.string (calledB ix))).heap[W1.heap.size]? = some (.cells #[.int .i64 op, .int .i64 nn, .string (calledB ix), .string at_, .int .i64 a, .int .i64 b2] 60 (0, 0))) := Lib.hid (blk_set N6 2 (.string (calledB ix)))
        have HNV7 := Lib.hid (own_blk HNV6 N6 (by decide) 2 (.string (calledB ix)))
        have HOV7 := Lib.hid (rowown_far (g := W1.heap.size) (i := 2) HOV6 (fun e => by have := (HOV.out.lt _ e).2; omega) (.string (calledB ix)))
        have HB7 := Lib.hid (ButT.set HB6 hB (p := ⟨W1.heap.size, 2, none⟩) hz1 (.string (calledB ix)))
        clear N6 HOV6 HNV6 HB6 hb6
        go_upto_region 10 with fail
        generalize w6.setCell _ _ = w7 at *
        clear d2 f2
        have HGK := Lib.hid (show g k = ⟨op, nn, calledB ix, at_, a, b2⟩ by rw [← HG.out k, HX.out]; show (⟨op, nn, if vr.toList.isEmpty = true then vr else calledB (spotOf M vr), at_, a, b2⟩ : Nod) = _; rw [HVE.out, HIX.out]; rfl)
        go_wp2_with (first | (refine wpList_load_row rfl 60 _ rfl W1.heap.size rfl 60 _ (0, 0) _ N7.out Tryd.underlying60 rfl (by kernel_rfl) ?_) | (at_builtin; go_loud (refine wpList_append_lies _ rfl _ _ _ rfl w.heap.size 60 i1 _ 6 64 Tryd.underlying22 hi1 hy0 hy1 hy2 rfl (by omega) _ k (flat (fun j => nodCell (g j)) 6 k) rfl (World.ownsRow.alloc HOV7.out _) ⟨w7.heap.size, 0, none⟩ 1 1 [.int .i64 op, .int .i64 nn, .string (calledB ix), .string at_, .int .i64 a, .int .i64 b2] rfl rfl (World.news_of_block (cs := #[.int .i64 op, .int .i64 nn, .string (calledB ix), .string at_, .int .i64 a, .int .i64 b2]) (t := 60) (fr := (0, 0)) (heap_alloc_new w7 _)) (by simp [Value.oneCell']) (by omega) (by unfold maxLen; omega) (by omega) (by have := HB7.out.below.size; simp; omega) (w7.heap.size + 1) (by simp) ?_; intro gg gcap w9 hown9 hgrow hat hlt9)))
        have HOV9 := Lib.hid (show w9.ownsRow w.heap.size 60 6 (.slice (some ⟨gg, 0, none⟩) (k + 1) gcap) (k + 1) (flat (fun j => nodCell (g j)) 6 (k + 1)) by rw [nod_snoc g k HGK.out]; exact hown9)
        have HNV9 := Lib.hid (rowown_kept (World.ownsRow.alloc HNV7.out _) hgrow (fun q hq => rowown_type HOV7.out HNV7.out (by decide) hq))
        have HB9 := Lib.hid (ButT.grown HB7.out hB HOV7.out hgrow)
        go_roundw
        case rel => exact ⟨k + 1, by omega, by go_num, HNV9, HOV9, HB9⟩
        case measure => simp [intOf]; omega
      · have HNX := Lib.hid (show nmT L f (k + 1) = nmT L f k by rw [nmT, HX.out, if_pos hve])
        have HGK := Lib.hid (show g k = ⟨op, nn, vr, at_, a, b2⟩ by rw [← HG.out k, HX.out]; show (⟨op, nn, if vr.toList.isEmpty = true then vr else calledB (spotOf M vr), at_, a, b2⟩ : Nod) = _; rw [if_pos hve])
        have HNV4' := Lib.hid (show w4.ownsRow B 9 1 _ (nmT L f (k + 1)).length ((nmT L f (k + 1)).map strV) by rw [HNX.out]; exact HNV4.out)
        go_upto_region 10 with fail
        clear d2 hve
        go_wp2_with (first | (refine wpList_load_row rfl 60 _ rfl W1.heap.size rfl 60 _ (0, 0) _ N4.out Tryd.underlying60 rfl (by kernel_rfl) ?_) | (at_builtin; go_loud (refine wpList_append_lies _ rfl _ _ _ rfl w.heap.size 60 i1 _ 6 64 Tryd.underlying22 hi1 hy0 hy1 hy2 rfl (by omega) _ k (flat (fun j => nodCell (g j)) 6 k) rfl (World.ownsRow.alloc HOV4.out _) ⟨w4.heap.size, 0, none⟩ 1 1 [.int .i64 op, .int .i64 nn, .string vr, .string at_, .int .i64 a, .int .i64 b2] rfl rfl (World.news_of_block (cs := #[.int .i64 op, .int .i64 nn, .string vr, .string at_, .int .i64 a, .int .i64 b2]) (t := 60) (fr := (0, 0)) (heap_alloc_new w4 _)) (by simp [Value.oneCell']) (by omega) (by unfold maxLen; omega) (by omega) (by have := HB4.out.below.size; simp; omega) (w4.heap.size + 1) (by simp) ?_; intro gg gcap w9 hown9 hgrow hat hlt9)))
        have HOV9 := Lib.hid (show w9.ownsRow w.heap.size 60 6 (.slice (some ⟨gg, 0, none⟩) (k + 1) gcap) (k + 1) (flat (fun j => nodCell (g j)) 6 (k + 1)) by rw [nod_snoc g k HGK.out]; exact hown9)
        have HNV9 := Lib.hid (rowown_kept (World.ownsRow.alloc HNV4'.out _) hgrow (fun q hq => rowown_type HOV4.out HNV4'.out (by decide) hq))
        have HB9 := Lib.hid (ButT.grown HB4.out hB HOV4.out hgrow)
        go_roundw
        case rel => exact ⟨k + 1, by omega, by go_num, HNV9, HOV9, HB9⟩
        case measure => simp [intOf]; omega
    · obtain rfl : k = n := by omega
      have HE := Lib.hid (show W1.ownsRow w.heap.size 60 6 _ k (flat (fun j => nodCell (renN (fun u => calledB (spotOf M u)) (f j))) 6 k) by
        have h1 := HOV.out
        rw [← HGF.out] at h1
        exact h1)
      go_wp2_with fail
      go_ret2
      exact ⟨_, _, rfl, HBT.out, HE.out, HNV.out⟩
end Go.Proofs.YtagcbljfaflhoaaDoor

/-! ### The walk of renamed: a query with other names. -/
namespace Go.Proofs.YtagcbljfaflhoaaDoor
open Go.RowKit Go.ChangeShapes Go.WideShapes Go.ChangeAt Go.Deep Go.Joins
/-- k items with other names: their lists of types lie where they lay. -/
def RnI (wr : World) (B : Nat) (f : Nat → Itm) (tv : Nat → Value) (k : Nat) (v : Value) : Prop := wr.ownsRow B 80 5 v k (flat (fun j => itmCell (f j) (tv j)) 5 k)
theorem itm_snoc (f : Nat → Itm) (tv : Nat → Value) (k : Nat) {x : Itm} {u : Value} (h : f k = x) (hu : tv k = u) : flat (fun j => itmCell (f j) (tv j)) 5 (k + 1) = flat (fun j => itmCell (f j) (tv j)) 5 k ++ [.bool x.neg, u, .string x.vr, .int .i64 x.lo, .int .i64 x.hi] := by
  rw [flat_succ, h, hu]
  rfl
theorem tree_snoc (rv : Nat → Value) (k : Nat) (tv : Value) : flat (fun j _ => upd1 rv k tv j) 1 (k + 1) = flat (fun j _ => rv j) 1 k ++ [tv] := by
  have a1 : ∀ j, j < k → ∀ i, i < 1 → (fun (j _ : Nat) => upd1 rv k tv j) j i = (fun (j _ : Nat) => rv j) j i := fun j hj i _ => if_neg (by omega)
  rw [flat_succ, flat_congr a1]
  simp [upd1]
section
variable {wr w' : World} {B k : Nat} {v : Value} {ln : Nat → Nat} {g : Nat → Nat → Nod}
theorem TwT.butT {B' : Nat} (h : TwT wr B ln g k v) (hb : ButT 9 B' wr w') : TwT w' B ln g k v := by
  obtain ⟨rv, k1, k2⟩ := h
  exact ⟨rv, hb.row k1 (by decide), fun j hj => hb.row (k2 j hj) (by decide)⟩
end
set_option maxRecDepth 100000 in
set_option maxHeartbeats 8000000 in
theorem renamed_any (V : QryV) (Q : Qry) (w : World) (h : QryRd w w.heap.size V Q) (hlen : (namesF Q).length ≤ 8388608) :
    Calls Tryd.prog 35 #[.agg (qryArr V Q)] w fun e w' => ∃ V', e = .returned (.agg (qryArr V' (renQ (rho Q) Q))) ∧ Below w.heap.size w w' ∧ QryRd w' w'.heap.size V' (renQ (rho Q) Q) := by
  obtain ⟨aI, cI, aW, cW, aR, cR⟩ := V
  show Calls _ _ #[.agg #[.slice aI Q.n cI, .int .i64 Q.mode, .int .i64 Q.after, .slice aW Q.wn cW, .int .i64 Q.within, .string Q.by_, .slice aR Q.m cR]] w _
  obtain ⟨lI, zI, rI, lW, zW, rW, lR, zR, rR⟩ := h
  have rI : ItmsRd w w.heap.size aI Q.n Q.it := rI
  have rW : NodRd w w.heap.size aW Q.wn Q.wh := rW
  have rR : TreesRd w w.heap.size aR Q.m Q.ln Q.rt := rR
  have hnI := rI.small
  have hnW := rW.1
  have hnR := rR.small
  have b0 := blk_alloc (blk_alloc (blk_new w #[.slice aI Q.n cI, .int .i64 Q.mode, .int .i64 Q.after, .slice aW Q.wn cW, .int .i64 Q.within, .string Q.by_, .slice aR Q.m cR] 40) (.cells #[.slice none 0 0, .int .i64 0, .int .i64 0, .slice none 0 0, .int .i64 0, .string ⟨#[]⟩, .slice none 0 0] 40)) (.cells #[.slice none 0 0, .int .i64 Q.mode, .int .i64 Q.after, .slice aW Q.wn cW, .int .i64 Q.within, .string Q.by_, .slice none 0 0] 40)
  have b1 := blk_alloc (blk_new (w.alloc (.cells #[.slice aI Q.n cI, .int .i64 Q.mode, .int .i64 Q.after, .slice aW Q.wn cW, .int .i64 Q.within, .string Q.by_, .slice aR Q.m cR] 40)) #[.slice none 0 0, .int .i64 0, .int .i64 0, .slice none 0 0, .int .i64 0, .string ⟨#[]⟩, .slice none 0 0] 40) (.cells #[.slice none 0 0, .int .i64 Q.mode, .int .i64 Q.after, .slice aW Q.wn cW, .int .i64 Q.within, .string Q.by_, .slice none 0 0] 40)
  have b2 := blk_new ((w.alloc (.cells #[.slice aI Q.n cI, .int .i64 Q.mode, .int .i64 Q.after, .slice aW Q.wn cW, .int .i64 Q.within, .string Q.by_, .slice aR Q.m cR] 40)).alloc (.cells #[.slice none 0 0, .int .i64 0, .int .i64 0, .slice none 0 0, .int .i64 0, .string ⟨#[]⟩, .slice none 0 0] 40)) #[.slice none 0 0, .int .i64 Q.mode, .int .i64 Q.after, .slice aW Q.wn cW, .int .i64 Q.within, .string Q.by_, .slice none 0 0] 40
  have hb4 := bnew (bnew (bnew (Below.refl w.heap.size w) (.cells #[.slice aI Q.n cI, .int .i64 Q.mode, .int .i64 Q.after, .slice aW Q.wn cW, .int .i64 Q.within, .string Q.by_, .slice aR Q.m cR] 40)) (.cells #[.slice none 0 0, .int .i64 0, .int .i64 0, .slice none 0 0, .int .i64 0, .string ⟨#[]⟩, .slice none 0 0] 40)) (.cells #[.slice none 0 0, .int .i64 Q.mode, .int .i64 Q.after, .slice aW Q.wn cW, .int .i64 Q.within, .string Q.by_, .slice none 0 0] 40)
  have hz4 : (((w.alloc (.cells #[.slice aI Q.n cI, .int .i64 Q.mode, .int .i64 Q.after, .slice aW Q.wn cW, .int .i64 Q.within, .string Q.by_, .slice aR Q.m cR] 40)).alloc (.cells #[.slice none 0 0, .int .i64 0, .int .i64 0, .slice none 0 0, .int .i64 0, .string ⟨#[]⟩, .slice none 0 0] 40)).alloc (.cells #[.slice none 0 0, .int .i64 Q.mode, .int .i64 Q.after, .slice aW Q.wn cW, .int .i64 Q.within, .string Q.by_, .slice none 0 0] 40)).heap.size = w.heap.size + 3 := by simp
  simp only [World.size_alloc] at b1 b2
  have Y0 := Lib.hid (blk_alloc (blk_new w #[.slice aI Q.n cI, .int .i64 Q.mode, .int .i64 Q.after, .slice aW Q.wn cW, .int .i64 Q.within, .string Q.by_, .slice aR Q.m cR] 40) (.cells #[.slice none 0 0, .int .i64 0, .int .i64 0, .slice none 0 0, .int .i64 0, .string ⟨#[]⟩, .slice none 0 0] 40))
  have C0 := Lib.hid b0
  have C1 := Lib.hid b1
  have C2 := Lib.hid b2
  have RI := Lib.hid rI
  have RW := Lib.hid rW
  have RR := Lib.hid rR
  have HTV : ∀ j, ∃ u : Value, j < Q.n → ∃ b off a c, aI = some ⟨b, off, none⟩ ∧ b < w.heap.size ∧ u = .slice a (Q.it j).tn c ∧ (Q.it j).tn ≤ c ∧ (a = none → c = 0) ∧ TxtRd w w.heap.size a (Q.it j).tn (Q.it j).ty ∧ w.cell? ⟨b, off + j * 5, none⟩ = some (.bool (Q.it j).neg) ∧ w.cell? ⟨b, off + j * 5 + 1, none⟩ = some (.slice a (Q.it j).tn c) ∧ w.cell? ⟨b, off + j * 5 + 2, none⟩ = some (.string (Q.it j).vr) ∧ w.cell? ⟨b, off + j * 5 + 3, none⟩ = some (.int .i64 (Q.it j).lo) ∧ w.cell? ⟨b, off + j * 5 + 4, none⟩ = some (.int .i64 (Q.it j).hi) := fun j => by
    by_cases hj : j < Q.n
    · obtain ⟨b, off, e, hb, hc⟩ := rI.spot (by omega)
      obtain ⟨d0, ⟨a, c, d1, l, z, r⟩, d2, d3, d4⟩ := hc j hj
      exact ⟨_, fun _ => ⟨b, off, a, c, e, hb, rfl, l, z, r, d0, d1, d2, d3, d4⟩⟩
    · exact ⟨.bool false, fun h => absurd h hj⟩
  obtain ⟨tv, HTV⟩ := Classical.axiomOfChoice HTV
  have HTV := Lib.hid HTV
  clear b0 b1 b2 rI rW rR zI zW zR lI lW lR
  have e2 : w.heap.size + 1 + 1 ≠ w.heap.size := by omega
  have e3 : w.heap.size + 1 + 1 ≠ w.heap.size + 1 := by omega
  obtain ⟨i1, hi1, hy0, hy1, hy2⟩ := info_parts infoItm
  obtain ⟨i2, hi2, hx0, hx1, hx2⟩ := info_parts infoTree
  go_enter Tryd.func35, Tryd.ntmps35
  go_wp2_with (refine wpList_load_row rfl 40 _ rfl w.heap.size rfl 40 _ (0, 0) _ Y0.out Tryd.underlying40 rfl (by kernel_rfl) ?_)
  generalize ((w.alloc _).alloc _).alloc _ = w4 at *
  obtain ⟨B, hB⟩ : ∃ B, B = w.heap.size + 3 := ⟨_, rfl⟩
  have hz4' : B ≤ w4.heap.size := by omega
  have hB1 : w.heap.size + 3 ≤ B := by omega
  clear hz4 hB
  go_loopw [3, 5] (fun nv i wr => ∃ (k : Nat) (ov : Value), k ≤ Q.n ∧ i = .int .i64 k ∧ Below w.heap.size w wr ∧ B ≤ wr.heap.size ∧ Hid (wr.ownsRow B 9 1 nv (nmI Q.it k).length ((nmI Q.it k).map strV)) ∧ Hid (RnI wr B (fun j => renI (rho Q) (Q.it j)) tv k ov) ∧
    Hid (wr.heap[w.heap.size]? = some (.cells #[.slice aI Q.n cI, .int .i64 Q.mode, .int .i64 Q.after, .slice aW Q.wn cW, .int .i64 Q.within, .string Q.by_, .slice aR Q.m cR] 40 (0, 0))) ∧
    Hid (wr.heap[w.heap.size + 1]? = some (.cells #[.slice none 0 0, .int .i64 0, .int .i64 0, .slice none 0 0, .int .i64 0, .string ⟨#[]⟩, .slice none 0 0] 40 (0, 0))) ∧
    Hid (wr.heap[w.heap.size + 1 + 1]? = some (.cells #[ov, .int .i64 Q.mode, .int .i64 Q.after, .slice aW Q.wn cW, .int .i64 Q.within, .string Q.by_, .slice none 0 0] 40 (0, 0)))) (fun _ i _ => Q.n - (intOf i).toNat)
  case atStart => exact ⟨0, .slice none 0 0, Nat.zero_le _, rfl, hb4, hz4', Lib.hid (World.ownsRow_nil _ _ _ _), Lib.hid (by unfold RnI; rw [flat_zero]; exact World.ownsRow_nil _ _ _ _), C0, C1, C2⟩
  case round =>
    clear C0 C1 C2 Y0
    obtain ⟨k, ov, hk, rfl, hb, hz, HNV, HS, B0, B1, B2⟩ := hrel
    obtain ⟨W1, e1⟩ : ∃ W1 : World, W1 = wr := ⟨_, rfl⟩
    subst e1
    have x0 := blk_cell B0.out (j := 0) rfl
    by_cases hlt : k < Q.n
    · obtain ⟨b, off, aa, ac, eA, hbl, eT, hl2, hz2, hrow, d0, d1, d2, d3, d4⟩ := HTV.out k hlt
      subst eA
      have HET := Lib.hid eT
      have g0 := (hb.cell (p := ⟨b, off + k * 5, none⟩) hbl).trans d0
      have g1 := (hb.cell (p := ⟨b, off + k * 5 + 1, none⟩) hbl).trans d1
      have g2 := (hb.cell (p := ⟨b, off + k * 5 + 2, none⟩) hbl).trans d2
      have g3 := (hb.cell (p := ⟨b, off + k * 5 + 3, none⟩) hbl).trans d3
      have g4 := (hb.cell (p := ⟨b, off + k * 5 + 4, none⟩) hbl).trans d4
      have hb5' := bnew (Below.refl W1.heap.size W1) (.cells #[.bool (Q.it k).neg, .slice aa (Q.it k).tn ac, .string (Q.it k).vr, .int .i64 (Q.it k).lo, .int .i64 (Q.it k).hi] 80)
      have I5 := Lib.hid (blk_new W1 #[.bool (Q.it k).neg, .slice aa (Q.it k).tn ac, .string (Q.it k).vr, .int .i64 (Q.it k).lo, .int .i64 (Q.it k).hi] 80)
      have hz5 : W1.heap.size < (W1.alloc (.cells #[.bool (Q.it k).neg, .slice aa (Q.it k).tn ac, .string (Q.it k).vr, .int .i64 (Q.it k).lo, .int .i64 (Q.it k).hi] 80)).heap.size := by simp
      have V0 := Lib.hid (blk_below B0.out hb5')
      have V1 := Lib.hid (blk_below B1.out hb5')
      have V2 := Lib.hid (blk_below B2.out hb5')
      have HNV5 := Lib.hid (rowown_below HNV.out hb5')
      have HS5 := Lib.hid (show RnI (W1.alloc (.cells #[.bool (Q.it k).neg, .slice aa (Q.it k).tn ac, .string (Q.it k).vr, .int .i64 (Q.it k).lo, .int .i64 (Q.it k).hi] 80)) B (fun j => renI (rho Q) (Q.it j)) tv k ov from rowown_below HS.out hb5')
      have hne : ov.ownBlock ≠ some W1.heap.size := fun e => by have := (World.ownsRow.lt HS.out _ e).2; omega
      have hb5 := bcall hb hb5'
      have hlk : (nmI Q.it k).length ≤ 8388608 := Nat.le_trans ((nmI_pre (it := Q.it) hk).trans preI).length_le hlen
      have HPRE := Lib.hid (show nmI Q.it (k + 1) <+: namesF Q from (nmI_pre (show k + 1 ≤ Q.n from hlt)).trans preI)
      obtain ⟨ix, hix⟩ : ∃ ix, spotOf (growL (nmI Q.it k) (Q.it k).vr) (Q.it k).vr = ix := ⟨_, rfl⟩
      have HRH := Lib.hid (show rho Q (Q.it k).vr = calledB ix by
        have h1 : spotOf (namesF Q) (Q.it k).vr = ix := by rw [← hix]; exact spot_pre HPRE.out grow_in
        rw [rho, h1])
      have hixl : ix < 10000000 := by
        have h2 : spotOf (growL (nmI Q.it k) (Q.it k).vr) (Q.it k).vr ≤ (growL (nmI Q.it k) (Q.it k).vr).length := spot_le
        have h3 := grow_len (L := nmI Q.it k) (v := (Q.it k).vr)
        omega
      clear d0 d1 d2 d3 d4 hrow hz2 eT HNV
      go_upto_region 9 with fail
      generalize W1.alloc _ = w5 at *
      clear g0 g1 g2 g3 g4 x0
      have t2 := blk_cell I5.out (j := 2) rfl
      go_wp2_with fail
      refine (number_any B (nmI Q.it k) _ (Q.it k).vr _ HNV5.out (by omega) hlk).mono ?_
      rw [hix]
      clear hix
      rintro e w6 ⟨v6, rfl, hb6, hown6⟩
      obtain ⟨A6, c6, rfl, _⟩ := rowown_shape hown6
      have I6 := Lib.hid (hb6.keep _ _ _ _ I5.out (by decide))
      have U0 := Lib.hid (hb6.keep _ _ _ _ V0.out (by decide))
      have U1 := Lib.hid (hb6.keep _ _ _ _ V1.out (by decide))
      have U2 := Lib.hid (hb6.keep _ _ _ _ V2.out (by decide))
      have HS6 := Lib.hid (show RnI w6 B (fun j => renI (rho Q) (Q.it j)) tv k ov from ButT.row hb6 HS5.out (by decide))
      have HNV6 := Lib.hid (show w6.ownsRow B 9 1 (.slice A6 (growL (nmI Q.it k) (Q.it k).vr).length c6) (nmI Q.it (k + 1)).length ((nmI Q.it (k + 1)).map strV) from hown6)
      have hz6 := hb6.below.size
      have hb6' := hb5.trans (hb6.below.mono (by omega))
      clear hown6 hb6 t2
      go_wp2_with fail
      refine (called_any ix hixl _).mono ?_
      rintro e w7 ⟨rfl, hb7⟩
      have I7 := blk_below I6.out hb7
      have p2 := blk_cell I7 (j := 2) rfl
      have q2 := blk_free I7 2
      have hz7 := hb7.size
      have e5 : W1.heap.size ≠ w.heap.size := by have := hb.size; omega
      have e6 : W1.heap.size ≠ w.heap.size + 1 := by omega
      have e7 : W1.heap.size ≠ w.heap.size + 1 + 1 := by omega
      have R0 := Lib.hid (blk_other (blk_below U0.out hb7) (p := ⟨W1.heap.size, 2, none⟩) e5 (.string (calledB ix)))
      have R1 := Lib.hid (blk_other (blk_below U1.out hb7) (p := ⟨W1.heap.size, 2, none⟩) e6 (.string (calledB ix)))
      have R2 := Lib.hid (blk_other (blk_below U2.out hb7) (p := ⟨W1.heap.size, 2, none⟩) e7 (.string (calledB ix)))
      have I8 : Hid ((w7.setCell ⟨W1.heap.size, 2, none⟩ (.string (calledB ix))).heap[W1.heap.size]? = some (.cells #[.bool (Q.it k).neg, .slice aa (Q.it k).tn ac, .string (calledB ix), .int .i64 (Q.it k).lo, .int .i64 (Q.it k).hi] 80 (0, 0))) := Lib.hid (blk_set I7 2 (.string (calledB ix)))
      have HO8 := Lib.hid (rowown_far (g := W1.heap.size) (i := 2) (rowown_below HS6.out hb7) hne (.string (calledB ix)))
      have HNV8 := Lib.hid (own_blk (rowown_below HNV6.out hb7) I7 (by decide) 2 (.string (calledB ix)))
      have hb8 := bset (bcall hb6' hb7) (p := ⟨W1.heap.size, 2, none⟩) (by have := hb.size; simp; omega) (.string (calledB ix))
      have hz8 : B ≤ (w7.setCell ⟨W1.heap.size, 2, none⟩ (.string (calledB ix))).heap.size := by simp; omega
      clear I7
      go_upto_region 12 with fail
      generalize w7.setCell _ _ = w8 at *
      clear p2 q2
      have y0 := blk_cell R2.out (j := 0) rfl
      go_wp2_with (first | (refine wpList_load_row rfl 80 _ rfl W1.heap.size rfl 80 _ (0, 0) _ I8.out Tryd.underlying80 rfl (by kernel_rfl) ?_) | (at_builtin; go_loud (refine wpList_append_lies _ rfl _ _ _ rfl B 80 i1 _ 5 64 Tryd.underlying35 hi1 hy0 hy1 hy2 rfl (by omega) ov k (flat (fun j => itmCell (renI (rho Q) (Q.it j)) (tv j)) 5 k) rfl (HO8.out.alloc _) ⟨w8.heap.size, 0, none⟩ 1 1 [.bool (Q.it k).neg, .slice aa (Q.it k).tn ac, .string (calledB ix), .int .i64 (Q.it k).lo, .int .i64 (Q.it k).hi] rfl rfl (World.news_of_block (cs := #[.bool (Q.it k).neg, .slice aa (Q.it k).tn ac, .string (calledB ix), .int .i64 (Q.it k).lo, .int .i64 (Q.it k).hi]) (t := 80) (fr := (0, 0)) (heap_alloc_new w8 _)) (by simp [Value.oneCell']) (by omega) (by unfold maxLen; omega) (by omega) (by simp; omega) (w8.heap.size + 1) (by simp) ?_; intro gg gcap w9 hown9 hgrow hat hlt9; have S0 := Lib.hid (blk_grown (blk_alloc R0.out _) hgrow (rowown_ne HO8.out (show w.heap.size < B by omega))); have S1 := Lib.hid (blk_grown (blk_alloc R1.out _) hgrow (rowown_ne HO8.out (show w.heap.size + 1 < B by omega))); have S2 := Lib.hid (blk_grown (blk_alloc R2.out _) hgrow (rowown_ne HO8.out (show w.heap.size + 1 + 1 < B by omega))); have y09 := blk_cell S2.out (j := 0) rfl; have f09 := blk_free S2.out 0)))
      have hb9 := below_grown (bnew hb8 (.cells #[.bool (Q.it k).neg, .slice aa (Q.it k).tn ac, .string (calledB ix), .int .i64 (Q.it k).lo, .int .i64 (Q.it k).hi] 80)) hgrow (by have := hb8.size; simp; omega) (fun x hx => by have := (HO8.out.lt x hx).1; omega)
      have hs9 := hgrow.size
      have hbf := bset hb9 (p := ⟨w.heap.size + 1 + 1, 0, none⟩) (show w.heap.size ≤ w.heap.size + 1 + 1 by omega) (.slice (some ⟨gg, 0, none⟩) (k + 1) gcap)
      have HS9 := Lib.hid (show RnI (w9.setCell ⟨w.heap.size + 1 + 1, 0, none⟩ (.slice (some ⟨gg, 0, none⟩) (k + 1) gcap)) B (fun j => renI (rho Q) (Q.it j)) tv (k + 1) (.slice (some ⟨gg, 0, none⟩) (k + 1) gcap) from by
        unfold RnI
        rw [itm_snoc (fun j => renI (rho Q) (Q.it j)) tv k (x := ⟨(Q.it k).neg, (Q.it k).tn, (Q.it k).ty, calledB ix, (Q.it k).lo, (Q.it k).hi⟩) (u := .slice aa (Q.it k).tn ac) (by show renI (rho Q) (Q.it k) = _; rw [renI, HRH.out]) HET.out]
        exact own_blk hown9 S2.out (by decide) 0 _)
      have HNV9 := Lib.hid (own_blk (rowown_kept (World.ownsRow.alloc HNV8.out _) hgrow (fun q hq => rowown_type HO8.out HNV8.out (by decide) hq)) S2.out (by decide) 0 (.slice (some ⟨gg, 0, none⟩) (k + 1) gcap))
      have D0 := Lib.hid (blk_other S0.out (p := ⟨w.heap.size + 1 + 1, 0, none⟩) e2 (.slice (some ⟨gg, 0, none⟩) (k + 1) gcap))
      have D1 := Lib.hid (blk_other S1.out (p := ⟨w.heap.size + 1 + 1, 0, none⟩) e3 (.slice (some ⟨gg, 0, none⟩) (k + 1) gcap))
      have D2 := Lib.hid (blk_set S2.out 0 (.slice (some ⟨gg, 0, none⟩) (k + 1) gcap))
      have hzf : B ≤ (w9.setCell ⟨w.heap.size + 1 + 1, 0, none⟩ (.slice (some ⟨gg, 0, none⟩) (k + 1) gcap)).heap.size := by simp at hs9 ⊢; omega
      go_roundw
      case rel => exact ⟨k + 1, (.slice (some ⟨gg, 0, none⟩) (k + 1) gcap), by omega, by go_num, hbf, hzf, HNV9, HS9, D0, D1, D2⟩
      case measure => simp [intOf]; omega
    · obtain rfl : k = Q.n := by omega
      obtain ⟨A0, c0, rfl, l0, z0⟩ := rowown_shape HS.out
      have HZ0 := Lib.hid z0
      have HL0 := Lib.hid l0
      have x3 := blk_cell B0.out (j := 3) rfl
      have hw3 : w.heap.size ≤ B := by omega
      clear z0 l0
      go_wp2_with fail
      refine (renTree_any (namesF Q) B aW Q.wn cW Q.wh (nmI Q.it Q.n) _ _ (RowRd.more (NodRd.below RW.out hb) hw3) HNV.out hz preT hlen).mono ?_
      rintro e w6 ⟨o6, v6, rfl, hb6, hown6, hnv6⟩
      obtain ⟨A3, c3, rfl, l3, z3⟩ := rowown_shape hown6
      obtain ⟨An, cn, rfl, _⟩ := rowown_shape hnv6
      have HZ3 := Lib.hid z3
      have HL3 := Lib.hid l3
      have hz6 := hb6.below.size
      have u0 := hb6.keep _ _ _ _ B0.out (by decide)
      have u1 := hb6.keep _ _ _ _ B1.out (by decide)
      have u2 := hb6.keep _ _ _ _ B2.out (by decide)
      have y3 := blk_cell u2 (j := 3) rfl
      have f3 := blk_free u2 3
      have hb7 := bset (hb.trans (hb6.below.mono (by omega))) (p := ⟨w.heap.size + 1 + 1, 3, none⟩) (show w.heap.size ≤ w.heap.size + 1 + 1 by omega) (.slice A3 Q.wn c3)
      have C0 := Lib.hid (blk_other u0 (p := ⟨w.heap.size + 1 + 1, 3, none⟩) e2 (.slice A3 Q.wn c3))
      have C1 := Lib.hid (blk_other u1 (p := ⟨w.heap.size + 1 + 1, 3, none⟩) e3 (.slice A3 Q.wn c3))
      have C2 := Lib.hid (blk_set u2 3 (.slice A3 Q.wn c3))
      have HI := Lib.hid (show RnI (w6.setCell ⟨w.heap.size + 1 + 1, 3, none⟩ (.slice A3 Q.wn c3)) B (fun j => renI (rho Q) (Q.it j)) tv Q.n (.slice A0 Q.n c0) from own_blk (ButT.row hb6 HS.out (by decide)) u2 (by decide) 3 (.slice A3 Q.wn c3))
      have HW := Lib.hid (show (w6.setCell ⟨w.heap.size + 1 + 1, 3, none⟩ (.slice A3 Q.wn c3)).ownsRow B 60 6 (.slice A3 Q.wn c3) Q.wn (flat (fun j => nodCell (renN (rho Q) (Q.wh j))) 6 Q.wn) from own_blk (ownsRow_le hown6 hz) u2 (by decide) 3 (.slice A3 Q.wn c3))
      have HNV7 := Lib.hid (own_blk hnv6 u2 (by decide) 3 (.slice A3 Q.wn c3))
      have hz7 : B ≤ (w6.setCell ⟨w.heap.size + 1 + 1, 3, none⟩ (.slice A3 Q.wn c3)).heap.size := by simp; omega
      clear u0 u1 u2 hown6 hnv6 z3 l3 hb6
      go_upto_region 14 with fail
      generalize w6.setCell _ _ = w7 at *
      clear y3 f3 x3 x0 B0 B1 B2 HS HNV
      go_wp2_with fail
      go_loopw [3, 8] (fun nv i wr => ∃ (k : Nat) (ov : Value), k ≤ Q.m ∧ i = .int .i64 k ∧ Below w.heap.size w wr ∧ B ≤ wr.heap.size ∧ Hid (wr.ownsRow B 9 1 nv (nmR (nmT (nmI Q.it Q.n) Q.wh Q.wn) Q.ln Q.rt k).length ((nmR (nmT (nmI Q.it Q.n) Q.wh Q.wn) Q.ln Q.rt k).map strV)) ∧ Hid (RnI wr B (fun j => renI (rho Q) (Q.it j)) tv Q.n (.slice A0 Q.n c0)) ∧ Hid (wr.ownsRow B 60 6 (.slice A3 Q.wn c3) Q.wn (flat (fun j => nodCell (renN (rho Q) (Q.wh j))) 6 Q.wn)) ∧ Hid (TwT wr B Q.ln (fun j i => renN (rho Q) (Q.rt j i)) k ov) ∧
        Hid (wr.heap[w.heap.size]? = some (.cells #[.slice aI Q.n cI, .int .i64 Q.mode, .int .i64 Q.after, .slice aW Q.wn cW, .int .i64 Q.within, .string Q.by_, .slice aR Q.m cR] 40 (0, 0))) ∧
        Hid (wr.heap[w.heap.size + 1]? = some (.cells #[.slice none 0 0, .int .i64 0, .int .i64 0, .slice none 0 0, .int .i64 0, .string ⟨#[]⟩, .slice none 0 0] 40 (0, 0))) ∧
        Hid (wr.heap[w.heap.size + 1 + 1]? = some (.cells #[.slice A0 Q.n c0, .int .i64 Q.mode, .int .i64 Q.after, .slice A3 Q.wn c3, .int .i64 Q.within, .string Q.by_, ov] 40 (0, 0)))) (fun _ i _ => Q.m - (intOf i).toNat)
      case atStart => exact ⟨0, .slice none 0 0, Nat.zero_le _, rfl, hb7, hz7, HNV7, HI, HW, Lib.hid ⟨fun _ => .slice none 0 0, by rw [flat_zero]; exact World.ownsRow_nil _ _ _ _, fun j hj => absurd hj (Nat.not_lt_zero _)⟩, C0, C1, C2⟩
      case round =>
        clear C0 C1 C2 HI HW HNV7 hb hz hb7 hz7
        obtain ⟨k, ov, hk, rfl, hb, hz, HNV, HI, HW, HS, B0, B1, B2⟩ := hrel
        obtain ⟨W1, e1⟩ : ∃ W1 : World, W1 = wr := ⟨_, rfl⟩
        subst e1
        have x6 := blk_cell B0.out (j := 6) rfl
        by_cases hlt : k < Q.m
        · obtain ⟨b, off, eA, hbl, hcs⟩ := RR.out.spot (by omega)
          subst eA
          obtain ⟨aa, ac, d1, hl2, hz2, hrow⟩ := hcs k hlt
          have d2 := (hb.cell (p := ⟨b, off + k, none⟩) hbl).trans d1
          have HR := Lib.hid (show NodRd W1 B aa (Q.ln k) (Q.rt k) from RowRd.more (NodRd.below hrow hb) hw3)
          have HPRE := Lib.hid (show nmT (nmR (nmT (nmI Q.it Q.n) Q.wh Q.wn) Q.ln Q.rt k) (Q.rt k) (Q.ln k) <+: namesF Q from nmR_pre (show k + 1 ≤ Q.m from hlt))
          clear hcs d1 hrow hz2
          go_wp2_with fail
          refine (renTree_any (namesF Q) B aa (Q.ln k) ac (Q.rt k) _ _ _ HR.out HNV.out hz HPRE.out hlen).mono ?_
          rintro e w8 ⟨o8, v8, rfl, hb8, hown8, hnv8⟩
          obtain ⟨ta, tc, rfl, _⟩ := rowown_shape hown8
          obtain ⟨An, cn, rfl, _⟩ := rowown_shape hnv8
          obtain ⟨rv, hr1, hr2⟩ := HS.out.butT hb8
          have R0 := Lib.hid (hb8.keep _ _ _ _ B0.out (by decide))
          have R1 := Lib.hid (hb8.keep _ _ _ _ B1.out (by decide))
          have R2 := Lib.hid (hb8.keep _ _ _ _ B2.out (by decide))
          have y6 := blk_cell R2.out (j := 6) rfl
          have hz8 := hb8.below.size
          have HO1 := Lib.hid hr1
          have HO2 := Lib.hid hr2
          have HO7 := Lib.hid (show w8.ownsRow W1.heap.size 60 6 (.slice ta (Q.ln k) tc) (Q.ln k) (flat (fun i => nodCell (renN (rho Q) (Q.rt k i))) 6 (Q.ln k)) from hown8)
          have HI8 := Lib.hid (show RnI w8 B (fun j => renI (rho Q) (Q.it j)) tv Q.n (.slice A0 Q.n c0) from ButT.row hb8 HI.out (by decide))
          have HW8 := Lib.hid (ButT.row hb8 HW.out (by decide))
          have HNV8 := Lib.hid (show w8.ownsRow B 9 1 _ (nmR (nmT (nmI Q.it Q.n) Q.wh Q.wn) Q.ln Q.rt (k + 1)).length ((nmR (nmT (nmI Q.it Q.n) Q.wh Q.wn) Q.ln Q.rt (k + 1)).map strV) from hnv8)
          have hb8' := hb.trans (hb8.below.mono hw3)
          clear hr1 hr2 hown8 hnv8 hb8
          go_wp2_with (at_builtin; go_loud (refine wpList_append_lies _ rfl _ _ _ rfl B 22 i2 _ 1 24 Tryd.underlying38 hi2 hx0 hx1 hx2 rfl (by omega) ov k (flat (fun j _ => rv j) 1 k) rfl (HO1.out.alloc _) ⟨w8.heap.size, 0, none⟩ 1 1 [.slice ta (Q.ln k) tc] rfl rfl (World.news_of_block (cs := #[.slice ta (Q.ln k) tc]) (t := 22) (fr := (0, 0)) (heap_alloc_new w8 _)) (by simp [Value.oneCell']) (by omega) (by unfold maxLen; omega) (by omega) (by simp; omega) (w8.heap.size + 1) (by simp) ?_; intro gg gcap w9 hown9 hgrow hat hlt9; have S0 := Lib.hid (blk_grown (blk_alloc R0.out _) hgrow (rowown_ne HO1.out (show w.heap.size < B by omega))); have S1 := Lib.hid (blk_grown (blk_alloc R1.out _) hgrow (rowown_ne HO1.out (show w.heap.size + 1 < B by omega))); have S2 := Lib.hid (blk_grown (blk_alloc R2.out _) hgrow (rowown_ne HO1.out (show w.heap.size + 1 + 1 < B by omega))); have y69 := blk_cell S2.out (j := 6) rfl; have f69 := blk_free S2.out 6))
          have hb9 := below_grown (bnew hb8' (.cells #[.slice ta (Q.ln k) tc] 22)) hgrow (by have := hb8'.size; simp; omega) (fun x hx => by have := (HO1.out.lt x hx).1; omega)
          have hs9 := hgrow.size
          have hbf := bset hb9 (p := ⟨w.heap.size + 1 + 1, 6, none⟩) (show w.heap.size ≤ w.heap.size + 1 + 1 by omega) (.slice (some ⟨gg, 0, none⟩) (k + 1) gcap)
          have HT9 := Lib.hid (TwT.set (TwT.snoc (g := fun j i => renN (rho Q) (Q.rt j i)) HO1.out HO2.out HO7.out (by omega) hgrow hown9) S2.out (by decide) (by decide) 6 (.slice (some ⟨gg, 0, none⟩) (k + 1) gcap))
          have HI9 := Lib.hid (show RnI (w9.setCell ⟨w.heap.size + 1 + 1, 6, none⟩ (.slice (some ⟨gg, 0, none⟩) (k + 1) gcap)) B (fun j => renI (rho Q) (Q.it j)) tv Q.n (.slice A0 Q.n c0) from own_blk (rowown_kept (World.ownsRow.alloc HI8.out _) hgrow (fun q hq => rowown_type HO1.out HI8.out (by decide) hq)) S2.out (by decide) 6 _)
          have HW9 := Lib.hid (own_blk (rowown_kept (HW8.out.alloc _) hgrow (fun g hg => rowown_type HO1.out HW8.out (by decide) hg)) S2.out (by decide) 6 (.slice (some ⟨gg, 0, none⟩) (k + 1) gcap))
          have HNV9 := Lib.hid (own_blk (rowown_kept (World.ownsRow.alloc HNV8.out _) hgrow (fun q hq => rowown_type HO1.out HNV8.out (by decide) hq)) S2.out (by decide) 6 (.slice (some ⟨gg, 0, none⟩) (k + 1) gcap))
          have D0 := Lib.hid (blk_other S0.out (p := ⟨w.heap.size + 1 + 1, 6, none⟩) e2 (.slice (some ⟨gg, 0, none⟩) (k + 1) gcap))
          have D1 := Lib.hid (blk_other S1.out (p := ⟨w.heap.size + 1 + 1, 6, none⟩) e3 (.slice (some ⟨gg, 0, none⟩) (k + 1) gcap))
          have D2 := Lib.hid (blk_set S2.out 6 (.slice (some ⟨gg, 0, none⟩) (k + 1) gcap))
          have hzf : B ≤ (w9.setCell ⟨w.heap.size + 1 + 1, 6, none⟩ (.slice (some ⟨gg, 0, none⟩) (k + 1) gcap)).heap.size := by simp at hs9 ⊢; omega
          go_roundw
          case rel => exact ⟨k + 1, (.slice (some ⟨gg, 0, none⟩) (k + 1) gcap), by omega, by go_num, hbf, hzf, HNV9, HI9, HW9, HT9, D0, D1, D2⟩
          case measure => simp [intOf]; omega
        · obtain rfl : k = Q.m := by omega
          obtain ⟨A6, c6, rfl, l6, z6⟩ : ∃ A6 c6, ov = .slice A6 Q.m c6 ∧ Q.m ≤ c6 ∧ (A6 = none → c6 = 0) := by
            obtain ⟨_, h4, _⟩ := HS.out
            exact rowown_shape h4
          have hbf := below_setRow (cs := #[.slice A0 Q.n c0, .int .i64 Q.mode, .int .i64 Q.after, .slice A3 Q.wn c3, .int .i64 Q.within, .string Q.by_, .slice A6 Q.m c6]) hb (Nat.le_succ w.heap.size)
          have HF : Hid (QryRd (W1.setRow (w.heap.size + 1) #[.slice A0 Q.n c0, .int .i64 Q.mode, .int .i64 Q.after, .slice A3 Q.wn c3, .int .i64 Q.within, .string Q.by_, .slice A6 Q.m c6]) (W1.setRow (w.heap.size + 1) #[.slice A0 Q.n c0, .int .i64 Q.mode, .int .i64 Q.after, .slice A3 Q.wn c3, .int .i64 Q.within, .string Q.by_, .slice A6 Q.m c6]).heap.size ⟨A0, c0, A3, c3, A6, c6⟩ (renQ (rho Q) Q)) := Lib.hid (by
            have q1 := own_row HI.out B1.out (by decide) #[.slice A0 Q.n c0, .int .i64 Q.mode, .int .i64 Q.after, .slice A3 Q.wn c3, .int .i64 Q.within, .string Q.by_, .slice A6 Q.m c6]
            have q2 := own_row HW.out B1.out (by decide) #[.slice A0 Q.n c0, .int .i64 Q.mode, .int .i64 Q.after, .slice A3 Q.wn c3, .int .i64 Q.within, .string Q.by_, .slice A6 Q.m c6]
            have q3 := TwT.row HS.out B1.out (by decide) (by decide) #[.slice A0 Q.n c0, .int .i64 Q.mode, .int .i64 Q.after, .slice A3 Q.wn c3, .int .i64 Q.within, .string Q.by_, .slice A6 Q.m c6]
            refine ⟨HL0.out, HZ0.out, ⟨tv, rowown_rd q1 (by have := RI.out; obtain ⟨_, h, _⟩ := this; exact h.1), fun j hj => ?_⟩, HL3.out, HZ3.out, rowown_rd q2 hnW, l6, z6, q3.rd (by have := RR.out; obtain ⟨_, h, _⟩ := this; exact h.1) (fun j hj => ?_)⟩
            · obtain ⟨_, _, a, c, _, _, eT, hl, hz', hr, _⟩ := HTV.out j hj
              exact ⟨a, c, eT, hl, hz', RowRd.later hr hbf⟩
            · obtain ⟨_, _, h⟩ := RR.out
              obtain ⟨_, _, _, _, _, r⟩ := h j hj
              exact r.1)
          have BF := Lib.hid (row_set B1.out #[.slice A0 Q.n c0, .int .i64 Q.mode, .int .i64 Q.after, .slice A3 Q.wn c3, .int .i64 Q.within, .string Q.by_, .slice A6 Q.m c6])
          go_wp2_with (first | (refine wpList_load_row rfl 40 _ rfl (w.heap.size + 1 + 1) rfl 40 _ (0, 0) _ B2.out Tryd.underlying40 rfl (by kernel_rfl) ?_) | (refine wpList_store_row rfl 40 _ _ rfl (w.heap.size + 1) #[.slice A0 Q.n c0, .int .i64 Q.mode, .int .i64 Q.after, .slice A3 Q.wn c3, .int .i64 Q.within, .string Q.by_, .slice A6 Q.m c6] rfl rfl 40 _ B1.out (by kernel_rfl) rfl (by simp [Value.oneCell']) ?_))
          (try simp only [Exit.inBlock, Exit.then])
          generalize W1.setRow (w.heap.size + 1) #[.slice A0 Q.n c0, .int .i64 Q.mode, .int .i64 Q.after, .slice A3 Q.wn c3, .int .i64 Q.within, .string Q.by_, .slice A6 Q.m c6] = wf at *
          refine bodyPost_ret (v := .agg #[.slice A0 Q.n c0, .int .i64 Q.mode, .int .i64 Q.after, .slice A3 Q.wn c3, .int .i64 Q.within, .string Q.by_, .slice A6 Q.m c6]) ?_ rfl ?_
          · exact results_cell_row Tryd.results35 _ _ (w.heap.size + 1) 40 _ (0, 0) _ rfl BF.out Tryd.underlying40 rfl (by kernel_rfl)
          · exact ⟨⟨A0, c0, A3, c3, A6, c6⟩, rfl, hbf, HF.out⟩
end Go.Proofs.YtagcbljfaflhoaaDoor

/-! ### The walk of turned: the types in the other order. -/
namespace Go.Proofs.YtagcbljfaflhoaaDoor
open Go.RowKit Go.ChangeShapes Go.WideShapes Go.ChangeAt Go.Deep Go.Joins
attribute [local go_sem ↓] Go.wp_at_zero Go.wp_at_succ
/-- What the loop keeps. -/
structure TuOut (w wr : World) (S : Sch) (sl : Nat → Value) (k : Nat) (ov : Value) : Prop where
  below : Below w.heap.size w wr
  size : w.heap.size + 3 ≤ wr.heap.size
  own : wr.ownsRow (w.heap.size + 3) 78 2 ov k (rowCells (turnS S).nm (fun j => sl (S.n - 1 - j)) k)
set_option maxRecDepth 100000 in
set_option maxHeartbeats 4000000 in
theorem turned_any (A : Option Addr) (cap : Nat) (S : Sch) (w : World) (h : TypRd w w.heap.size A S) :
    Calls Tryd.prog 36 #[.agg #[.slice A S.n cap]] w fun e w' => ∃ A' c', e = .returned (.agg #[.slice A' S.n c']) ∧ Below w.heap.size w w' ∧ TypRd w' w'.heap.size A' (turnS S) := by
  have hn := h.1
  obtain ⟨i1, hi1, hy0, hy1, hy2⟩ := info_parts infoType
  have hsl : ∀ j, ∃ v : Value, j < S.n → ∃ b off aa ac, A = some ⟨b, off, none⟩ ∧ b < w.heap.size ∧ w.cell? ⟨b, off + j * 2, none⟩ = some (.string (S.nm j)) ∧ w.cell? ⟨b, off + j * 2 + 1, none⟩ = some v ∧ v = .slice aa (S.ln j) ac ∧ StrRd w w.heap.size aa (S.ln j) (S.atr j) := fun j => by
    by_cases hj : j < S.n
    · obtain ⟨b, off, e, hb, hc⟩ := h.2 (by omega)
      obtain ⟨c1, aa, ac, c2, hs⟩ := hc j hj
      exact ⟨_, fun _ => ⟨b, off, aa, ac, e, hb, c1, c2, rfl, hs⟩⟩
    · exact ⟨.bool false, fun h => absurd h hj⟩
  obtain ⟨sl, hsl⟩ := Classical.axiomOfChoice hsl
  have HSL := Lib.hid hsl
  have HB := bnew (bnew (bnew (Below.refl w.heap.size w) (.cells #[.slice A S.n cap] 34)) (.cells #[.slice none 0 0] 34)) (.cells #[.slice none 0 0] 34)
  clear h hsl
  go_enter Tryd.func36, Tryd.ntmps36
  go_wp2_with fail
  go_loopw [4] (fun i wr => ∃ (k : Nat) (ov : Value), k ≤ S.n ∧ i = .int .i64 ((S.n : Int) - 1 - k) ∧ Hid (TuOut w wr S sl k ov) ∧ wr.cell? ⟨w.heap.size, 0, none⟩ = some (.slice A S.n cap) ∧ wr.cell? ⟨w.heap.size + 1, 0, none⟩ = some (.slice none 0 0) ∧ wr.cell? ⟨w.heap.size + 1 + 1, 0, none⟩ = some ov ∧
    wr.frozen? ⟨w.heap.size + 1, 0, none⟩ = false ∧ wr.frozen? ⟨w.heap.size + 1 + 1, 0, none⟩ = false) (fun i _ => (intOf i + 1).toNat)
  case atStart =>
    refine ⟨0, .slice none 0 0, Nat.zero_le _, by simp, Lib.hid ⟨HB, by simp, World.ownsRow_nil _ _ _ _⟩, ?_⟩
    simp [go_sem]
  case round =>
    obtain ⟨k, ov, hk, rfl, HO, hx1, hx2, hx3, hf2, hf3⟩ := hrel
    obtain ⟨W1, e1⟩ : ∃ W1 : World, W1 = wr := ⟨_, rfl⟩
    subst e1
    by_cases hlt : k < S.n
    · obtain ⟨q, hq⟩ : ∃ q : Nat, (S.n : Int) - 1 - k = q := ⟨S.n - 1 - k, by omega⟩
      have hqn : q < S.n := by omega
      have hqk : q = S.n - 1 - k := by omega
      rw [hq]
      obtain ⟨b, off, aa, ac, eA, hbl, c1, c2, e2, hsr⟩ := HSL.out q hqn
      subst eA
      have hb := HO.out.below
      have hsz := HO.out.size
      have d1 := (hb.cell (p := ⟨b, off + q * 2, none⟩) hbl).trans c1
      have d2 := (hb.cell (p := ⟨b, off + q * 2 + 1, none⟩) hbl).trans c2
      rw [e2] at d2
      have HE2 := Lib.hid e2
      have HQ := Lib.hid hq
      have HQK := Lib.hid hqk
      have HROW := Lib.hid HO.out.own
      have hs5' : w.heap.size + 1 + 1 < W1.heap.size := by omega
      have hbW : b < W1.heap.size := by omega
      clear c1 c2 hsr e2 hq hqk
      go_wp2_with fail
      go_region_law
        ((refine step_append_lies _ (by rfl) _ _ _ (by rfl) (w.heap.size + 3) 78 i1 _ 2 40 Tryd.underlying32 hi1 hy0 hy1 hy2 rfl (by omega) ov k (rowCells (turnS S).nm (fun j => sl (S.n - 1 - j)) k) (by rfl) ((HROW.out.drew).alloc _)
            ⟨W1.heap.size, 0, none⟩ 1 1 [.string (S.nm q), .slice aa (S.ln q) ac] (by rfl) (by rfl) (World.news_of_block (cs := #[.string (S.nm q), .slice aa (S.ln q) ac]) (t := 78) (fr := (0, 0)) (heap_alloc_new W1.drew _)) (by simp [Value.oneCell'])
            (by omega) (by unfold maxLen; omega) (by omega) (by simp; omega) (W1.heap.size + 1) (by simp) ?_; intro gg gcap w6 hown6 hgrow hat hlt6; have g1 : w6.cell? ⟨w.heap.size + 1 + 1, 0, none⟩ = some ov := (hgrow.cell_far _ (by simp; omega) (Ne.symm (own_ne HROW.out (by simp)))).trans (cell_alloc (w := W1.drew) hx3 _); have g2 : w6.frozen? ⟨w.heap.size + 1 + 1, 0, none⟩ = false := (hgrow.frozen_far _ (by simp; omega) (Ne.symm (own_ne HROW.out (by simp)))).trans (frozen_alloc (w := W1.drew) (p := ⟨w.heap.size + 1 + 1, 0, none⟩) hs5' hf3 _)))
      all_goals
        go_wp2_with fail
        have hown : w6.ownsRow (w.heap.size + 3) 78 2 (.slice (some ⟨gg, 0, none⟩) (k + 1) gcap) (k + 1) (rowCells (turnS S).nm (fun j => sl (S.n - 1 - j)) (k + 1)) := by
          rw [rowCells_succ]
          have e1 : (turnS S).nm k = S.nm q := by show S.nm (S.n - 1 - k) = _; rw [HQK.out]
          have e3 : sl (S.n - 1 - k) = .slice aa (S.ln q) ac := by rw [← HQK.out]; exact HE2.out
          rw [e1, e3]
          exact hown6
        have hs6 := hgrow.size
        have hb6 : Below w.heap.size w w6 := (bnew (bdrew hb) (.cells #[.string (S.nm q), .slice aa (S.ln q) ac] 78)).grown hgrow (by simp; omega) (fun x hx => by have := (HROW.out.lt x hx).1; omega)
        have q2 : ∀ p : Addr, p.block < w.heap.size + 3 → w6.cell? p = W1.cell? p := fun p hp => (hgrow.cell_far p (by simp; omega) (Ne.symm (own_ne HROW.out hp))).trans (World.cell?_alloc_lt W1.drew _ p (by simp; omega))
        have q3 : w6.frozen? ⟨w.heap.size + 1, 0, none⟩ = false := (hgrow.frozen_far _ (by simp; omega) (Ne.symm (own_ne HROW.out (by simp)))).trans (frozen_alloc (w := W1.drew) (by simp; omega) hf2 _)
        go_roundw
        case rel =>
          exact ⟨k + 1, .slice (some ⟨gg, 0, none⟩) (k + 1) gcap, by omega, (by first | done | trivial | rfl | (have := HQ.out; simp only [Value.int.injEq, true_and]; omega) | (have := HQ.out; omega)), Lib.hid ⟨bset hb6 (by simp; omega) _, by simp at hs6 ⊢; omega, ownsRow_setCell_below hown (by simp) _⟩, (World.cell?_setCell_other _ _ _ _ (by simp)).trans ((q2 _ (by simp)).trans hx1), (World.cell?_setCell_other _ _ _ _ (by simp)).trans ((q2 _ (by simp)).trans hx2),
            World.cell?_setCell_same _ _ _ g1, by rw [World.frozen?_setCell]; exact q3, by rw [World.frozen?_setCell]; exact g2⟩
        case measure => first | (have := HQ.out; simp [intOf]; done) | (have := HQ.out; simp [intOf]; omega)
    · obtain rfl : k = S.n := by omega
      obtain ⟨A', c', rfl⟩ := own_shape HO.out.own
      have hsz := HO.out.size
      have hq : (S.n : Int) - 1 - (S.n : Int) = -1 := by omega
      rw [hq]
      have HOWN := Lib.hid (ownsRow_setCell_below HO.out.own (a := ⟨w.heap.size + 1, 0, none⟩) (by simp) (.slice A' S.n c'))
      have hbf := bset HO.out.below (p := ⟨w.heap.size + 1, 0, none⟩) (by simp) (.slice A' S.n c')
      have hcf := World.cell?_setCell_same W1 ⟨w.heap.size + 1, 0, none⟩ (.slice A' S.n c') hx2
      clear hq
      go_wp2_with fail
      (try simp only [Exit.inBlock, Exit.then])
      generalize W1.setCell ⟨w.heap.size + 1, 0, none⟩ (.slice A' S.n c') = wf at *
      have hfin : TypRd wf wf.heap.size A' (turnS S) := by
        refine ⟨hn, fun h0 => ?_⟩
        have h0 : S.n ≠ 0 := h0
        obtain ⟨g, cap', hv, hB, hlt'⟩ := HOWN.out.form (by omega)
        injection hv with hA _ hc
        subst hA hc
        refine ⟨g, 0, rfl, hlt', fun j hj => ?_⟩
        have hj : j < S.n := hj
        obtain ⟨r1, r2⟩ := rowCells_at (turnS S).nm (fun j => sl (S.n - 1 - j)) hj
        obtain ⟨b, off, aa, ac, _, _, _, _, e2, hsr⟩ := HSL.out (S.n - 1 - j) (by omega)
        refine ⟨by rw [Nat.zero_add, HOWN.out.cellAt (j * 2) (by omega), r1], aa, ac, by rw [Nat.zero_add, HOWN.out.cellAt (j * 2 + 1) (by omega), r2, e2]; rfl, ?_⟩
        exact hsr.later hbf
      refine bodyPost_ret (v := .agg #[.slice A' S.n c']) ?_ rfl ?_
      · simp [results, Tryd.results36, go_sem, hcf]
      · first | exact ⟨A', c', rfl, hbf, hfin⟩ | exact ⟨A', ⟨c', rfl⟩, hbf, hfin⟩
end Go.Proofs.YtagcbljfaflhoaaDoor

/-! ### What a reading's bulk bounds. -/
namespace Go.Proofs.YtagcbljfaflhoaaDoor
open Go.RowKit Go.ChangeShapes Go.WideShapes Go.Deep
theorem bulk_mem {H : Type} {d : DataW H} {l : List (DataW H)} (h : d ∈ l) : Rows.uptoBulk d ≤ Rows.uptoBulkAll l := by
  induction l with
  | nil => cases h
  | cons x r ih =>
    simp only [Rows.uptoBulkAll]
    rcases List.mem_cons.1 h with rfl | h
    · omega
    · have := ih h
      omega
theorem bulk_at {H : Type} {d : DataW H} {l : List (DataW H)} (hk : Rows.uptoSmall H l = true) (h : d ∈ l) : Rows.uptoBulk d ≤ 1048576 := by
  have h1 : Rows.uptoBulkAll l ≤ 1048576 := of_decide_eq_true hk
  exact Nat.le_trans (bulk_mem h) h1
theorem bulk_one {H : Type} (d : DataW H) : 1 ≤ Rows.uptoBulk d := by
  cases d with
  | lit l => cases l <;> simp [Rows.uptoBulk]
  | nil => simp [Rows.uptoBulk]
  | ptr d => simp [Rows.uptoBulk]
  | slice es sp => simp [Rows.uptoBulk]
  | agg ps => simp [Rows.uptoBulk]
  | iface t d => simp [Rows.uptoBulk]
  | map es => simp [Rows.uptoBulk]
  | held h => simp [Rows.uptoBulk]
theorem bulk_len {H : Type} : ∀ (l : List (DataW H)), l.length ≤ Rows.uptoBulkAll l
  | [] => Nat.zero_le _
  | d :: r => by
    have h1 := bulk_one d
    have h2 := bulk_len r
    simp only [Rows.uptoBulkAll, List.length_cons]
    omega
section
variable {H : Type} {enc : TypeId × Value → H} {P : Program} {w : World} {base : Nat} {sp : Nat → Bool} {held : Bool}
/-- A slice is no longer than its reading is great. -/
theorem bulk_slice {t e : TypeId} {fuel n cap : Nat} {A : Option Addr} {y : DataW H × List MemPlace} (ht : P.underlying t = some (.slice e)) (h : DataW.trod enc P w base sp held fuel t [.slice A n cap] = some y) : n ≤ Rows.uptoBulk y.1 := by
  rcases open_slice ht h with ⟨ev, _⟩ | ⟨a, len, cap', m, k, D, Pl, ev, hb, hl, hm, hmm, hx, hi⟩
  · injection ev with ev
    injection ev with _ e2 _
    subst e2
    exact Nat.zero_le _
  · injection ev with ev
    injection ev with _ e2 _
    subst e2
    rw [hx]
    have := bulk_len ((List.range n).map D)
    simp only [List.length_map, List.length_range] at this
    simp only [Rows.uptoBulk]
    omega
end
theorem bulk_nodes {H : Type} {enc : TypeId × Value → H} {w : World} {base : Nat} {sp : Nat → Bool} {held : Bool} {fuel n cap : Nat} {A : Option Addr} {y : DataW H × List MemPlace} (h : DataW.trod enc Tryd.prog w base sp held fuel 22 [.slice A n cap] = some y) : n ≤ Rows.uptoBulk y.1 :=
  bulk_slice Tryd.underlying22 h
end Go.Proofs.YtagcbljfaflhoaaDoor

/-! ### What a query's bulk bounds: how many items, types, nodes, trees it has. -/
namespace Go.Proofs.YtagcbljfaflhoaaDoor
open Go.RowKit Go.ChangeShapes Go.WideShapes Go.Deep
theorem bulk_sum {H : Type} {D : Nat → DataW H} {g : Nat → Nat} : ∀ n : Nat, (∀ i, i < n → g i ≤ Rows.uptoBulk (D i)) → sumN g n ≤ Rows.uptoBulkAll ((List.range n).map D)
  | 0, _ => Nat.zero_le _
  | n + 1, h => by
    have e : Rows.uptoBulkAll ((List.range (n + 1)).map D) = Rows.uptoBulkAll ((List.range n).map D) + Rows.uptoBulk (D n) := by
      rw [List.range_succ, List.map_append]
      generalize (List.range n).map D = l
      induction l with
      | nil => simp [Rows.uptoBulkAll]
      | cons x r ih =>
        simp only [List.cons_append, Rows.uptoBulkAll, ih]
        omega
    have h1 := bulk_sum n (fun i hi => h i (by omega))
    have h2 := h n (by omega)
    rw [e]
    simp only [sumN]
    omega
/-- Sums of squares are bounded by the sum's square. -/
theorem sum_sq {g : Nat → Nat} : ∀ n : Nat, sumN (fun i => g i * (g i + 1) + 2) n ≤ sumN (fun i => g i + 2) n * (sumN (fun i => g i + 2) n)
  | 0 => Nat.zero_le _
  | n + 1 => by
    have h := sum_sq (g := g) n
    show sumN (fun i => g i * (g i + 1) + 2) n + (g n * (g n + 1) + 2) ≤ (sumN (fun i => g i + 2) n + (g n + 2)) * (sumN (fun i => g i + 2) n + (g n + 2))
    generalize sumN (fun i => g i + 2) n = s at *
    generalize sumN (fun i => g i * (g i + 1) + 2) n = t at *
    generalize g n = x
    have e : (s + (x + 2)) * (s + (x + 2)) = s * s + 2 * (s * (x + 2)) + (x + 2) * (x + 2) := by
      simp only [Nat.mul_add, Nat.add_mul, Nat.mul_comm x s, Nat.mul_comm 2 s, Nat.two_mul]
      omega
    have e2 : (x + 2) * (x + 2) = x * (x + 1) + 3 * x + 4 := by
      simp only [Nat.mul_add, Nat.add_mul]
      omega
    rw [e, e2]
    have := Nat.zero_le (2 * (s * (x + 2)))
    omega
theorem gI_small {Q : Qry} (h : sumN (fun i => (Q.it i).tn + 2) Q.n ≤ 1048576) : sumN (gI Q) Q.n ≤ 2199023255552 := by
  have h1 := sum_sq (g := fun i => (Q.it i).tn) Q.n
  have h5 : sumN (fun i => (Q.it i).tn + 2) Q.n * sumN (fun i => (Q.it i).tn + 2) Q.n ≤ 1048576 * 1048576 := Nat.mul_le_mul h h
  have h6 : sumN (gI Q) Q.n = sumN (fun i => (Q.it i).tn * ((Q.it i).tn + 1) + 2) Q.n := rfl
  rw [h6]
  omega
section
variable {H : Type} {enc : TypeId × Value → H} {w : World} {base : Nat} {sp : Nat → Bool} {held : Bool}
/-- A list of trees: how many nodes they have. -/
theorem bulk_trees {fuel : Nat} {A : Option Addr} {m cap : Nat} {B : Nat} {ln : Nat → Nat} {g : Nat → Nat → Nod} {y : DataW H × List MemPlace} (h : DataW.trod enc Tryd.prog w base sp held fuel 38 [.slice A m cap] = some y) (hR : TreesRd w B A m ln g) :
    m ≤ Rows.uptoBulk y.1 ∧ sumN ln m ≤ Rows.uptoBulk y.1 := by
  refine ⟨bulk_slice Tryd.underlying38 h, ?_⟩
  rcases open_slice Tryd.underlying38 h with ⟨ev, _⟩ | ⟨a, len, cap', m', k, D, Pl, ev, hb, hl, hm, hmm, hx, hi⟩
  · injection ev with ev
    injection ev with _ e2 _
    subst e2
    exact Nat.zero_le _
  · injection ev with ev
    injection ev with e1 e2 _
    subst e2
    rw [hx]
    have hle : m ≤ m' := by rw [hmm]; split <;> omega
    have hs := bulk_sum (D := D) (g := ln) m fun i him => by
      obtain ⟨cs, hc, ht⟩ := hi i (by omega)
      have h1 : Tryd.prog.cellsOf 22 = 1 := by kernel_rfl
      rw [h1] at hc
      obtain ⟨_, hcl, hat⟩ := World.cells?_some hc
      obtain ⟨b, off, e, _, hcs⟩ := hR.spot (by omega)
      rw [e1] at e
      injection e with e
      subst e
      obtain ⟨ta, tc, hcell, _⟩ := hcs i him
      have hv := hat 0 (by omega)
      rw [Nat.mul_one, add_none, add_none] at hv
      have hv' : w.cell? ⟨b, off + i, none⟩ = cs[0]? := hv
      rw [hcell] at hv'
      match cs, hcl with
      | [c0], _ =>
        simp only [List.getElem?_cons_zero, Option.some.injEq] at hv'
        subst hv'
        have := bulk_nodes ht
        exact this
    simp only [Rows.uptoBulk]
    omega
/-- A list of items: how many types they have. -/
theorem bulk_items {fuel : Nat} {A : Option Addr} {m cap : Nat} {B : Nat} {f : Nat → Itm} {y : DataW H × List MemPlace} (h : DataW.trod enc Tryd.prog w base sp held fuel 35 [.slice A m cap] = some y) (hR : ItmsRd w B A m f) :
    m ≤ Rows.uptoBulk y.1 ∧ sumN (fun i => (f i).tn + 2) m ≤ Rows.uptoBulk y.1 := by
  refine ⟨bulk_slice Tryd.underlying35 h, ?_⟩
  rcases open_slice Tryd.underlying35 h with ⟨ev, _⟩ | ⟨a, len, cap', m', k, D, Pl, ev, hb, hl, hm, hmm, hx, hi⟩
  · injection ev with ev
    injection ev with _ e2 _
    subst e2
    exact Nat.zero_le _
  · injection ev with ev
    injection ev with e1 e2 _
    subst e2
    rw [hx]
    have hle : m ≤ m' := by rw [hmm]; split <;> omega
    have hs := bulk_sum (D := D) (g := fun i => (f i).tn + 2) m fun i him => by
      obtain ⟨cs, hc, ht⟩ := hi i (by omega)
      have h5 : Tryd.prog.cellsOf 80 = 5 := by kernel_rfl
      have k1 : Tryd.prog.cellsOf 4 = 1 := by kernel_rfl
      have k2 : Tryd.prog.cellsOf 75 = 1 := by kernel_rfl
      rw [h5] at hc
      obtain ⟨_, hcl, hat⟩ := World.cells?_some hc
      obtain ⟨b, off, e, _, hcs⟩ := hR.spot (by omega)
      rw [e1] at e
      injection e with e
      subst e
      obtain ⟨_, ⟨ta, tc, hcell, _⟩, _⟩ := hcs i him
      have hv := hat 1 (by omega)
      rw [add_none, add_none] at hv
      have hv' : w.cell? ⟨b, off + i * 5 + 1, none⟩ = cs[1]? := hv
      rw [hcell] at hv'
      match cs, hcl with
      | [c0, c1, c2, c3, c4], _ =>
        simp only [List.getElem?_cons_succ, List.getElem?_cons_zero, Option.some.injEq] at hv'
        subst hv'
        obtain ⟨xs, n', _, hx', _, hl2, hg⟩ := DataW.trod_struct Tryd.underlying80 ht
        match xs, hl2 with
        | [y0, y1, y2, y3, y4], _ =>
          have g1 := hg 1 _ rfl
          simp [k1, k2] at g1
          have hd : D i = .agg [y0.1, y1.1, y2.1, y3.1, y4.1] := by simpa using (Prod.mk.inj hx').1
          have := bulk_slice Tryd.underlying75 g1
          have b0 := bulk_one y0.1
          have b2 := bulk_one y2.1
          rw [hd]
          simp only [Rows.uptoBulk, Rows.uptoBulkAll]
          omega
    simp only [Rows.uptoBulk]
    omega
set_option maxRecDepth 20000 in
/-- A query that is handed in: how great it is. -/
theorem bulk_query {V : QryV} {Q : Qry} {d : DataW H} {p : List MemPlace} (h : DataW.Trod enc Tryd.prog w base sp held 40 (.agg (qryArr V Q)) d p) (hR : QryRd w w.heap.size V Q) (hd : Rows.uptoBulk d ≤ 1048576) :
    Q.n ≤ 1048576 ∧ Q.wn ≤ 1048576 ∧ Q.m ≤ 1048576 ∧ sumN Q.ln Q.m ≤ 1048576 ∧ sumN (gI Q) Q.n ≤ 2199023255552 := by
  have k1 : Tryd.prog.cellsOf 35 = 1 := by kernel_rfl
  have k2 : Tryd.prog.cellsOf 36 = 1 := by kernel_rfl
  have k3 : Tryd.prog.cellsOf 37 = 1 := by kernel_rfl
  have k4 : Tryd.prog.cellsOf 22 = 1 := by kernel_rfl
  have k5 : Tryd.prog.cellsOf 2 = 1 := by kernel_rfl
  have k6 : Tryd.prog.cellsOf 9 = 1 := by kernel_rfl
  have k7 : Tryd.prog.cellsOf 38 = 1 := by kernel_rfl
  obtain ⟨fuel, hf⟩ := h
  obtain ⟨xs, n, _, hx, _, hlen, hg⟩ := DataW.trod_struct Tryd.underlying40 hf
  match xs, hlen with
  | [y0, y1, y2, y3, y4, y5, y6], _ =>
    have g0 := hg 0 _ rfl
    have g3 := hg 3 _ rfl
    have g6 := hg 6 _ rfl
    simp [k1, k2, k3, k4, k5, k6, k7, Value.cells, qryArr] at g0 g3 g6
    simp only [Prod.mk.injEq] at hx
    have he : d = .agg [y0.1, y1.1, y2.1, y3.1, y4.1, y5.1, y6.1] := by simpa using hx.1
    obtain ⟨a1, a2⟩ := bulk_items g0 hR.rI
    have a3 := bulk_nodes g3
    obtain ⟨a4, a5⟩ := bulk_trees g6 hR.rR
    rw [he] at hd
    simp only [Rows.uptoBulk, Rows.uptoBulkAll] at hd
    exact ⟨by omega, by omega, by omega, by omega, gI_small (by omega)⟩
end
end Go.Proofs.YtagcbljfaflhoaaDoor

/-! ### The table of keywords: what the rows list of it. -/
namespace Go.Proofs.YtagcbljfaflhoaaDoor
open Go.RowKit
theorem gKeywords : Tryd.prog.globalNamed "sluice/api.Keywords" = some 0 := by kernel_rfl
theorem tKeywords : (Tryd.prog.globals[0]?).map (·.type) = some 123 := by kernel_rfl
theorem cellsKw : Tryd.prog.cellsOf 123 = 27 := by kernel_rfl
theorem cellsStr : Tryd.prog.cellsOf 9 = 1 := by kernel_rfl
theorem kwVar {W : World} {laid : List (String × DataW Unit)} (h : laidMet Tryd.prog laid W) (i : Nat) (hi : laid[i]? = some ("sluice/api.Keywords", Rows.laid_sluice_api_Keywords)) :
    W.var? Tryd.prog "sluice/api.Keywords" = some (kwList.map fun s => Value.string ⟨s.toArray⟩).toArray :=
  strTab h i kwList hi gKeywords tKeywords Tryd.underlying123 Tryd.underlying9 cellsStr cellsKw
end Go.Proofs.YtagcbljfaflhoaaDoor

/-! ### The walk of the law CheckRenamed; its arguments opened. -/
namespace Go.Proofs.YtagcbljfaflhoaaDoor
open Go.RowKit Go.ChangeShapes Go.WideShapes Go.ChangeAt Go.Deep Go.Joins
theorem rho_size {Q : Qry} (h : (namesF Q).length < 10000000) (v : ByteArray) : (rho Q v).size ≤ maxLen := by
  have h1 : spotOf (namesF Q) v ≤ (namesF Q).length := spot_le
  have h2 := call_len (k := spotOf (namesF Q) v) (by omega)
  have h3 : (rho Q v).size = (callL (spotOf (namesF Q) v)).length := rfl
  unfold maxLen
  omega
theorem wf_ren {Q : Qry} (h : (namesF Q).length < 10000000) (hw : QryWf Q) : QryWf (renQ (rho Q) Q) := by
  have hn : ∀ x : Nod, NodWf x → NodWf (renN (rho Q) x) := fun x hx => by
    refine ⟨hx.op, hx.n, hx.a, hx.b, ?_, hx.at_⟩
    show (if x.vr.toList.isEmpty = true then x.vr else rho Q x.vr).size ≤ maxLen
    split
    · exact hx.vr
    · exact rho_size h _
  exact ⟨fun j hj => ⟨(hw.it j hj).lo, (hw.it j hj).hi, rho_size h _⟩, fun j hj => hn _ (hw.wh j hj), fun j hj i hi => hn _ (hw.rt j hj i hi), hw.within, hw.by_⟩
set_option maxRecDepth 100000 in
set_option maxHeartbeats 8000000 in
theorem checkRenamed_walk (A : Option Addr) (cap : Nat) (S : Sch) (V : QryV) (Q : Qry) (w : World) (hS : TypRd w w.heap.size A S) (h : QryRd w w.heap.size V Q) (hwf : QryWf Q) (hlen : (namesF Q).length ≤ 8388608) {tt : TypeId} {fr : Nat × Nat} (hkw : w.heap[0]? = some (.cells kwArr tt fr)) :
    Calls Tryd.prog 6 #[.agg #[.slice A S.n cap], .agg (qryArr V Q)] w fun e w' => e = .returned (.bool true) ∧ Below w.heap.size w w' := by
  obtain ⟨aI, cI, aW, cW, aR, cR⟩ := V
  show Calls _ _ #[.agg #[.slice A S.n cap], .agg #[.slice aI Q.n cI, .int .i64 Q.mode, .int .i64 Q.after, .slice aW Q.wn cW, .int .i64 Q.within, .string Q.by_, .slice aR Q.m cR]] w _
  have hb0 := bnew (bnew (Below.refl w.heap.size w) (.cells #[.slice A S.n cap] 34)) (.cells #[.slice aI Q.n cI, .int .i64 Q.mode, .int .i64 Q.after, .slice aW Q.wn cW, .int .i64 Q.within, .string Q.by_, .slice aR Q.m cR] 40)
  have s0 := blk_alloc (blk_new w #[.slice A S.n cap] 34) (.cells #[.slice aI Q.n cI, .int .i64 Q.mode, .int .i64 Q.after, .slice aW Q.wn cW, .int .i64 Q.within, .string Q.by_, .slice aR Q.m cR] 40)
  have q0 := blk_new (w.alloc (.cells #[.slice A S.n cap] 34)) #[.slice aI Q.n cI, .int .i64 Q.mode, .int .i64 Q.after, .slice aW Q.wn cW, .int .i64 Q.within, .string Q.by_, .slice aR Q.m cR] 40
  rw [World.size_alloc] at q0
  have S0 := Lib.hid s0
  have Q0 := Lib.hid q0
  have HS := Lib.hid (hS.later hb0)
  have HQ := Lib.hid (h.later hb0)
  have HK := Lib.hid (block_below hkw hb0)
  have HWF := Lib.hid hwf
  have HWR := Lib.hid (wf_ren (by omega) hwf)
  clear hS h s0 q0 hkw hwf
  go_enter Tryd.func6, Tryd.ntmps6
  go_upto_region 1 with fail
  generalize (w.alloc _).alloc _ = w0 at *
  go_wp2_with fail
  refine (alive_any _ HK.out).mono ?_
  rintro e w1 ⟨rfl, hb1⟩
  obtain ⟨y0, y1, y2, y3, y4, y5, y6⟩ := blk7 (blk_below Q0.out hb1)
  go_wp2_with fail
  refine (queryBeyond_any ⟨aI, cI, aW, cW, aR, cR⟩ Q _ (HQ.out.later hb1)).mono ?_
  rintro e w2 ⟨⟨bb, rfl⟩, hb2⟩
  have hb2' := bcall hb1 hb2
  clear y0 y1 y2 y3 y4 y5 y6
  cases bb
  rotate_left 1
  · go_wp2_with fail
    go_ret
    exact ⟨rfl, bcall hb0 hb2'⟩
  have x0 := blk_cell (blk_below S0.out hb2') (j := 0) rfl
  obtain ⟨se, hse⟩ : ∃ se, schErr S = se := ⟨_, rfl⟩
  have HSE := Lib.hid hse
  clear hse
  go_wp2_with fail
  refine (refCheckSchema_any A cap S _ (HS.out.later hb2') (block_below HK.out hb2')).mono ?_
  rw [HSE.out]
  rintro e w3 ⟨rfl, hb3⟩
  have hb3' := bcall hb2' hb3
  clear x0
  obtain ⟨y0, y1, y2, y3, y4, y5, y6⟩ := blk7 (blk_below Q0.out hb3')
  obtain ⟨sh, hsh⟩ : ∃ sh, shapedB Q = sh := ⟨_, rfl⟩
  have HSH := Lib.hid hsh
  clear hsh
  go_wp2_with fail
  refine (shaped5_any ⟨aI, cI, aW, cW, aR, cR⟩ Q _ (HQ.out.later hb3') (block_below HK.out hb3')).mono ?_
  rw [HSH.out]
  rintro e w4 ⟨rfl, hb4⟩
  have hb4' := bcall hb3' hb4
  clear y0 y1 y2 y3 y4 y5 y6
  by_cases hs0 : se = 0
  rotate_left 1
  · have hs1 : (se != 0) = true := by rw [bne_iff_ne]; exact hs0
    go_wp2_with fail
    go_ret
    exact ⟨rfl, bcall hb0 hb4'⟩
  subst hs0
  cases sh
  · go_wp2_with fail
    go_ret
    exact ⟨rfl, bcall hb0 hb4'⟩
  obtain ⟨y0, y1, y2, y3, y4, y5, y6⟩ := blk7 (blk_below Q0.out hb4')
  have x0 := blk_cell (blk_below S0.out hb4') (j := 0) rfl
  obtain ⟨⟨fc, fp, fi, fs⟩, hF⟩ : ∃ F, checkF S Q = F := ⟨_, rfl⟩
  have HF := Lib.hid hF
  have HF2 := Lib.hid ((check_rho (S := S) (by omega) HSH.out).trans hF)
  have HF3 := Lib.hid ((check_turn (Q := Q) HSE.out).trans hF)
  clear hF
  go_wp2_with fail
  refine (check_any A cap S ⟨aI, cI, aW, cW, aR, cR⟩ Q _ (HS.out.later hb4') (HQ.out.later hb4') HWF.out (block_below HK.out hb4')).mono ?_
  rw [HF.out, show flwArr ⟨fc, fp, fi, fs⟩ = #[.int .i64 fc, .int .i64 fp, .int .i64 fi, .int .i64 fs] from rfl]
  rintro e w5 ⟨rfl, hb5⟩
  have hb56 := bnew hb5 (.cells #[.int .i64 fc, .int .i64 fp, .int .i64 fi, .int .i64 fs] 47)
  have hb6 := bcall hb4' hb56
  have F6 := Lib.hid (blk_new w5 #[.int .i64 fc, .int .i64 fp, .int .i64 fi, .int .i64 fs] 47)
  clear y0 y1 y2 y3 y4 y5 y6 x0
  go_upto_region 10 with fail
  generalize w5.alloc _ = w6 at *
  obtain ⟨y0, y1, y2, y3, y4, y5, y6⟩ := blk7 (blk_below Q0.out hb6)
  go_wp2_with fail
  refine (renamed_any ⟨aI, cI, aW, cW, aR, cR⟩ Q _ (HQ.out.later hb6) hlen).mono ?_
  rintro e w7 ⟨⟨bI, dI, bW, dW, bR, dR⟩, rfl, hb7, hQ7⟩
  rw [show qryArr ⟨bI, dI, bW, dW, bR, dR⟩ (renQ (rho Q) Q) = #[.slice bI Q.n dI, .int .i64 Q.mode, .int .i64 Q.after, .slice bW Q.wn dW, .int .i64 Q.within, .string Q.by_, .slice bR Q.m dR] from rfl]
  have hb78 := bnew hb7 (.cells #[.slice bI Q.n dI, .int .i64 Q.mode, .int .i64 Q.after, .slice bW Q.wn dW, .int .i64 Q.within, .string Q.by_, .slice bR Q.m dR] 40)
  have hb8 := bcall hb6 hb78
  have F8 := Lib.hid (blk_below F6.out hb78)
  have P8 := Lib.hid (blk_new w7 #[.slice bI Q.n dI, .int .i64 Q.mode, .int .i64 Q.after, .slice bW Q.wn dW, .int .i64 Q.within, .string Q.by_, .slice bR Q.m dR] 40)
  have HP8 := Lib.hid (hQ7.later (bnew (Below.refl w7.heap.size w7) (.cells #[.slice bI Q.n dI, .int .i64 Q.mode, .int .i64 Q.after, .slice bW Q.wn dW, .int .i64 Q.within, .string Q.by_, .slice bR Q.m dR] 40)))
  clear y0 y1 y2 y3 y4 y5 y6 hQ7
  go_upto_region 11 with fail
  generalize w7.alloc _ = w8 at *
  obtain ⟨y0, y1, y2, y3, y4, y5, y6⟩ := blk7 P8.out
  have x0 := blk_cell (blk_below S0.out hb8) (j := 0) rfl
  go_wp2_with fail
  refine (check_any A cap S ⟨bI, dI, bW, dW, bR, dR⟩ (renQ (rho Q) Q) _ (HS.out.later hb8) HP8.out HWR.out (block_below HK.out hb8)).mono ?_
  rw [HF2.out, show flwArr ⟨fc, fp, fi, fs⟩ = #[.int .i64 fc, .int .i64 fp, .int .i64 fi, .int .i64 fs] from rfl]
  rintro e w9 ⟨rfl, hb9⟩
  have hb9a := bnew hb9 (.cells #[.int .i64 fc, .int .i64 fp, .int .i64 fi, .int .i64 fs] 47)
  have hba := bcall hb8 hb9a
  have Fa := Lib.hid (blk_below F8.out hb9a)
  have Ga := Lib.hid (blk_new w9 #[.int .i64 fc, .int .i64 fp, .int .i64 fi, .int .i64 fs] 47)
  clear y0 y1 y2 y3 y4 y5 y6 x0
  go_upto_region 12 with fail
  generalize w9.alloc _ = wa at *
  have x0 := blk_cell (blk_below S0.out hba) (j := 0) rfl
  go_wp2_with fail
  refine (turned_any A cap S _ (HS.out.later hba)).mono ?_
  rintro e wb ⟨A', c', rfl, hbb, hTb⟩
  have hbbc := bnew hbb (.cells #[.slice A' S.n c'] 34)
  have hbc := bcall hba hbbc
  have Fc := Lib.hid (blk_below Fa.out hbbc)
  have Gc := Lib.hid (blk_below Ga.out hbbc)
  have Tc := Lib.hid (blk_new wb #[.slice A' S.n c'] 34)
  have HTc := Lib.hid (hTb.later (bnew (Below.refl wb.heap.size wb) (.cells #[.slice A' S.n c'] 34)))
  clear x0 hTb
  go_upto_region 13 with fail
  generalize wb.alloc _ = wc at *
  obtain ⟨y0, y1, y2, y3, y4, y5, y6⟩ := blk7 (blk_below Q0.out hbc)
  have x0 := blk_cell Tc.out (j := 0) rfl
  go_wp2_with fail
  refine (check_any A' c' (turnS S) ⟨aI, cI, aW, cW, aR, cR⟩ Q _ HTc.out (HQ.out.later hbc) HWF.out (block_below HK.out hbc)).mono ?_
  rw [HF3.out, show flwArr ⟨fc, fp, fi, fs⟩ = #[.int .i64 fc, .int .i64 fp, .int .i64 fi, .int .i64 fs] from rfl]
  rintro e wd ⟨rfl, hbd⟩
  have hbde := bnew hbd (.cells #[.int .i64 fc, .int .i64 fp, .int .i64 fi, .int .i64 fs] 47)
  have hbe := bcall hbc hbde
  have Fe := Lib.hid (blk_below Fc.out hbde)
  have Ge := Lib.hid (blk_below Gc.out hbde)
  have He := Lib.hid (blk_new wd #[.int .i64 fc, .int .i64 fp, .int .i64 fi, .int .i64 fs] 47)
  clear y0 y1 y2 y3 y4 y5 y6 x0
  go_upto_region 14 with fail
  generalize wd.alloc _ = we at *
  obtain ⟨f0, f1, f2, f3⟩ := blk4f Fe.out
  obtain ⟨g0, g1, g2, g3⟩ := blk4f Ge.out
  obtain ⟨h0, h1, h2, h3⟩ := blk4f He.out
  go_wp2_with fail
  go_ret
  exact ⟨by first | rfl | simp, bcall hb0 hbe⟩
set_option maxRecDepth 8000 in
theorem checkRenamed_main {H : Type} {enc : TypeId × Value → H} (W : World) (base : Nat) {v0 v1 : Value} {d0 d1 : DataW H} {p0 p1 : List MemPlace} {X Z : Prop}
    (o0 : Value.okWide Tryd.prog W .any base 34 v0) (h0 : DataW.Trod enc Tryd.prog W 0 (fun _ => true) true 34 v0 d0 p0) (o1 : Value.okWide Tryd.prog W .any base 40 v1) (h1 : DataW.Trod enc Tryd.prog W 0 (fun _ => true) true 40 v1 d1 p1)
    (_ : X) (hz : ReachedAll Tryd.prog ([34, 40] ++ (Rows.OpenSpec.upto Rows.checkRenamedSpec).bare.plain.varTypes Tryd.prog) ([d0, d1] ++ [])) (hcond : ∀ k, (Rows.OpenSpec.upto Rows.checkRenamedSpec).cond = some k → k H ([d0, d1] ++ []) = true)
    (h : laidMetH Tryd.prog Rows.checkRenamedUptoRow.laid W) (_ : Z) :
    Calls Tryd.prog 6 #[v0, v1] W fun e W' => e = .returned (.bool true) ∧ Below W.heap.size W W' := by
  have hv0 := kwVar (laid := Rows.checkRenamedUptoRow.laid) h 0 rfl
  obtain ⟨t0, f0, g0⟩ := var_block gKeywords hv0
  have hk := hcond _ rfl
  have z0 := reach_cons hz
  have z1 := reach_cons z0.2
  obtain ⟨A, S, cap, rfl, hS⟩ := open_schema o0 h0 z0.1
  obtain ⟨V, Q, rfl, hQ, hwf⟩ := open_query o1 h1 z1.1
  obtain ⟨b1, b2, b3, b4, b5⟩ := bulk_query h1 hQ (bulk_at hk (by simp))
  have hl := names_len (Q := Q)
  exact checkRenamed_walk A cap S V Q W hS hQ hwf (by omega) g0
end Go.Proofs.YtagcbljfaflhoaaDoor

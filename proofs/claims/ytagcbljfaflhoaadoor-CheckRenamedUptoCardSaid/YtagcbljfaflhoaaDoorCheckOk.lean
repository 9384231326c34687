/-
  When nothing is wrong with a query (plain); what is well formed stays so without its parts.
-/
import Derived.Test.YtagcbljfaflhoaaDoorCheckFn
set_option linter.unusedSimpArgs false
set_option linter.unusedVariables false
namespace Go.Proofs.YtagcbljfaflhoaaDoor
/-- Nothing is wrong with the query. -/
structure CheckOk (S : Sch) (Q : Qry) : Prop where
  sch : schErr S = 0
  shape : shapedB Q = true
  items : (itemsF S Q).code = 0
  wher : (whereF S Q).code = 0
  within : Q.within ≤ 1099511627776
  by_ : Q.by_.toList.isEmpty = true ∨ partB S Q = true
  many : Q.m ≤ 8
  rets : ∀ k, k < Q.m → (retE S Q k).2 = 0
theorem retF_ok {S : Sch} {Q : Qry} : (retF S Q).code = 0 ↔ Q.m ≤ 8 ∧ ∀ k, k < Q.m → (retE S Q k).2 = 0 := by
  by_cases h8 : 8 < Q.m
  · rw [retF_many h8]
    refine ⟨fun h => (by cases h), fun h => by omega⟩
  · rcases firstI_or (fun k => (retE S Q k).2 != 0) Q.m with ⟨e, hn⟩ | ⟨j, hj, e, hp, hb⟩
    · rw [retF_end h8 hn]
      refine ⟨fun _ => ⟨by omega, fun k hk => ?_⟩, fun _ => rfl⟩
      have := hn k hk
      rwa [bne_eq_false_iff_eq] at this
    · rw [bne_iff_ne] at hp
      rw [retF_hit (i := (retE S Q j).1) (e := (retE S Q j).2) h8 hj rfl hp hb]
      exact ⟨fun h => absurd h hp, fun h => absurd (h.2 j hj) hp⟩
theorem restF_ok {S : Sch} {Q : Qry} : (restF S Q).code = 0 ↔ Q.within ≤ 1099511627776 ∧ (Q.by_.toList.isEmpty = true ∨ partB S Q = true) ∧ Q.m ≤ 8 ∧ ∀ k, k < Q.m → (retE S Q k).2 = 0 := by
  unfold restF
  by_cases hw : 1099511627776 < Q.within
  · rw [if_pos hw]
    refine ⟨fun h => (by cases h), fun h => by omega⟩
  · rw [if_neg hw]
    by_cases hb : (!Q.by_.toList.isEmpty && !partB S Q) = true
    · rw [if_pos hb]
      refine ⟨fun h => (by cases h), fun h => ?_⟩
      rcases h.2.1 with h1 | h1 <;> simp [h1] at hb
    · rw [if_neg hb, retF_ok]
      refine ⟨fun h => ⟨by omega, ?_, h⟩, fun h => h.2.2⟩
      cases h1 : Q.by_.toList.isEmpty
      · cases h2 : partB S Q
        · simp [h1, h2] at hb
        · exact .inr rfl
      · exact .inl rfl
theorem checkF_ok {S : Sch} {Q : Qry} : (checkF S Q).code = 0 ↔ CheckOk S Q := by
  unfold checkF
  by_cases h1 : schErr S = 0
  · rw [if_neg (by rw [h1]; simp)]
    by_cases h2 : shapedB Q = true
    · rw [if_neg (by rw [h2]; simp)]
      by_cases h3 : (itemsF S Q).code = 0
      · rw [if_neg (by rw [h3]; simp)]
        by_cases h4 : (whereF S Q).code = 0
        · rw [if_neg (by rw [h4]; simp), restF_ok]
          exact ⟨fun h => ⟨h1, h2, h3, h4, h.1, h.2.1, h.2.2.1, h.2.2.2⟩, fun h => ⟨h.within, h.by_, h.many, h.rets⟩⟩
        · rw [if_pos h4]
          exact ⟨fun h => absurd h h4, fun h => absurd h.wher h4⟩
      · rw [if_pos h3]
        exact ⟨fun h => absurd h h3, fun h => absurd h.items h3⟩
    · rw [if_pos (by simpa using h2)]
      exact ⟨fun h => (by cases h), fun h => absurd h.shape h2⟩
  · rw [if_pos h1]
    exact ⟨fun h => absurd h h1, fun h => absurd h.sch h1⟩
section
variable {S : Sch} {Q : Qry}
theorem ok_noWhere (h : CheckOk S Q) : CheckOk S { Q with wn := 0 } := by
  refine ⟨h.sch, ?_, h.items, ?_, h.within, h.by_, h.many, h.rets⟩
  · have := h.shape
    simp only [shapedB, Bool.and_eq_true, Bool.or_eq_true, decide_eq_true_eq] at this ⊢
    exact ⟨⟨⟨this.1.1.1, .inl trivial⟩, this.1.2⟩, this.2⟩
  · rw [whereF, if_pos rfl]
theorem ok_noBy (h : CheckOk S Q) : CheckOk S { Q with by_ := ⟨#[]⟩ } := by
  refine ⟨h.sch, ?_, h.items, h.wher, h.within, .inl (by show (⟨#[]⟩ : ByteArray).toList.isEmpty = true; rw [toList_none]; rfl), h.many, h.rets⟩
  have := h.shape
  simp only [shapedB, Bool.and_eq_true, Bool.or_eq_true, decide_eq_true_eq] at this ⊢
  exact ⟨⟨this.1.1, .inl (by rw [toList_none]; rfl)⟩, this.2⟩
theorem ok_cut (h : CheckOk S Q) {m : Nat} (hm : m ≤ Q.m) : CheckOk S { Q with m := m } := by
  refine ⟨h.sch, ?_, h.items, h.wher, h.within, h.by_, Nat.le_trans hm h.many, fun k hk => h.rets k (Nat.lt_of_lt_of_le hk hm)⟩
  have := h.shape
  simp only [shapedB, Bool.and_eq_true] at this ⊢
  exact ⟨this.1, all_yes fun k hk => of_all this.2 (Nat.lt_of_lt_of_le hk hm)⟩
theorem ok_less (h : CheckOk S Q) {v : Int} (h0 : 0 ≤ v) (h1 : v < Q.within) : CheckOk S { Q with within := v } := by
  refine ⟨h.sch, ?_, h.items, h.wher, by have := h.within; show v ≤ _; omega, h.by_, h.many, h.rets⟩
  have := h.shape
  simp only [shapedB, Bool.and_eq_true, decide_eq_true_eq] at this ⊢
  exact ⟨⟨⟨⟨⟨this.1.1.1.1.1, h0⟩, this.1.1.1.2⟩, this.1.1.2⟩, this.1.2⟩, this.2⟩
end
end Go.Proofs.YtagcbljfaflhoaaDoor

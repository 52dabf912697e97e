import Derived.Test.YtkgcfllbkjlfcaaO27
namespace Go.Proofs.Ytkgcfllbkjlfcaa
open Go.RowKit

attribute [local go_sem] Program.isFuncB Program.isSliceB

variable {w w' w'' w0 : World}

/-! ### the plain law of OpWithin -/
theorem fields_sub (regs : List Int) : ∀ (n : Nat) (s : List UInt8), s.length = n → (∀ x ∈ (fieldsOf regs s).2.1, x ∈ (fieldsOf regs s).1) ∧ ((fieldsOf regs s).2.2 = -1 ∨ (fieldsOf regs s).2.2 ∈ (fieldsOf regs s).1)
  | 0, s, h => by rw [List.length_eq_zero_iff.1 h]; simp [fieldsOf]
  | n + 1, s, h => by
    have hne : s ≠ [] := by rintro rfl; simp at h
    rw [← List.dropLast_concat_getLast hne, fieldsOf_snoc]
    obtain ⟨h1, h2⟩ := fields_sub regs n s.dropLast (by simp [h])
    generalize s.getLast hne = c
    generalize fieldsOf regs s.dropLast = st at *
    unfold stepF
    split
    · refine ⟨fun x hx => List.mem_append_left _ (h1 x hx), .inr (by simp)⟩
    · split
      · refine ⟨fun x hx => ?_, ?_⟩
        · rcases List.mem_append.1 hx with h | h
          · exact List.mem_append_left _ (h1 x h)
          · exact List.mem_append_right _ h
        · rcases h2 with h | h
          · exact .inl h
          · exact .inr (List.mem_append_left _ h)
      · exact ⟨h1, h2⟩

structure Fine (o A B C N : Int) (l : List Int) (regs area : Int) : Prop where
  op : 0 ≤ o ∧ o < 33
  lim : ¬ (regs < 0 ∨ 64 < regs ∨ area < 0 ∨ 4096 < area ∨ bareB o A B C N l.length = false)
  few : ¬ 8 < l.length
  all : ¬ ((fieldsOf [A, B, C] (sh o)).1 ++ l).any (out1 regs) = true
  num : ¬ (sh o).any (fun c => !numOk c.toNat N area) = true
theorem fine_iff (o A B C N : Int) (l : List Int) (regs area : Int) : checkOf o A B C N l regs area = 0 ↔ Fine o A B C N l regs area := by
  unfold checkOf
  constructor
  · intro h
    by_cases h1 : 0 ≤ o ∧ o < 33
    · rw [if_neg (fun h => h h1)] at h
      by_cases h2 : regs < 0 ∨ 64 < regs ∨ area < 0 ∨ 4096 < area ∨ bareB o A B C N l.length = false
      · rw [if_pos h2] at h; cases h
      rw [if_neg h2] at h
      by_cases h3 : 8 < l.length
      · rw [if_pos h3] at h; cases h
      rw [if_neg h3] at h
      by_cases h4 : ((fieldsOf [A, B, C] (sh o)).1 ++ l).any (out1 regs) = true
      · rw [if_pos h4] at h; cases h
      rw [if_neg h4] at h
      by_cases h5 : (sh o).any (fun c => !numOk c.toNat N area) = true
      · rw [if_pos h5] at h; cases h
      exact ⟨h1, h2, h3, h4, h5⟩
    · rw [if_pos h1] at h; cases h
  · rintro ⟨h1, h2, h3, h4, h5⟩
    rw [if_neg (fun h => h h1), if_neg h2, if_neg h3, if_neg h4, if_neg h5]

theorem numOk_more (c N a b : Int) (h : numOk c N a = true) (hab : a ≤ b) : numOk c N b = true := by
  unfold numOk at *
  repeat' split at h
  all_goals first
    | (rename_i e; subst e; simpa using h)
    | (simp_all; done)
    | (simp_all; omega)

theorem fine_more {o A B C N : Int} {l : List Int} {regs area more wider : Int} (h : Fine o A B C N l regs area) (h1 : regs ≤ more) (h2 : more ≤ 64) (h3 : area ≤ wider) (h4 : wider ≤ 4096) : Fine o A B C N l more wider := by
  refine ⟨h.op, ?_, h.few, ?_, ?_⟩
  · have := h.lim
    rintro (h | h | h | h | h)
    · omega
    · omega
    · omega
    · omega
    · exact this (.inr (.inr (.inr (.inr h))))
  · intro hx
    apply h.all
    rw [List.any_eq_true] at hx ⊢
    obtain ⟨x, hx, ho⟩ := hx
    refine ⟨x, hx, ?_⟩
    simp [out1] at ho ⊢
    omega
  · intro hx
    apply h.num
    rw [List.any_eq_true] at hx ⊢
    obtain ⟨x, hx, ho⟩ := hx
    refine ⟨x, hx, ?_⟩
    cases hn : numOk (x.toNat) N area with
    | false => rfl
    | true => rw [numOk_more _ _ _ _ hn h3] at ho; cases ho

/-- all that is read or written lies within -/
theorem fine_reads {o A B C N : Int} {l : List Int} {regs area : Int} (h : Fine o A B C N l regs area) : (∀ x ∈ readsOf o A B C l, 0 ≤ x ∧ x < regs) ∧ ((fieldsOf [A, B, C] (sh o)).2.2 = -1 ∨ 0 ≤ (fieldsOf [A, B, C] (sh o)).2.2 ∧ (fieldsOf [A, B, C] (sh o)).2.2 < regs) := by
  have hall : ∀ x ∈ (fieldsOf [A, B, C] (sh o)).1 ++ l, 0 ≤ x ∧ x < regs := fun x hx => by
    have h1 := h.all
    rw [List.any_eq_true] at h1
    have h2 : ¬ out1 regs x = true := fun h => h1 ⟨x, hx, h⟩
    simp [out1] at h2
    omega
  obtain ⟨s1, s2⟩ := fields_sub [A, B, C] _ (sh o) rfl
  refine ⟨fun x hx => ?_, ?_⟩
  · unfold readsOf at hx
    rcases List.mem_append.1 hx with h | h
    · exact hall x (List.mem_append_left _ (s1 x h))
    · split at h
      · exact hall x (List.mem_append_right _ h)
      · cases h
  · rcases s2 with h | h
    · exact .inl h
    · exact .inr (hall _ (List.mem_append_left _ h))

theorem jumpsB : ((List.range 33).all fun n => (hasB (shapeOf n).data.toList 116 == (n == 25 || n == 26 || n == 27)) && (!hasB (shapeOf n).data.toList 116 || (shapeOf n).data.toList.contains 116)) = true := by decide
theorem fine_target {o A B C N : Int} {l : List Int} {regs area : Int} (h : Fine o A B C N l regs area) :
    decide (0 ≤ (if hasB (sh o) 116 = true then N else -1)) = (o == 25 || o == 26 || o == 27) := by
  have h1 := h.op
  obtain ⟨m, rfl⟩ : ∃ m : Nat, o = m := ⟨o.toNat, by omega⟩
  have h2 := List.all_eq_true.1 jumpsB m (by simp; omega)
  have hs : sh m = (shapeOf m).data.toList := by unfold sh shapeI; rw [if_pos h1, Int.toNat_natCast]
  simp only [Bool.and_eq_true, beq_iff_eq] at h2
  obtain ⟨e1, e2⟩ := h2
  have hc : (((m : Int) == 25) || ((m : Int) == 26) || ((m : Int) == 27)) = (m == 25 || m == 26 || m == 27) := by
    rw [Bool.eq_iff_iff]
    simp
    omega
  rw [hc, hs]
  rw [e1] at e2 ⊢
  cases hb : (m == 25 || m == 26 || m == 27) with
  | false => simp
  | true =>
    rw [hb] at e2
    simp at e2
    have hn := h.num
    rw [List.any_eq_true] at hn
    have h5 : numOk 116 N area = true := by
      cases hk : numOk 116 N area with
      | true => rfl
      | false => exact (hn ⟨116, by rw [hs]; simpa using e2, by show (!numOk 116 N area) = true; rw [hk]; rfl⟩).elim
    simp [numOk] at h5
    simp
    exact h5.1

end Go.Proofs.Ytkgcfllbkjlfcaa

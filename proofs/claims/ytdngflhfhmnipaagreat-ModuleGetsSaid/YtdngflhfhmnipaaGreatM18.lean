/- The plain law of modules' bytes: what is read is put as it was; where a fault is. -/
import Derived.Test.YtdngflhfhmnipaaGreatM17
set_option linter.unusedSimpArgs false
set_option linter.unusedVariables false
set_option linter.unusedSectionVars false
set_option linter.unnecessarySimpa false
namespace Go.Proofs.YtdngflhfhmnipaaGreat

/-! ### backward -/
theorem take_back {bs : List Nat} {n : Nat} {s : Pl} (ha : s.at_ ≤ bs.length) (h : (takeP bs n s).2.er = 0) : s.er = 0 ∧ (takeP bs n s).1.length = n ∧ (takeP bs n s).2 = ⟨s.at_ + n, 0, s.fa⟩ ∧ bs.take (s.at_ + n) = bs.take s.at_ ++ (takeP bs n s).1 ∧ s.at_ + n ≤ bs.length := by
  unfold takeP at h ⊢
  split at h
  · rename_i h0; exact (h0 h).elim
  · rename_i h0
    have h0' : s.er = 0 := by simpa using h0
    rw [if_neg h0]
    split at h
    · exfalso
      unfold failP at h
      rw [if_pos h0'] at h
      exact absurd h (by show ¬ (4 : Int) = 0; decide)
    · rename_i h1
      rw [if_neg h1]
      exact ⟨h0', by simp; omega, by rw [h0'], by rw [List.take_add], by omega⟩
theorem failP_er {s : Pl} {e a : Int} (he : e ≠ 0) : (failP s e a).er ≠ 0 := by
  unfold failP
  split
  · exact he
  · rename_i h; exact h
theorem block_back {bs : List Nat} (hb : ∀ b ∈ bs, b < 256) {most : Nat} {s : Pl} (ha : s.at_ ≤ bs.length) (h : (blockP bs most s).2.er = 0) :
    s.er = 0 ∧ (blockP bs most s).1.length ≤ most ∧ (blockP bs most s).1.length < 65536 ∧ (blockP bs most s).2 = ⟨s.at_ + 2 + (blockP bs most s).1.length, 0, s.fa⟩ ∧
      bs.take (s.at_ + 2 + (blockP bs most s).1.length) = bs.take s.at_ ++ (le (blockP bs most s).1.length 2 ++ (blockP bs most s).1) ∧ s.at_ + 2 + (blockP bs most s).1.length ≤ bs.length := by
  have hm := blockP_len bs most s ha
  have hl2 := takeP_lt hb 2 s
  unfold blockP at *
  obtain ⟨h1, h2, h3, h4, h5⟩ := take_back (blockS_at bs most s ha) h
  have hS : blockS bs most s = (takeP bs 2 s).2 := by
    unfold blockS at h1 ⊢
    split
    · rename_i hc; rw [if_pos hc] at h1; exact (failP_er (by decide) h1).elim
    · rfl
  rw [hS] at h1
  obtain ⟨g1, g2, g3, g4, g5⟩ := take_back ha h1
  rw [hS] at h3 h4 h5
  rw [hS] at h2 hm ⊢
  rw [g3] at h3 h4 h5 ⊢
  rw [g3] at h2 hm
  dsimp only at *
  have hu := unle_two _ hl2 (by omega)
  have hle : le (unle (takeP bs 2 s).1) 2 = (takeP bs 2 s).1 := by have := le_unle _ hl2; rwa [g2] at this
  rw [h2]
  refine ⟨g1, by omega, hu, h3, ?_, h5⟩
  rw [h4, g4, hle, List.append_assoc]
theorem function_back {bs : List Nat} (hb : ∀ b ∈ bs, b < 256) {s : Pl} (ha : s.at_ ≤ bs.length) (h : (functionP bs s).2.er = 0) :
    s.er = 0 ∧ ∃ g : Fx, (functionP bs s).1 = [g] ∧ (∀ i ∈ g.c, rng i.N) ∧ (functionP bs s).2 = ⟨s.at_ + (fnB g).length, 0, s.fa⟩ ∧ bs.take (s.at_ + (fnB g).length) = bs.take s.at_ ++ fnB g ∧ s.at_ + (fnB g).length ≤ bs.length := by
  have hd0 : (fnD bs s).2.er = 0 := by
    unfold functionP at h
    split at h
    · rename_i h0; exact (h0 h).elim
    · rename_i h0; simpa using h0
  have hs0 : (fnSp bs s).er = 0 := by
    unfold functionP at h
    rw [if_neg (by simpa using hd0)] at h
    dsimp only at h
    split at h
    · exact (failP_er (by decide) h).elim
    · rename_i h0; simpa using h0
  have eF : functionP bs s = ([⟨(unle (fnA bs s).1 : Nat), (unle (fnBb bs s).1 : Nat), (unle (fnC bs s).1 : Nat), (fnSp bs s).is⟩], (fnD bs s).2) := by
    unfold functionP
    rw [if_neg (by simpa using hd0), if_neg (by simpa using hs0)]
  have aA : (fnA bs s).2.at_ ≤ bs.length := takeP_le ha
  have aB : (fnBb bs s).2.at_ ≤ bs.length := takeP_le aA
  have aC : (fnC bs s).2.at_ ≤ bs.length := takeP_le aB
  obtain ⟨d1, d2, d3, d4, d5, d6⟩ := block_back hb aC hd0
  obtain ⟨c1, c2, c3, c4, c5⟩ := take_back aB d1
  obtain ⟨b1, b2, b3, b4, b5⟩ := take_back aA c1
  obtain ⟨a1, a2, a3, a4, a5⟩ := take_back ha b1
  have uA := takeP_lt hb 1 s
  have uB := takeP_lt hb 1 (fnA bs s).2
  have uC := takeP_lt hb 2 (fnBb bs s).2
  have uD := blockP_lt hb 4096 (fnC bs s).2
  change (fnA bs s).1.length = 1 at a2
  change (fnA bs s).2 = _ at a3
  change bs.take _ = _ ++ (fnA bs s).1 at a4
  change (fnBb bs s).1.length = 1 at b2
  change (fnBb bs s).2 = _ at b3
  change bs.take _ = _ ++ (fnBb bs s).1 at b4
  change (fnC bs s).1.length = 2 at c2
  change (fnC bs s).2 = _ at c3
  change bs.take _ = _ ++ (fnC bs s).1 at c4
  change (fnD bs s).1.length ≤ 4096 at d2
  change (fnD bs s).2 = ⟨_ + 2 + (fnD bs s).1.length, 0, _⟩ at d4
  change bs.take (_ + 2 + (fnD bs s).1.length) = _ ++ (le (fnD bs s).1.length 2 ++ (fnD bs s).1) at d5
  change _ + 2 + (fnD bs s).1.length ≤ _ at d6
  change ∀ b ∈ (fnA bs s).1, b < 256 at uA
  change ∀ b ∈ (fnBb bs s).1, b < 256 at uB
  change ∀ b ∈ (fnC bs s).1, b < 256 at uC
  change ∀ b ∈ (fnD bs s).1, b < 256 at uD
  obtain ⟨j1, j2⟩ : joinB (fnSp bs s).is = (fnD bs s).1 ∧ ∀ i ∈ (fnSp bs s).is, rng i.N := by
    rcases split_spl (fnD bs s).1 uD with ⟨-, hsp⟩ | ⟨hsp, -⟩
    · exact ⟨(spl_join hsp d2).2, hsp.n⟩
    · exact (hsp hs0).elim
  have lA := le_unle _ uA
  have lB := le_unle _ uB
  have lC := le_unle _ uC
  rw [a2] at lA
  rw [b2] at lB
  rw [c2] at lC
  have eB : fnB ⟨(unle (fnA bs s).1 : Nat), (unle (fnBb bs s).1 : Nat), (unle (fnC bs s).1 : Nat), (fnSp bs s).is⟩ = (fnA bs s).1 ++ ((fnBb bs s).1 ++ ((fnC bs s).1 ++ (le (fnD bs s).1.length 2 ++ (fnD bs s).1))) := by
    unfold fnB
    dsimp only
    rw [j1, Int.toNat_natCast, Int.toNat_natCast, Int.toNat_natCast, lA, lB, lC]
  have eL : (fnB ⟨(unle (fnA bs s).1 : Nat), (unle (fnBb bs s).1 : Nat), (unle (fnC bs s).1 : Nat), (fnSp bs s).is⟩).length = 1 + 1 + 2 + 2 + (fnD bs s).1.length := by
    rw [eB]
    simp only [List.length_append, a2, b2, c2, le_len]
    omega
  rw [a3] at b3 b4
  dsimp only at b3 b4
  rw [b3] at c3 c4
  dsimp only at c3 c4
  rw [c3] at d4 d5 d6
  dsimp only at d4 d5 d6
  have e5 : s.at_ + (1 + 1 + 2 + 2 + (fnD bs s).1.length) = s.at_ + 1 + 1 + 2 + 2 + (fnD bs s).1.length := by omega
  refine ⟨a1, _, by rw [eF], j2, ?_, ?_, ?_⟩
  · rw [eF, eL, e5]; exact d4
  · rw [eL, e5, eB, d5, c4, b4, a4]
    simp only [List.append_assoc]
  · rw [eL, e5]; exact d6
theorem loop_back {bs : List Nat} (hb : ∀ b ∈ bs, b < 256) {s : Pl} (ha : s.at_ ≤ bs.length) : ∀ k, (loopP bs k ([], s)).2.er = 0 → s.er = 0 ∧ (loopP bs k ([], s)).1.length = k ∧ (∀ g ∈ (loopP bs k ([], s)).1, ∀ i ∈ g.c, rng i.N) ∧
    (loopP bs k ([], s)).2 = ⟨s.at_ + (fnsB (loopP bs k ([], s)).1).length, 0, s.fa⟩ ∧ bs.take (s.at_ + (fnsB (loopP bs k ([], s)).1).length) = bs.take s.at_ ++ fnsB (loopP bs k ([], s)).1 ∧ s.at_ + (fnsB (loopP bs k ([], s)).1).length ≤ bs.length
  | 0, h => by
    refine ⟨h, rfl, (fun g hg => (by cases hg)), ?_, (by simp [loopP, fnsB]), (by simpa [loopP, fnsB] using ha)⟩
    have : s.er = 0 := h
    obtain ⟨a, b, c⟩ := s
    dsimp only at this
    subst this
    simp [loopP, fnsB]
  | k + 1, h => by
    have e : loopP bs (k + 1) ([], s) = (if (loopP bs k ([], s)).2.er = 0 then ((loopP bs k ([], s)).1 ++ (functionP bs (loopP bs k ([], s)).2).1, (functionP bs (loopP bs k ([], s)).2).2) else loopP bs k ([], s)) := rfl
    rw [e] at h ⊢
    by_cases hk : (loopP bs k ([], s)).2.er = 0
    · rw [if_pos hk] at h ⊢
      obtain ⟨h1, h2, h3, h4, h5, h6⟩ := loop_back hb ha k hk
      generalize loopP bs k ([], s) = y at *
      obtain ⟨l, t⟩ := y
      dsimp only at *
      have hta : t.at_ ≤ bs.length := by rw [h4]; exact h6
      obtain ⟨-, g, q2, q3, q4, q5, q6⟩ := function_back hb hta h
      have eA : fnsB (l ++ [g]) = fnsB l ++ fnB g := by simp [fnsB]
      rw [h4] at q4 q5 q6
      dsimp only at q4 q5 q6
      have e7 : s.at_ + (fnsB l ++ fnB g).length = s.at_ + (fnsB l).length + (fnB g).length := by rw [List.length_append, Nat.add_assoc]
      rw [q2, h4, eA, e7]
      refine ⟨h1, by simp [h2], fun g' hg => ?_, q4, by rw [q5, h5, List.append_assoc], q6⟩
      rcases List.mem_append.1 hg with hg | hg
      · exact h3 g' hg
      · rw [List.mem_singleton] at hg; subst hg; exact q3
    · rw [if_neg hk] at h; exact (hk h).elim

end Go.Proofs.YtdngflhfhmnipaaGreat

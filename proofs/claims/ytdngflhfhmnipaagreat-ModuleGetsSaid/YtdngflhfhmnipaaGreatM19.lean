/- The plain law of modules' bytes: Get's answer, backward; faults lie within. -/
import Derived.Test.YtdngflhfhmnipaaGreatM18
set_option linter.unusedSimpArgs false
set_option linter.unusedVariables false
set_option linter.unusedSectionVars false
set_option linter.unnecessarySimpa false
namespace Go.Proofs.YtdngflhfhmnipaaGreat

theorem three_of {bs : List Nat} (h3 : 3 ≤ bs.length) (hb : badH bs 3 = false) : bs.take 3 = [84, 87, 1] := by
  have h : ∀ i, i < 3 → bs.getD i 0 = markL.getD i 0 := by
    intro i hi
    unfold badH at hb
    rw [List.any_eq_false] at hb
    have := hb i (List.mem_range.2 hi)
    simp only [Bool.and_eq_true, decide_eq_true_eq, bne_iff_ne, ne_eq, not_and, Classical.not_not] at this
    exact this (by omega)
  match bs, h3, h with
  | a :: b :: c :: t, _, h =>
    have h0 := h 0 (by omega)
    have h1 := h 1 (by omega)
    have h2 := h 2 (by omega)
    simp [markL] at h0 h1 h2
    simp [h0, h1, h2]

theorem getM_back (bs : List Nat) (hb : ∀ b ∈ bs, b < 256) (h : (getM bs).2.1 = 0) : FineM (getM bs).1 ∧ modB (getM bs).1 = bs ∧ getM bs = ((getM bs).1, 0, 0) := by
  have hG : (getG bs).er = 0 := by
    unfold getM at h
    split at h
    · rename_i h0; exact (h0 h).elim
    · rename_i h0; simpa using h0
  have eM : getM bs = (getMx bs, 0, 0) := by unfold getM; rw [if_neg (by simpa using hG)]
  have hC : modCk (getMx bs) = 0 ∧ (getF bs).er = 0 := by
    unfold getG at hG
    split at hG
    · exact (failP_er (by decide) hG).elim
    · rename_i h0; exact ⟨by simpa using h0, hG⟩
  obtain ⟨hck, hF⟩ := hC
  have hE : (getE bs).2.er = 0 ∧ bs.length ≤ (getE bs).2.at_ := by
    unfold getF at hF
    split at hF
    · exact (failP_er (by decide) hF).elim
    · rename_i h0; exact ⟨hF, by omega⟩
  obtain ⟨hE1, hE2⟩ := hE
  obtain ⟨l1, l2, l3, l4, l5, l6⟩ := loop_back hb (getD_at bs) (getN bs) hE1
  change (getE bs).1.length = _ at l2
  change ∀ g ∈ (getE bs).1, _ at l3
  change (getE bs).2 = ⟨_ + (fnsB (getE bs).1).length, 0, _⟩ at l4
  change bs.take (_ + (fnsB (getE bs).1).length) = _ ++ fnsB (getE bs).1 at l5
  have hD : (getC bs).2.er = 0 ∧ getD bs = (getC bs).2 := by
    unfold getD at l1 ⊢
    split at l1
    · exact (failP_er (by decide) l1).elim
    · rename_i h0; rw [if_neg h0]; exact ⟨l1, rfl⟩
  obtain ⟨hC1, hD1⟩ := hD
  obtain ⟨c1, c2, c3, c4, c5⟩ := take_back (getB_at bs) hC1
  have uC := takeP_lt hb 1 (getB bs).2
  change (getC bs).1.length = 1 at c2
  change (getC bs).2 = _ at c3
  change bs.take _ = _ ++ (getC bs).1 at c4
  change ∀ b ∈ (getC bs).1, b < 256 at uC
  have lC : le (getN bs) 1 = (getC bs).1 := by have := le_unle _ uC; rwa [c2] at this
  obtain ⟨b1, b2, b3, b4, b5, b6⟩ := block_back hb (headP_at bs) c1
  change (getB bs).2 = ⟨_ + 2 + (getB bs).1.length, 0, _⟩ at b4
  change bs.take (_ + 2 + (getB bs).1.length) = _ ++ (le (getB bs).1.length 2 ++ (getB bs).1) at b5
  have uB := blockP_lt hb 8192 (headP bs)
  change ∀ b ∈ (getB bs).1, b < 256 at uB
  obtain ⟨h1, h2, h3, h4, h5⟩ := take_back (s := headS bs 3) (n := 3) (by rw [headS_at]; omega) b1
  change headP bs = _ at h3
  rw [headS_at] at h3 h5
  have hbad : badH bs 3 = false := by
    unfold headS at h1
    cases hq : badH bs 3 with
    | false => rfl
    | true => rw [hq] at h1; exact absurd h1 (by show ¬ (10 : Int) = 0; decide)
  have hm := three_of (by omega) hbad
  rw [h3] at b4 b5
  dsimp only at b4 b5
  rw [b4] at c3 c4
  dsimp only at c3 c4
  rw [hD1, c3] at l4 l5
  dsimp only at l4 l5
  rw [l4] at hE2
  dsimp only at hE2
  rw [List.take_of_length_le hE2, c4, b5, Nat.zero_add, hm] at l5
  refine ⟨?_, ?_, by rw [eM]⟩
  · rw [eM]
    exact ⟨hck, l3, uB⟩
  · rw [eM]
    dsimp only [getMx]
    unfold modB headB
    dsimp only
    refine Eq.trans ?_ l5.symm
    rw [l2, lC]
    simp only [List.append_assoc]

def InP (bs : List Nat) (s : Pl) : Prop := s.er ≠ 0 → 0 ≤ s.fa ∧ s.fa ≤ bs.length
theorem InP.fail {bs : List Nat} {s : Pl} (h : InP bs s) {e a : Int} (h0 : 0 ≤ a) (h1 : a ≤ bs.length) : InP bs (failP s e a) := by
  unfold failP
  split
  · exact fun _ => ⟨h0, h1⟩
  · exact h
theorem InP.take {bs : List Nat} {s : Pl} (h : InP bs s) (n : Nat) : InP bs (takeP bs n s).2 := by
  unfold takeP
  split
  · exact h
  · split
    · exact h.fail (by omega) (by omega)
    · exact fun e => h e
theorem InP.block {bs : List Nat} {s : Pl} (h : InP bs s) (ha : s.at_ ≤ bs.length) (most : Nat) : InP bs (blockP bs most s).2 := by
  unfold blockP
  refine InP.take ?_ _
  unfold blockS
  split
  · exact (h.take 2).fail (by omega) (by omega)
  · exact h.take 2
theorem InP.func {bs : List Nat} (hb : ∀ b ∈ bs, b < 256) {s : Pl} (h : InP bs s) (ha : s.at_ ≤ bs.length) : InP bs (functionP bs s).2 := by
  have aA : (fnA bs s).2.at_ ≤ bs.length := takeP_le ha
  have aB : (fnBb bs s).2.at_ ≤ bs.length := takeP_le aA
  have aC : (fnC bs s).2.at_ ≤ bs.length := takeP_le aB
  have hD : InP bs (fnD bs s).2 := (((h.take 1).take 1).take 2).block aC 4096
  unfold functionP
  split
  · exact hD
  · rename_i h0
    dsimp only
    split
    · obtain ⟨-, -, -, d4, -, d6⟩ := block_back (most := 4096) hb aC (Classical.not_not.1 h0)
      change (fnD bs s).2 = ⟨_ + 2 + (fnD bs s).1.length, 0, _⟩ at d4
      change _ + 2 + (fnD bs s).1.length ≤ _ at d6
      have e : (fnD bs s).2.at_ = (fnC bs s).2.at_ + 2 + (fnD bs s).1.length := by rw [d4]
      exact hD.fail (by omega) (by omega)
    · exact hD
theorem InP.loop {bs : List Nat} (hb : ∀ b ∈ bs, b < 256) {s : Pl} (h : InP bs s) (ha : s.at_ ≤ bs.length) : ∀ k, InP bs (loopP bs k ([], s)).2 ∧ (loopP bs k ([], s)).2.at_ ≤ bs.length
  | 0 => ⟨h, ha⟩
  | k + 1 => by
    obtain ⟨h1, h2⟩ := InP.loop hb h ha k
    have e : loopP bs (k + 1) ([], s) = (if (loopP bs k ([], s)).2.er = 0 then ((loopP bs k ([], s)).1 ++ (functionP bs (loopP bs k ([], s)).2).1, (functionP bs (loopP bs k ([], s)).2).2) else loopP bs k ([], s)) := rfl
    rw [e]
    split
    · exact ⟨h1.func hb h2, functionP_at bs _ h2⟩
    · exact ⟨h1, h2⟩
theorem getM_bad (bs : List Nat) (hb : ∀ b ∈ bs, b < 256) (h : (getM bs).2.1 ≠ 0) : (getM bs).1 = ⟨[], []⟩ ∧ 0 ≤ (getM bs).2.2 ∧ (getM bs).2.2 ≤ bs.length := by
  have hH : InP bs (headP bs) := by
    refine InP.take ?_ 3
    unfold headS
    split
    · exact fun _ => ⟨by show (0 : Int) ≤ 0; omega, by show (0 : Int) ≤ _; omega⟩
    · exact fun e => (e rfl).elim
  have hB : InP bs (getB bs).2 := hH.block (headP_at bs) 8192
  have hC : InP bs (getC bs).2 := hB.take 1
  have hD : InP bs (getD bs) := by
    unfold getD
    split
    · exact hC.fail (by omega) (by have := getB_at bs; omega)
    · exact hC
  obtain ⟨hE, aE⟩ := InP.loop hb hD (getD_at bs) (getN bs)
  have hF : InP bs (getF bs) := by
    unfold getF
    split
    · exact InP.fail hE (by omega) (by omega)
    · exact hE
  have hG : InP bs (getG bs) := by
    unfold getG
    split
    · exact hF.fail (by omega) (by omega)
    · exact hF
  unfold getM at h ⊢
  split at h
  · rename_i h0
    rw [if_pos h0]
    exact ⟨rfl, hG h0⟩
  · exact (h rfl).elim
/-- without its last byte, no module's bytes are one's -/
theorem getM_less (bs : List Nat) (hb : ∀ b ∈ bs, b < 256) (h : (getM bs).2.1 = 0) : bs ≠ [] ∧ (getM (bs.take (bs.length - 1))).2.1 ≠ 0 := by
  obtain ⟨h1, h2, h3⟩ := getM_back bs hb h
  have hne : bs ≠ [] := by
    rw [← h2]
    simp [modB, headB]
  refine ⟨hne, fun h4 => ?_⟩
  obtain ⟨q1, q2, -⟩ := getM_back _ (fun b hb' => hb b (List.mem_of_mem_take hb')) h4
  have e : bs = bs.take (bs.length - 1) ++ [bs.getLast hne] := by
    rw [← List.dropLast_eq_take, List.dropLast_concat_getLast]
  have := getM_more _ q1 (bs.getLast hne) []
  rw [q2, ← e] at this
  rw [this] at h
  exact absurd h (by show ¬ (4 : Int) = 0; decide)

end Go.Proofs.YtdngflhfhmnipaaGreat

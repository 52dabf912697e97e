import Derived.Test.YtajfhgphbcmmhaaG35
set_option linter.unusedSimpArgs false
set_option linter.unusedVariables false
set_option linter.unusedSectionVars false
set_option linter.unnecessarySimpa false
namespace Go.Proofs.Ytajfhgphbcmmhaa
open Go.RowKit

attribute [local go_sem] Program.isFuncB Program.isSliceB

variable {w w' w'' w0 : World}

/-! ### what is split is joined as it was; where it may be cut -/
structure Spl (bs : List Nat) (sp : Sp) : Prop where
  ck : ∀ i ∈ sp.is, ckOf i = 0
  n : ∀ i ∈ sp.is, rng i.N
  bytes : bytesOf sp.is = bs
  places : sp.ps = placesOf sp.is
theorem splitR_spl (bs : List Nat) (hb : ∀ b ∈ bs, b < 256) : ∀ (f : Nat) (is : List Ix) (ps : List Int) (a : Nat), bs.length < f + a → a ≤ bs.length → (∀ i ∈ is, ckOf i = 0) → (∀ i ∈ is, rng i.N) → bytesOf is = bs.take a → ps = placesOf is →
    ((splitR bs f is ps a).er = 0 ∧ Spl bs (splitR bs f is ps a)) ∨ ((splitR bs f is ps a).er ≠ 0 ∧ (splitR bs f is ps a).is = [] ∧ (splitR bs f is ps a).ps = [] ∧ 0 ≤ (splitR bs f is ps a).fa ∧ (splitR bs f is ps a).fa ≤ bs.length)
  | 0, is, ps, a, hf, ha, _, _, _, _ => by omega
  | f + 1, is, ps, a, hf, ha, h1, h2, h3, h4 => by
    unfold splitR
    by_cases c1 : bs.length ≤ a
    · rw [if_pos c1]
      refine .inl ⟨rfl, h1, h2, ?_, h4⟩
      show bytesOf is = bs
      rw [h3, List.take_of_length_le c1]
    rw [if_neg c1]
    by_cases c2 : (getR bs a).er ≠ 0
    · rw [if_pos c2]
      rcases getR_cases bs a with ⟨h, -⟩ | ⟨-, -, -, h5, h6⟩
      · exact absurd h c2
      · exact .inr ⟨c2, rfl, rfl, h5, h6⟩
    rw [if_neg c2]
    obtain ⟨m, n, hm, hn, hnl, hmn, hd, hck, hrn⟩ := getR_back bs hb a (Classical.not_not.1 c2)
    obtain rfl : a = m := by omega
    rw [hn, Int.toNat_natCast]
    have hE : encE (getR bs a).ix = (bs.drop a).take (n - a) := by
      have hl := congrArg List.length hd
      simp only [List.length_drop, List.length_append] at hl
      rw [hd, List.take_left' (by omega)]
    refine splitR_spl bs hb f _ _ n (by omega) hnl ?_ ?_ ?_ ?_
    · intro i hi
      rw [List.mem_append, List.mem_singleton] at hi
      rcases hi with hi | rfl
      · exact h1 i hi
      · exact hck
    · intro i hi
      rw [List.mem_append, List.mem_singleton] at hi
      rcases hi with hi | rfl
      · exact h2 i hi
      · exact hrn
    · rw [bytesOf_snoc, h3, hE]
      conv => rhs; rw [show n = a + (n - a) from by omega, List.take_add]
    · rw [h4]
      unfold placesOf
      rw [List.length_append, List.length_singleton, List.range_succ, List.map_append]
      congr 1
      · refine List.map_congr_left fun k hk => ?_
        rw [List.take_append_of_le_length (by have := List.mem_range.1 hk; omega)]
      · simp only [List.map_cons, List.map_nil]
        rw [List.take_left' rfl, h3, List.length_take, Nat.min_eq_left ha]
theorem split_spl (bs : List Nat) (hb : ∀ b ∈ bs, b < 256) : ((splitR bs (bs.length + 1) [] [] 0).er = 0 ∧ Spl bs (splitR bs (bs.length + 1) [] [] 0)) ∨ ((splitR bs (bs.length + 1) [] [] 0).er ≠ 0 ∧ (splitR bs (bs.length + 1) [] [] 0).is = [] ∧ (splitR bs (bs.length + 1) [] [] 0).ps = [] ∧ 0 ≤ (splitR bs (bs.length + 1) [] [] 0).fa ∧ (splitR bs (bs.length + 1) [] [] 0).fa ≤ bs.length) :=
  splitR_spl bs hb _ [] [] 0 (by omega) (Nat.zero_le _) (by simp) (by simp) (by simp [bytesOf]) (by simp [placesOf])
theorem spl_join {bs : List Nat} {sp : Sp} (h : Spl bs sp) (hl : bs.length ≤ 4096) : joinCk sp.is = 0 ∧ joinB sp.is = bs := by
  have : joinCk sp.is = 0 := by rw [joinCk_good _ h.ck, h.bytes, if_neg (by omega)]
  exact ⟨this, by unfold joinB; rw [if_pos this, h.bytes]⟩

theorem prefix_code : ∀ (js is : List Ix) (rest : List Nat), (∀ i ∈ js, ckOf i = 0) → (∀ i ∈ js, rng i.N) → (∀ i ∈ is, ckOf i = 0) → (∀ i ∈ is, rng i.N) → bytesOf is = bytesOf js ++ rest → js = is.take js.length ∧ js.length ≤ is.length
  | [], is, rest, _, _, _, _, _ => ⟨by simp, Nat.zero_le _⟩
  | j :: js, is, rest, h1, h2, h3, h4, h5 => by
    have hj := encE_pos j (h1 j (by simp))
    match is, h3, h4, h5 with
    | [], _, _, h5 =>
      have := congrArg List.length h5
      simp only [bytesOf, List.flatMap_nil, List.flatMap_cons, List.length_append, List.length_nil] at this
      omega
    | i :: is, h3, h4, h5 =>
      have e1 : bytesOf (j :: js) = encE j ++ bytesOf js := rfl
      have e2 : bytesOf (i :: is) = encE i ++ bytesOf is := rfl
      have g1 := getR_enc j (h1 j (by simp)) (h2 j (by simp)) (bytesOf (i :: is)) 0 (bytesOf js ++ rest) (by rw [List.drop_zero, h5, e1, List.append_assoc])
      have g2 := getR_enc i (h3 i (by simp)) (h4 i (by simp)) (bytesOf (i :: is)) 0 (bytesOf is) (by rw [List.drop_zero, e2])
      rw [g1] at g2
      obtain rfl : j = i := congrArg Gt.ix g2
      rw [e1, e2, List.append_assoc] at h5
      obtain ⟨q1, q2⟩ := prefix_code js is rest (fun x hx => h1 x (by simp [hx])) (fun x hx => h2 x (by simp [hx])) (fun x hx => h3 x (by simp [hx])) (fun x hx => h4 x (by simp [hx])) (List.append_cancel_left h5)
      refine ⟨?_, by simpa using q2⟩
      rw [List.length_cons, List.take_succ_cons, ← q1]
/-- cut anywhere but at a place, bytes are not split -/
theorem cut_law (bs : List Nat) (hb : ∀ b ∈ bs, b < 256) (sp : Sp) (h : Spl bs sp) (n : Nat) (hn : n ≤ bs.length) :
    decide ((splitR (bs.take n) ((bs.take n).length + 1) [] [] 0).er = 0) = decide (n = bs.length ∨ (n : Int) ∈ sp.ps) ∧
    ((splitR (bs.take n) ((bs.take n).length + 1) [] [] 0).er = 0 → (splitR (bs.take n) ((bs.take n).length + 1) [] [] 0).is = sp.is.take (splitR (bs.take n) ((bs.take n).length + 1) [] [] 0).is.length ∧ (splitR (bs.take n) ((bs.take n).length + 1) [] [] 0).is.length ≤ sp.is.length) := by
  have hps : sp.ps = (List.range sp.is.length).map fun k => ((bytesOf (sp.is.take k)).length : Int) := h.places
  have fwd : ∀ k, k ≤ sp.is.length → n = (bytesOf (sp.is.take k)).length → splitR (bs.take n) ((bs.take n).length + 1) [] [] 0 = ⟨sp.is.take k, placesOf (sp.is.take k), 0, 0⟩ := by
    intro k hk he
    have e : bs.take n = bytesOf (sp.is.take k) := by
      have : bs = bytesOf (sp.is.take k) ++ bytesOf (sp.is.drop k) := by rw [← bytesOf_app, List.take_append_drop, h.bytes]
      rw [this, he, List.take_left' rfl]
    rw [e]
    exact splitR_joined _ (fun i hi => h.ck i (List.mem_of_mem_take hi)) (fun i hi => h.n i (List.mem_of_mem_take hi))
  have back : (splitR (bs.take n) ((bs.take n).length + 1) [] [] 0).er = 0 → (splitR (bs.take n) ((bs.take n).length + 1) [] [] 0).is = sp.is.take (splitR (bs.take n) ((bs.take n).length + 1) [] [] 0).is.length ∧ (splitR (bs.take n) ((bs.take n).length + 1) [] [] 0).is.length ≤ sp.is.length ∧ n = (bytesOf (sp.is.take (splitR (bs.take n) ((bs.take n).length + 1) [] [] 0).is.length)).length := by
    intro h0
    rcases split_spl (bs.take n) (fun b hb' => hb b (List.mem_of_mem_take hb')) with ⟨-, hs⟩ | ⟨hs, -⟩
    · generalize splitR (bs.take n) ((bs.take n).length + 1) [] [] 0 = s2 at *
      obtain ⟨q1, q2⟩ := prefix_code s2.is sp.is (bs.drop n) hs.ck hs.n h.ck h.n (by rw [h.bytes, hs.bytes, List.take_append_drop])
      refine ⟨q1, q2, ?_⟩
      rw [← q1, hs.bytes, List.length_take, Nat.min_eq_left hn]
    · exact absurd h0 hs
  have iff : (splitR (bs.take n) ((bs.take n).length + 1) [] [] 0).er = 0 ↔ (n = bs.length ∨ (n : Int) ∈ sp.ps) := by
    constructor
    · intro h0
      obtain ⟨q1, q2, q3⟩ := back h0
      generalize (splitR (bs.take n) ((bs.take n).length + 1) [] [] 0).is.length = k at *
      by_cases hk : k = sp.is.length
      · left
        rw [q3, hk, List.take_length, h.bytes]
      · right
        rw [hps, List.mem_map]
        exact ⟨k, List.mem_range.2 (by omega), by rw [← q3]⟩
    · intro h0
      rcases h0 with h0 | h0
      · rw [fwd sp.is.length (Nat.le_refl _) (by rw [List.take_length, h.bytes]; exact h0)]
      · rw [hps, List.mem_map] at h0
        obtain ⟨k, hk, he⟩ := h0
        rw [fwd k (by have := List.mem_range.1 hk; omega) (by omega)]
  exact ⟨decide_eq_decide.2 iff, fun h0 => ⟨(back h0).1, (back h0).2.1⟩⟩

theorem CodeIn.take {sa : Option Addr} {is : List Ix} (h : CodeIn w sa is) (k : Nat) : CodeIn w sa (is.take k) := fun j hj => by
  have hj' : j < is.length := by simp at hj; omega
  obtain ⟨b, o, u, h1, h2⟩ := h j hj'
  refine ⟨b, o, u, h1, ?_⟩
  rw [List.getElem_take]
  exact h2

end Go.Proofs.Ytajfhgphbcmmhaa

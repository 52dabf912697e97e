/- The plain law of modules' bytes: Get is Put's inverse, and Put is Get's. -/
import Derived.Test.YtdngflhfhmnipaaGreatM8
import Derived.Test.YtdngflhfhmnipaaGreatM15
set_option linter.unusedSimpArgs false
set_option linter.unusedVariables false
set_option linter.unusedSectionVars false
set_option linter.unnecessarySimpa false
namespace Go.Proofs.YtdngflhfhmnipaaGreat

theorem takeP_app {bs x rest : List Nat} {a : Nat} (h : bs.drop a = x ++ rest) (f : Int) (ha : a ≤ bs.length) : takeP bs x.length ⟨a, 0, f⟩ = (x, ⟨a + x.length, 0, f⟩) ∧ bs.drop (a + x.length) = rest ∧ a + x.length ≤ bs.length := by
  have hl := congrArg List.length h
  simp only [List.length_drop, List.length_append] at hl
  refine ⟨?_, by rw [← List.drop_drop, h, List.drop_left' rfl], by omega⟩
  unfold takeP
  rw [if_neg (by simp), if_neg (by show ¬ bs.length - a < x.length; omega)]
  show ((bs.drop a).take x.length, (_ : Pl)) = _
  rw [h, List.take_left' rfl]
theorem take_le {bs rest : List Nat} {a n k : Nat} (h : bs.drop a = le n k ++ rest) (f : Int) (ha : a ≤ bs.length) : takeP bs k ⟨a, 0, f⟩ = (le n k, ⟨a + k, 0, f⟩) ∧ bs.drop (a + k) = rest ∧ a + k ≤ bs.length := by
  have := takeP_app h f ha
  rwa [le_len] at this
theorem blockP_app {bs x rest : List Nat} {a most : Nat} (h : bs.drop a = le x.length 2 ++ (x ++ rest)) (f : Int) (ha : a ≤ bs.length) (hm : x.length ≤ most) (hn : x.length < 65536) : blockP bs most ⟨a, 0, f⟩ = (x, ⟨a + 2 + x.length, 0, f⟩) ∧ bs.drop (a + 2 + x.length) = rest ∧ a + 2 + x.length ≤ bs.length := by
  obtain ⟨h1, h2, h3⟩ := take_le h f ha
  have hu : unle (le x.length 2) = x.length := unle_le 2 _ (by omega)
  obtain ⟨h4, h5, h6⟩ := takeP_app h2 f h3
  refine ⟨?_, h5, h6⟩
  unfold blockP blockS
  rw [h1]
  dsimp only
  rw [hu, if_neg (by omega)]
  exact h4
theorem functionP_app {bs rest : List Nat} {a : Nat} {g : Fx} (h : bs.drop a = fnB g ++ rest) (f : Int) (ha : a ≤ bs.length) (hck : fnCk g = 0) (hN : ∀ i ∈ g.c, rng i.N) :
    functionP bs ⟨a, 0, f⟩ = ([g], ⟨a + (fnB g).length, 0, f⟩) ∧ bs.drop (a + (fnB g).length) = rest ∧ a + (fnB g).length ≤ bs.length := by
  obtain ⟨k1, k2, -⟩ := fnCk_zero hck
  obtain ⟨p1, p2, p3, p4, p5, p6⟩ := numBad_false k1
  obtain ⟨j1, j2, j3⟩ := joinCk_zero g.c k2
  have hjl := joinB_len g.c
  have hfl : (fnB g).length = 1 + (1 + (2 + (2 + (joinB g.c).length))) := by simp [fnB, le_len]
  unfold fnB at h
  simp only [List.append_assoc] at h
  obtain ⟨a1, a2, a3⟩ := take_le h f ha
  obtain ⟨b1, b2, b3⟩ := take_le a2 f a3
  obtain ⟨c1, c2, c3⟩ := take_le b2 f b3
  obtain ⟨d1, d2, d3⟩ := blockP_app (most := 4096) c2 f c3 hjl (by omega)
  have eA : fnA bs ⟨a, 0, f⟩ = (le g.p.toNat 1, ⟨a + 1, 0, f⟩) := a1
  have eB : fnBb bs ⟨a, 0, f⟩ = (le g.r.toNat 1, ⟨a + 1 + 1, 0, f⟩) := by unfold fnBb; rw [eA]; exact b1
  have eC : fnC bs ⟨a, 0, f⟩ = (le g.a.toNat 2, ⟨a + 1 + 1 + 2, 0, f⟩) := by unfold fnC; rw [eB]; exact c1
  have eD : fnD bs ⟨a, 0, f⟩ = (joinB g.c, ⟨a + 1 + 1 + 2 + 2 + (joinB g.c).length, 0, f⟩) := by unfold fnD; rw [eC]; exact d1
  have eS : fnSp bs ⟨a, 0, f⟩ = ⟨g.c, placesOf g.c, 0, 0⟩ := by unfold fnSp; rw [eD]; dsimp only; rw [j3]; exact splitR_joined g.c j1 hN
  have e5 : a + (fnB g).length = a + 1 + 1 + 2 + 2 + (joinB g.c).length := by omega
  refine ⟨?_, by rw [e5]; exact d2, by omega⟩
  unfold functionP
  rw [eA, eB, eC, eD, eS]
  dsimp only
  rw [if_neg (by simp), if_neg (by simp), e5, unle_le 1 _ (by omega), unle_le 1 _ (by omega), unle_le 2 _ (by omega)]
  obtain ⟨p, r, ar, c⟩ := g
  dsimp only at *
  rw [Int.toNat_of_nonneg p1, Int.toNat_of_nonneg (by omega), Int.toNat_of_nonneg p5]
theorem loopP_app {bs rest : List Nat} {a : Nat} {fs : List Fx} (h : bs.drop a = fnsB fs ++ rest) (f : Int) (ha : a ≤ bs.length) (hck : ∀ g ∈ fs, fnCk g = 0) (hN : ∀ g ∈ fs, ∀ i ∈ g.c, rng i.N) :
    ∀ k, k ≤ fs.length → loopP bs k ([], ⟨a, 0, f⟩) = (fs.take k, ⟨a + (fnsB (fs.take k)).length, 0, f⟩) ∧ bs.drop (a + (fnsB (fs.take k)).length) = fnsB (fs.drop k) ++ rest ∧ a + (fnsB (fs.take k)).length ≤ bs.length
  | 0, _ => ⟨by simp [loopP, fnsB], by simpa [fnsB] using h, by simpa [fnsB] using ha⟩
  | k + 1, hk => by
    obtain ⟨h1, h2, h3⟩ := loopP_app h f ha hck hN k (by omega)
    have hks : k < fs.length := by omega
    have hd : fnsB (fs.drop k) = fnB fs[k] ++ fnsB (fs.drop (k + 1)) := by
      rw [List.drop_eq_getElem_cons hks]
      rfl
    rw [hd, List.append_assoc] at h2
    obtain ⟨q1, q2, q3⟩ := functionP_app h2 f h3 (hck _ (List.getElem_mem hks)) (hN _ (List.getElem_mem hks))
    have hs := fnsB_take fs k hks
    refine ⟨?_, ?_, ?_⟩
    · show (let y := loopP bs k ([], ⟨a, 0, f⟩); if y.2.er = 0 then (y.1 ++ (functionP bs y.2).1, (functionP bs y.2).2) else y) = _
      rw [h1]
      dsimp only
      rw [if_pos rfl, q1, hs, List.length_append, ← Nat.add_assoc, List.take_succ_eq_append_getElem hks]
    · rw [hs, List.length_append, ← Nat.add_assoc]; exact q2
    · rw [hs, List.length_append, ← Nat.add_assoc]; exact q3

/-- a module that may be, of numbers that are some -/
structure FineM (m : Mx) : Prop where
  ck : modCk m = 0
  n : ∀ g ∈ m.f, ∀ i ∈ g.c, rng i.N
  d : ∀ b ∈ m.d, b < 256
theorem headP_mark (t : List Nat) : headP ([84, 87, 1] ++ t) = ⟨3, 0, 0⟩ := by
  have hb : badH ([84, 87, 1] ++ t) 3 = false := by
    simp [badH, markL, List.range_succ]
  unfold headP headS
  rw [hb]
  have := (takeP_app (bs := [84, 87, 1] ++ t) (x := [84, 87, 1]) (rest := t) (a := 0) rfl 0 (Nat.zero_le _)).1
  have e : takeP ([84, 87, 1] ++ t) 3 ⟨0, 0, 0⟩ = ([84, 87, 1], ⟨0 + 3, 0, 0⟩) := this
  rw [show (if false = true then (⟨0, 10, 0⟩ : Pl) else ⟨0, 0, 0⟩) = ⟨0, 0, 0⟩ from rfl, e]
theorem getE_enc (m : Mx) (h : FineM m) (rest : List Nat) : getB (modB m ++ rest) = (m.d, ⟨5 + m.d.length, 0, 0⟩) ∧ getE (modB m ++ rest) = (m.f, ⟨(modB m).length, 0, 0⟩) := by
  obtain ⟨z1, z2, z3, z4⟩ := modCk_zero h.ck
  have e0 : modB m ++ rest = [84, 87, 1] ++ (le m.d.length 2 ++ (m.d ++ (le m.f.length 1 ++ (fnsB m.f ++ rest)))) := by simp [modB, headB]
  have hml : (modB m).length = 3 + (2 + (m.d.length + 1)) + (fnsB m.f).length := by simp [modB, headB, le_len]; omega
  have hH : headP (modB m ++ rest) = ⟨3, 0, 0⟩ := by rw [e0]; exact headP_mark _
  have hd : (modB m ++ rest).drop 3 = le m.d.length 2 ++ (m.d ++ (le m.f.length 1 ++ (fnsB m.f ++ rest))) := by rw [e0]; exact List.drop_left' rfl
  have h3 : 3 ≤ (modB m ++ rest).length := by rw [e0]; simp
  obtain ⟨b1, b2, b3⟩ := blockP_app (most := 8192) hd 0 h3 z1 (by omega)
  obtain ⟨c1, c2, c3⟩ := take_le b2 0 b3
  have eB : getB (modB m ++ rest) = (m.d, ⟨3 + 2 + m.d.length, 0, 0⟩) := by unfold getB; rw [hH]; exact b1
  have eC : getC (modB m ++ rest) = (le m.f.length 1, ⟨3 + 2 + m.d.length + 1, 0, 0⟩) := by unfold getC; rw [eB]; exact c1
  have eN : getN (modB m ++ rest) = m.f.length := by unfold getN; rw [eC]; dsimp only; exact unle_le 1 _ (by omega)
  have eD : getD (modB m ++ rest) = ⟨3 + 2 + m.d.length + 1, 0, 0⟩ := by
    unfold getD
    rw [eN, eC]
    dsimp only
    rw [if_neg (by omega)]
  obtain ⟨l1, -, -⟩ := loopP_app c2 0 c3 z4 h.n m.f.length (Nat.le_refl _)
  rw [List.take_length] at l1
  have e5 : 3 + 2 + m.d.length = 5 + m.d.length := by omega
  have e6 : 3 + 2 + m.d.length + 1 + (fnsB m.f).length = (modB m).length := by omega
  refine ⟨by rw [eB, e5], ?_⟩
  unfold getE
  rw [eN, eD, l1, e6]
theorem getM_enc (m : Mx) (h : FineM m) : getM (modB m) = (m, 0, 0) := by
  have := getE_enc m h []
  rw [List.append_nil] at this
  obtain ⟨h1, h2⟩ := this
  have eX : getMx (modB m) = m := by unfold getMx; rw [h1, h2]
  have eF : getF (modB m) = ⟨(modB m).length, 0, 0⟩ := by unfold getF; rw [h2]; dsimp only; rw [if_neg (by omega)]
  have eG : getG (modB m) = ⟨(modB m).length, 0, 0⟩ := by unfold getG; rw [eX, h.ck, eF]; rfl
  unfold getM
  rw [eG, eX]
  rfl
theorem getM_more (m : Mx) (h : FineM m) (x : Nat) (t : List Nat) : getM (modB m ++ x :: t) = ((⟨[], []⟩ : Mx), (4 : Int), (((modB m).length : Nat) : Int)) := by
  obtain ⟨h1, h2⟩ := getE_enc m h (x :: t)
  have eX : getMx (modB m ++ x :: t) = m := by unfold getMx; rw [h1, h2]
  have eF : getF (modB m ++ x :: t) = (⟨(modB m).length, 4, ((modB m).length : Nat)⟩ : Pl) := by unfold getF; rw [h2]; dsimp only; rw [if_pos (by simp)]; rfl
  have eG : getG (modB m ++ x :: t) = (⟨(modB m).length, 4, ((modB m).length : Nat)⟩ : Pl) := by unfold getG; rw [eX, h.ck, eF]; rfl
  unfold getM
  rw [eG]
  rfl

end Go.Proofs.YtdngflhfhmnipaaGreat

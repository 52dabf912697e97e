import Derived.Test.YtajfhgphbcmmhaaLI
set_option linter.unusedSimpArgs false
set_option linter.unusedVariables false
set_option linter.unusedSectionVars false
set_option linter.unnecessarySimpa false
namespace Go.Proofs.Ytajfhgphbcmmhaa

/-! ### Get is Put's inverse, and Put is Get's -/
theorem fields_map (regs : List Int) : ∀ (s : List UInt8) (st : List Int × List Int × Int), (s.foldl (stepF regs) st).1 = st.1 ++ (List.range (kc s)).map (fun j => regs.getD (st.1.length + j) 0)
  | [], st => by simp [kc]
  | c :: s, st => by
    rw [List.foldl_cons, fields_map regs s, kc_cons]
    unfold stepF
    by_cases h1 : c = 119
    · subst h1
      rw [if_pos rfl, if_pos (by decide), Nat.add_comm 1, List.range_succ_eq_map]
      simp [Nat.add_assoc, Nat.add_comm 1]
    by_cases h2 : c = 114
    · subst h2
      rw [if_neg (by decide), if_pos rfl, if_pos (by decide), Nat.add_comm 1, List.range_succ_eq_map]
      simp [Nat.add_assoc, Nat.add_comm 1]
    · rw [if_neg h1, if_neg h2]
      have : regB c.toNat = false := by
        unfold regB
        simp only [Bool.or_eq_false_iff, beq_eq_false_iff_ne]
        refine ⟨fun e => h1 ?_, fun e => h2 ?_⟩
        · exact UInt8.toNat_inj.1 (by show c.toNat = 119; omega)
        · exact UInt8.toNat_inj.1 (by show c.toNat = 114; omega)
      rw [this]
      simp
theorem fields_mem (A B C : Int) (s : List UInt8) (j : Nat) (h : j < kc s) : [A, B, C].getD j 0 ∈ (fieldsOf [A, B, C] s).1 := by
  unfold fieldsOf
  rw [fields_map]
  simp only [List.nil_append, List.length_nil, Nat.zero_add, List.mem_map, List.mem_range]
  exact ⟨j, h, rfl⟩

/-- a shape without its list's letter, and that letter -/
def sh1 (o : Nat) : List UInt8 := (shapeOf o).data.toList.filter (· != 108)
def sh2 (o : Nat) : List UInt8 := if (shapeOf o).data.toList.contains 108 then [108] else []
structure ShF (o : Nat) : Prop where
  split : (shapeOf o).data.toList = sh1 o ++ sh2 o
  kc3 : kc (sh1 o) ≤ 3
  kcs : kc (shapeOf o).data.toList = kc (sh1 o)
  nc1 : nc (sh1 o) ≤ 1
  no : (108 : UInt8) ∉ sh1 o
  many : Lib.countByte (shapeOf o).data.toList 119 + Lib.countByte (shapeOf o).data.toList 114 = kc (sh1 o)
  num : Lib.containsAny (shapeOf o).data.toList numLetters = (sh1 o).any (fun c => !regB c.toNat)
  has : hasB (shapeOf o).data.toList 108 = (shapeOf o).data.toList.contains 108
  sub : ∀ c ∈ sh1 o, c ∈ (shapeOf o).data.toList
  letters : ∀ c ∈ sh1 o, regB c.toNat = false → c.toNat = 105 ∨ c.toNat = 107 ∨ c.toNat = 109 ∨ c.toNat = 122 ∨ c.toNat = 102 ∨ c.toNat = 100 ∨ c.toNat = 116 ∨ c.toNat = 99
theorem shF (o : Nat) (h : o < 33) : ShF o := by
  have h1 : ∀ o, o < 33 → (shapeOf o).data.toList = sh1 o ++ sh2 o ∧ kc (sh1 o) ≤ 3 ∧ kc (shapeOf o).data.toList = kc (sh1 o) ∧ nc (sh1 o) ≤ 1 := by decide
  have h2 : ∀ o, o < 33 → Lib.countByte (shapeOf o).data.toList 119 + Lib.countByte (shapeOf o).data.toList 114 = kc (sh1 o) ∧ Lib.containsAny (shapeOf o).data.toList numLetters = (sh1 o).any (fun c => !regB c.toNat) ∧ hasB (shapeOf o).data.toList 108 = (shapeOf o).data.toList.contains 108 := by decide
  have h3 : ∀ o, o < 33 → (sh1 o).all (fun c => regB c.toNat || c.toNat == 105 || c.toNat == 107 || c.toNat == 109 || c.toNat == 122 || c.toNat == 102 || c.toNat == 100 || c.toNat == 116 || c.toNat == 99) = true := by decide
  obtain ⟨a1, a2, a3, a4⟩ := h1 o h
  obtain ⟨b1, b2, b3⟩ := h2 o h
  have c1 := h3 o h
  refine ⟨a1, a2, a3, a4, ?_, b1, b2, b3, ?_, ?_⟩
  · unfold sh1; simp
  · unfold sh1; intro c hc; exact (List.mem_filter.1 hc).1
  · intro c hc hr
    have := List.all_eq_true.1 c1 c hc
    rw [hr] at this
    simp only [Bool.false_or, Bool.or_eq_true, beq_iff_eq] at this
    omega
theorem argsR_zero (bs : List Nat) (p : Nat × Bool) : argsR bs 0 p = ([], p) := rfl
theorem sh_at (o : Nat) (h : o < 33) : sh (o : Int) = (shapeOf o).data.toList := by
  unfold sh shapeI
  rw [if_pos (by omega), Int.toNat_natCast]

set_option maxHeartbeats 4000000 in
theorem getR_enc (i : Ix) (h : ckOf i = 0) (hN : rng i.N) (bs : List Nat) (a : Nat) (rest : List Nat) (hd : bs.drop a = encE i ++ rest) : getR bs a = ⟨i, ((a + (encE i).length : Nat) : Int), 0, 0⟩ := by
  have hE : encE i = enc i.o i.A i.B i.C i.N i.l := by unfold encE; rw [if_pos h]
  have hf := (fine_iff _ _ _ _ _ _ _ _).1 h
  have h0 := h
  unfold ckOf at h0
  rw [hE] at hd ⊢
  obtain ⟨o', A, B, C, N, l⟩ := i
  dsimp only at *
  obtain ⟨o, rfl⟩ : ∃ o : Nat, o' = o := ⟨o'.toNat, by have := hf.op.1; omega⟩
  have ho : o < 33 := by have := hf.op.2; omega
  have F := shF o ho
  rw [enc_eq, sh_at o ho, Int.toNat_natCast, F.split, encL_app, Nat.zero_add] at hd
  rw [enc_eq, sh_at o ho, Int.toNat_natCast, F.split, encL_app, Nat.zero_add]
  rw [List.cons_append, List.append_assoc] at hd
  have hbare : bareB (o : Int) A B C N l.length = true := by
    have := hf.lim
    cases hb : bareB (o : Int) A B C N l.length
    · exact absurd (.inr (.inr (.inr (.inr hb)))) this
    · rfl
  unfold bareB manyOf at hbare
  rw [sh_at o ho, F.many, F.num, F.has] at hbare
  simp only [Bool.and_eq_true] at hbare
  obtain ⟨⟨hb1, hb2⟩, hb3⟩ := hbare
  have hregs : ∀ j, j < kc (sh1 o) → 0 ≤ [A, B, C].getD j 0 ∧ [A, B, C].getD j 0 < 64 := fun j hj => by
    have hm := fields_mem A B C (sh (o : Int)) j (by rw [sh_at o ho, F.kcs]; exact hj)
    have hall := hf.all
    rw [Bool.not_eq_true, List.any_eq_false] at hall
    have := hall _ (List.mem_append_left _ hm)
    unfold out1 at this
    simp only [Bool.or_eq_true, decide_eq_true_eq, not_or] at this
    omega
  have hargs : ∀ z ∈ l, 0 ≤ z ∧ z < 64 := fun z hz => by
    have hall := hf.all
    rw [Bool.not_eq_true, List.any_eq_false] at hall
    have := hall _ (List.mem_append_right _ hz)
    unfold out1 at this
    simp only [Bool.or_eq_true, decide_eq_true_eq, not_or] at this
    omega
  have hfits : ∀ c ∈ sh1 o, regB c.toNat = false → fits N (widthOf c.toNat) := fun c hc hr => by
    have hnum := hf.num
    rw [Bool.not_eq_true, List.any_eq_false] at hnum
    have h1 := hnum c (by rw [sh_at o ho]; exact F.sub c hc)
    simp only [Bool.not_eq_true', Bool.not_eq_false] at h1
    unfold rng at hN
    rcases F.letters c hc hr with e | e | e | e | e | e | e | e
    · rw [show widthOf (c.toNat : Int) = 8 from by rw [e]; decide]
      exact fits_word hN.1 hN.2
    · rw [show widthOf (c.toNat : Int) = 1 from by rw [e]; decide]
      rw [e] at h1
      simp [numOk] at h1
      exact fits_small (by omega) (by show _ < 256; omega) (by omega)
    · rw [show widthOf (c.toNat : Int) = 1 from by rw [e]; decide]
      rw [e] at h1
      simp [numOk] at h1
      exact fits_small (by omega) (by show _ < 256; omega) (by omega)
    · rw [show widthOf (c.toNat : Int) = 1 from by rw [e]; decide]
      rw [e] at h1
      simp [numOk] at h1
      exact fits_small (by omega) (by show _ < 256; omega) (by omega)
    · rw [show widthOf (c.toNat : Int) = 2 from by rw [e]; decide]
      rw [e] at h1
      simp [numOk] at h1
      exact fits_small (by omega) (by show _ < 65536; omega) (by omega)
    · rw [show widthOf (c.toNat : Int) = 2 from by rw [e]; decide]
      rw [e] at h1
      simp [numOk] at h1
      exact fits_small (by omega) (by show _ < 65536; omega) (by omega)
    · rw [show widthOf (c.toNat : Int) = 2 from by rw [e]; decide]
      rw [e] at h1
      simp [numOk] at h1
      exact fits_small (by omega) (by show _ < 65536; omega) (by omega)
    · rw [show widthOf (c.toNat : Int) = 1 from by rw [e]; decide]
      rw [e] at h1
      simp [numOk] at h1
      exact fits_small (by omega) (by show _ < 256; omega) (by omega)
  have t0 : takeR bs 1 (a, false) = (o, a + 1, false) ∧ bs.drop (a + 1) = encL A B C N l (sh1 o) 0 ++ (encL A B C N l (sh2 o) (kc (sh1 o)) ++ rest) := by
    obtain ⟨e1, e2⟩ := takeR_app (m := [o]) (by rw [hd]; rfl) (by simp)
    exact ⟨by rw [show [o].length = 1 from rfl] at e1; rw [e1]; simp [unle], e2⟩
  obtain ⟨p1, p2, U⟩ := dec_fold bs A B C N l (kc (sh1 o)) F.kc3 (fun j hj => fits_small (hregs j hj).1 (by have := hregs j hj; omega) (by have := hregs j hj; omega)) (sh1 o) (startG (a + 1, false)) (a + 1) _ F.no rfl t0.2 hfits (by show 0 + _ ≤ _; omega)
  rw [show (startG (a + 1, false)).k = 0 from rfl] at p1 p2
  have ha : a + 1 ≤ bs.length := by
    have := congrArg List.length hd
    simp at this
    omega
  have hfold : runG bs (a + 1, false) (sh (o : Int)) = (sh2 o).foldl (stepG bs) ((sh1 o).foldl (stepG bs) (startG (a + 1, false))) := by
    unfold runG
    rw [sh_at o ho, F.split, List.foldl_append]
  generalize (sh1 o).foldl (stepG bs) (startG (a + 1, false)) = g1 at *
  obtain ⟨u1, u2, u3, u4, u5, u6⟩ := U
  simp only [startG, Nat.zero_add, Nat.le_refl, true_and, Nat.zero_le] at u1 u2 u3 u4 u5 u6
  have hk3 := F.kc3
  have eA : g1.A = A := by
    rw [u3]
    split
    · rfl
    · rename_i hk
      rw [show kc (sh1 o) = 0 from by omega] at hb1
      simp at hb1; omega
  have eB : g1.B = B := by
    rw [u4]
    split
    · rfl
    · rename_i hk
      have : kc (sh1 o) = 0 ∨ kc (sh1 o) = 1 := by omega
      rcases this with e | e <;> rw [e] at hb1 <;> simp at hb1 <;> omega
  have eC : g1.C = C := by
    rw [u5]
    split
    · rfl
    · rename_i hk
      have : kc (sh1 o) = 0 ∨ kc (sh1 o) = 1 ∨ kc (sh1 o) = 2 := by omega
      rcases this with e | e | e <;> rw [e] at hb1 <;> simp at hb1 <;> omega
  have eN : g1.N = N := by
    rw [u6]
    split
    · rfl
    · rename_i hk
      simp only [Bool.or_eq_true] at hb2
      rcases hb2 with e | e
      · exact absurd e hk
      · simp at e; omega
  have hfew := hf.few
  unfold getR
  rw [if_neg (by omega), Int.toNat_natCast, t0.1]
  dsimp only
  rw [if_neg (by simp), if_neg (by omega), hfold]
  by_cases hc : (shapeOf o).data.toList.contains 108 = true
  · have e2 : sh2 o = [108] := by unfold sh2; rw [if_pos hc]
    rw [e2] at p2 ⊢
    have eL : ∀ k, encL A B C N l [108] k = l.length :: l.map Int.toNat := fun k => by rw [encL_cons, if_pos rfl]; simp [encL]
    rw [eL] at p2 ⊢
    have p3 : bs.drop (a + 1 + (encL A B C N l (sh1 o) 0).length) = [l.length] ++ (l.map Int.toNat ++ rest) := by rw [p2]; rfl
    obtain ⟨q1, q2⟩ := takeR_app p3 (by simp)
    rw [show [l.length].length = 1 from rfl] at q1 q2
    have hst : List.foldl (stepG bs) g1 [108] = { g1 with many := l.length, p := (a + 1 + (encL A B C N l (sh1 o) 0).length + 1, false) } := by
      rw [List.foldl_cons, List.foldl_nil]
      unfold stepG
      rw [if_pos rfl, p1, q1]
      simp [unle]
    rw [hst]
    dsimp only
    have hq := congrArg List.length q2
    simp only [List.length_drop, List.length_append, List.length_map] at hq
    have hr := congrArg List.length p3
    simp only [List.length_drop, List.length_append, List.length_map, List.length_cons, List.length_nil] at hr
    have hA : argsR bs l.length (a + 1 + (encL A B C N l (sh1 o) 0).length + 1, false) = (l, a + 1 + (encL A B C N l (sh1 o) 0).length + 1 + l.length, false) := by
      rw [argsR_fine bs _ _ (by omega), q2, List.take_left' (by simp), List.map_map]
      congr 1
      have : l.map ((fun (x : Nat) => (x : Int)) ∘ Int.toNat) = l.map id := List.map_congr_left fun z hz => by
        have := hargs z hz
        simp only [Function.comp, id]
        exact Int.toNat_of_nonneg this.1
      rw [this, List.map_id]
    rw [if_neg (by simp), if_neg hfew, hA]
    dsimp only
    rw [if_neg (by simp), eA, eB, eC, eN, h0, if_neg (by simp)]
    congr 1
    simp only [List.length_cons, List.length_append, List.length_map]
    omega
  · have e2 : sh2 o = [] := by unfold sh2; rw [if_neg hc]
    rw [e2] at p2 ⊢
    have hl0 : l = [] := by
      simp only [Bool.not_eq_true] at hc
      rw [hc] at hb3
      simp at hb3
      exact hb3
    subst hl0
    rw [List.foldl_nil, p1, u2]
    rw [if_neg (by simp), if_neg (by omega)]
    rw [argsR_zero]
    dsimp only
    rw [if_neg (show ¬ (false = true) from by simp), eA, eB, eC, eN, h0, if_neg (show ¬ ((0 : Int) ≠ 0) from by simp)]
    congr 1
    simp only [encL, List.append_nil, List.length_cons]
    omega

theorem getR_back (bs : List Nat) (hb : ∀ b ∈ bs, b < 256) (a : Int) (hok : (getR bs a).er = 0) : ∃ (m n : Nat), a = m ∧ (getR bs a).next = n ∧ n ≤ bs.length ∧ m < n ∧ bs.drop m = encE (getR bs a).ix ++ bs.drop n ∧ ckOf (getR bs a).ix = 0 ∧ rng (getR bs a).ix.N := by
  rcases getR_cases bs a with ⟨-, hfit⟩ | ⟨hne, -⟩
  case inr => exact absurd hok hne
  obtain ⟨m, rfl⟩ : ∃ m : Nat, a = m := ⟨a.toNat, by have := hfit.at_; omega⟩
  obtain ⟨n, hn, hmn, hnl⟩ := hfit.next
  have hck := hfit.ck
  refine ⟨m, n, rfl, hn, hnl, by omega, ?_⟩
  have hE : encE (getR bs m).ix = enc (getR bs m).ix.o (getR bs m).ix.A (getR bs m).ix.B (getR bs m).ix.C (getR bs m).ix.N (getR bs m).ix.l := by unfold encE; rw [if_pos hck]
  rw [hE]
  refine ⟨?_, hck, ?_⟩
  all_goals
    revert hok hn
    clear hE hck hfit
    unfold getR
    rw [if_neg (by omega), Int.toNat_natCast, takeR_one bs m (by omega)]
    dsimp only
    rw [if_neg (show ¬ (false = true) from by simp)]
    have hx0 : bs[m]'(by omega) :: bs.drop (m + 1) = bs.drop m := (List.drop_eq_getElem_cons (by omega)).symm
    generalize bs[m]'(by omega) = x0 at *
    by_cases c3 : 33 ≤ x0
    · rw [if_pos c3]; intro h; exact absurd h (by show (16 : Int) ≠ 0; decide)
    rw [if_neg c3]
    have ho : x0 < 33 := by omega
    have F := shF x0 ho
    have hfold : runG bs (m + 1, false) (sh (x0 : Int)) = (sh2 x0).foldl (stepG bs) ((sh1 x0).foldl (stepG bs) (startG (m + 1, false))) := by
      unfold runG
      rw [sh_at x0 ho, F.split, List.foldl_append]
    have hef := fun l => enc_fold bs hb l (sh1 x0) (startG (m + 1, false)) (m + 1) F.no rfl (by show 0 + _ ≤ _; have := F.kc3; omega) F.nc1
    have hkf := keep_fold bs (sh1 x0) (startG (m + 1, false)) F.no (by show 0 + _ ≤ _; have := F.kc3; omega)
    have hrg := rng_fold bs hb (sh1 x0) (startG (m + 1, false)) (by show rng 0; unfold rng; omega)
    rw [hfold]
    generalize (sh1 x0).foldl (stepG bs) (startG (m + 1, false)) = g1 at *
    have hsh : sh2 x0 = [] ∨ sh2 x0 = [108] := by unfold sh2; split <;> simp
    have hmany : g1.many = 0 := hkf.many
    rcases hsh with e2 | e2
    · rw [e2, List.foldl_nil]
      by_cases c4 : g1.p.2 = true
      · rw [if_pos c4]; intro h; exact absurd h (by show (4 : Int) ≠ 0; decide)
      rw [if_neg c4, hmany, if_neg (by omega)]
      rw [argsR_zero]
      dsimp only
      rw [if_neg c4]
      by_cases c7 : checkOf x0 g1.A g1.B g1.C g1.N [] 64 4096 ≠ 0
      · rw [if_pos c7]; intro h; exact absurd h (by show (5 : Int) ≠ 0; decide)
      rw [if_neg c7]
      dsimp only
      intro _ hn
      first
        | exact hrg
        | (obtain ⟨q1, q2⟩ := hef [] (by simpa using c4) (by omega)
           rw [enc_eq, sh_at x0 ho, F.split, e2, List.append_nil, Int.toNat_natCast, List.cons_append, ← hx0, q2]
           rw [show g1.p.1 = n from by omega]
           rfl)
    · rw [e2, List.foldl_cons, List.foldl_nil]
      by_cases c4 : (stepG bs g1 108).p.2 = true
      · rw [if_pos c4]; intro h; exact absurd h (by show (4 : Int) ≠ 0; decide)
      have c1 : ¬ g1.p.2 = true := fun h => c4 (stepG_sticky bs g1 108 h)
      rw [if_neg c4]
      have hst : stepG bs g1 108 = { g1 with many := (takeR bs 1 g1.p).1, p := (takeR bs 1 g1.p).2 } := by unfold stepG; rw [if_pos rfl]
      have hp : g1.p = (g1.p.1, false) := by
        rcases hg : g1.p with ⟨x, y⟩
        rw [hg] at c1
        simp at c1
        rw [c1]
      rcases Nat.lt_or_ge bs.length (g1.p.1 + 1) with hlt | hge
      · exfalso
        rw [hst, hp, takeR_short bs 1 _ hlt] at c4
        simp at c4
      have ht := takeR_one bs g1.p.1 hge
      rw [hp, ht] at hst
      rw [hst]
      dsimp only
      have hx1 : bs[g1.p.1]'hge :: bs.drop (g1.p.1 + 1) = bs.drop g1.p.1 := (List.drop_eq_getElem_cons hge).symm
      generalize bs[g1.p.1]'hge = x1 at *
      by_cases c5 : 8 < x1
      · rw [if_pos c5]; intro h; exact absurd h (by show (3 : Int) ≠ 0; decide)
      rw [if_neg c5]
      by_cases c6 : (argsR bs x1 (g1.p.1 + 1, false)).2.2 = true
      · rw [if_pos c6]; intro h; exact absurd h (by show (4 : Int) ≠ 0; decide)
      rw [if_neg c6]
      have hfit2 : g1.p.1 + 1 + x1 ≤ bs.length := by
        rcases Nat.lt_or_ge bs.length (g1.p.1 + 1 + x1) with h | h
        · exact absurd (argsR_short bs (g1.p.1 + 1) x1 hge h) c6
        · exact h
      rw [argsR_fine bs (g1.p.1 + 1) x1 hfit2]
      dsimp only
      generalize hl : ((bs.drop (g1.p.1 + 1)).take x1).map (fun (x : Nat) => (x : Int)) = l
      by_cases c7 : checkOf x0 g1.A g1.B g1.C g1.N l 64 4096 ≠ 0
      · rw [if_pos c7]; intro h; exact absurd h (by show (5 : Int) ≠ 0; decide)
      rw [if_neg c7]
      dsimp only
      intro _ hn
      first
        | exact hrg
        | (obtain ⟨q1, q2⟩ := hef l (by simpa using c1) (by omega)
           rw [enc_eq, sh_at x0 ho, F.split, e2, Int.toNat_natCast, encL_app, List.cons_append, List.append_assoc, ← hx0, q2]
           rw [show n = g1.p.1 + 1 + x1 from by omega]
           have eL : ∀ k, encL g1.A g1.B g1.C g1.N l [108] k = l.length :: l.map Int.toNat := fun k => by rw [encL_cons, if_pos rfl]; simp [encL]
           rw [eL, ← hl, List.length_map, List.length_take, List.length_drop, Nat.min_eq_left (by omega), List.map_map]
           have e3 : ((bs.drop (g1.p.1 + 1)).take x1).map (Int.toNat ∘ fun (x : Nat) => (x : Int)) = (bs.drop (g1.p.1 + 1)).take x1 := by
             rw [show (Int.toNat ∘ fun (x : Nat) => (x : Int)) = id from by funext x; simp, List.map_id]
           have hsp : (bs.drop (g1.p.1 + 1)).take x1 ++ bs.drop (g1.p.1 + 1 + x1) = bs.drop (g1.p.1 + 1) := by
             rw [show bs.drop (g1.p.1 + 1 + x1) = (bs.drop (g1.p.1 + 1)).drop x1 from by rw [List.drop_drop], List.take_append_drop]
           rw [e3, List.cons_append, ← hx1, hsp]
           rfl)
end Go.Proofs.Ytajfhgphbcmmhaa

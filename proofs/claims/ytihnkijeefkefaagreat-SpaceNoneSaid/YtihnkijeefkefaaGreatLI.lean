import Derived.Test.YtihnkijeefkefaaGreatLG
import Derived.Test.YtihnkijeefkefaaGreatLD
set_option linter.unusedSimpArgs false
set_option linter.unusedVariables false
set_option linter.unusedSectionVars false
set_option linter.unnecessarySimpa false
set_option maxRecDepth 100000
namespace Go.Proofs.YtihnkijeefkefaaGreat

/-! ### what is put is got, and what is got is put (plain) -/
def encL (A B C N : Int) (l : List Int) : List UInt8 → Nat → List Nat
  | [], _ => []
  | c :: s, k => (if c = 108 then l.length :: l.map Int.toNat else le (toU (fieldI A B C N c.toNat k)) (widthOf c.toNat)) ++ encL A B C N l s (if regB c.toNat = true then k + 1 else k)
theorem encL_cons (A B C N : Int) (l : List Int) (c : UInt8) (s : List UInt8) (k : Nat) : encL A B C N l (c :: s) k = (if c = 108 then l.length :: l.map Int.toNat else le (toU (fieldI A B C N c.toNat k)) (widthOf c.toNat)) ++ encL A B C N l s (if regB c.toNat = true then k + 1 else k) := rfl
theorem reg_l : regB (108 : UInt8).toNat = false := by decide
theorem fold_encL (A B C N : Int) (l : List Int) : ∀ (s : List UInt8) (st : List Nat × Nat), (s.foldl (stepE A B C N l) st).1 = st.1 ++ encL A B C N l s st.2
  | [], st => by simp [encL]
  | c :: s, st => by
    rw [List.foldl_cons, fold_encL A B C N l s]
    rw [encL_cons]
    unfold stepE
    by_cases h : c = 108
    · subst h
      rw [if_pos rfl, if_pos rfl, reg_l]
      simp
    · rw [if_neg h, if_neg h]
      simp
theorem enc_eq (o A B C N : Int) (l : List Int) : enc o A B C N l = o.toNat :: encL A B C N l (sh o) 0 := by
  unfold enc encSt
  rw [fold_encL]
  rfl

theorem le_cons (x n : Nat) : le x (n + 1) = x % 256 :: le (x / 256) n := by
  induction n with
  | zero => simp [le]
  | succ n ih =>
    show le x (n + 1) ++ [x / 256 ^ (n + 1) % 256] = _
    rw [ih]
    show _ = x % 256 :: (le (x / 256) n ++ [x / 256 / 256 ^ n % 256])
    rw [Nat.div_div_eq_div_mul, Nat.pow_succ, Nat.mul_comm 256]
    rfl
theorem unle_le : ∀ (n x : Nat), x < 256 ^ n → unle (le x n) = x
  | 0, x, h => by simp [le, unle] at *; omega
  | n + 1, x, h => by
    have h1 : x / 256 < 256 ^ n := by rw [Nat.div_lt_iff_lt_mul (by decide)]; rw [Nat.pow_succ] at h; exact h
    have := unle_le n (x / 256) h1
    rw [le_cons]
    simp only [unle]
    rw [this]
    omega
theorem le_unle : ∀ (l : List Nat), (∀ b ∈ l, b < 256) → le (unle l) l.length = l
  | [], _ => rfl
  | b :: l, h => by
    have hb := h b (by simp)
    have := le_unle l (fun x hx => h x (by simp [hx]))
    simp only [List.length_cons, le_cons, unle]
    rw [show (b + 256 * unle l) % 256 = b from by omega, show (b + 256 * unle l) / 256 = unle l from by omega, this]
theorem toU_sgn (x : Nat) (h : x < 18446744073709551616) : toU (sgn x) = x := by unfold toU sgn; split <;> omega
theorem sgn_toU (z : Int) (h0 : -9223372036854775808 ≤ z) (h1 : z < 9223372036854775808) : sgn (toU z) = z := by unfold toU sgn; split <;> omega

theorem takeR_app {bs m rest : List Nat} {a : Nat} (h : bs.drop a = m ++ rest) (h0 : 0 < m.length) : takeR bs m.length (a, false) = (unle m, a + m.length, false) ∧ bs.drop (a + m.length) = rest := by
  have hl := congrArg List.length h
  rw [List.length_drop, List.length_append] at hl
  refine ⟨?_, ?_⟩
  · rw [takeR_fine bs m.length a (by omega), h, List.take_left']
    rfl
  · rw [← List.drop_drop, h, List.drop_left' rfl]
theorem takeR_back {bs : List Nat} {n a x a' : Nat} (h : takeR bs n (a, false) = (x, a', false)) : a' = a + n ∧ a' ≤ bs.length ∧ x = unle ((bs.drop a).take n) ∧ ((bs.drop a).take n).length = n := by
  rcases Nat.lt_or_ge bs.length (a + n) with h1 | h1
  · rw [takeR_short bs n a h1] at h
    cases h
  · rw [takeR_fine bs n a h1] at h
    cases h
    exact ⟨rfl, h1, rfl, by simp; omega⟩

/-- how many registers -/
def kc (s : List UInt8) : Nat := (s.filter fun c => regB c.toNat).length
theorem kc_cons (c : UInt8) (s : List UInt8) : kc (c :: s) = (if regB c.toNat = true then 1 else 0) + kc s := by
  unfold kc
  rw [List.filter_cons]
  split <;> simp <;> omega
theorem encL_app (A B C N : Int) (l : List Int) : ∀ (s t : List UInt8) (k : Nat), encL A B C N l (s ++ t) k = encL A B C N l s k ++ encL A B C N l t (k + kc s)
  | [], t, k => by simp [encL, kc]
  | c :: s, t, k => by
    rw [List.cons_append, encL_cons, encL_cons]
    rw [encL_app A B C N l s t, kc_cons, List.append_assoc]
    congr 3
    split <;> omega

def fits (z : Int) (n : Nat) : Prop := sgn (unle (le (toU z) n)) = z
theorem fits_small {z : Int} {n : Nat} (h0 : 0 ≤ z) (h1 : z.toNat < 256 ^ n) (h2 : z < 9223372036854775808) : fits z n := by
  have e : toU z = z.toNat := by unfold toU; omega
  unfold fits
  rw [unle_le n (toU z) (by rw [e]; exact h1), sgn_toU z (by omega) h2]
theorem fits_word {z : Int} (h0 : -9223372036854775808 ≤ z) (h1 : z < 9223372036854775808) : fits z 8 := by
  unfold fits
  rw [unle_le 8 (toU z) (by unfold toU; omega), sgn_toU z h0 h1]

/-- the state behind letters -/
structure Upd (A B C N : Int) (s : List UInt8) (g g' : GS) : Prop where
  k : g'.k = g.k + kc s
  many : g'.many = g.many
  a : g'.A = if g.k ≤ 0 ∧ 0 < g.k + kc s then A else g.A
  b : g'.B = if g.k ≤ 1 ∧ 1 < g.k + kc s then B else g.B
  c : g'.C = if g.k ≤ 2 ∧ 2 < g.k + kc s then C else g.C
  n : g'.N = if s.any (fun c => !regB c.toNat) = true then N else g.N

theorem dec_fold (bs : List Nat) (A B C N : Int) (l : List Int) (m : Nat) (hm : m ≤ 3) (hr : ∀ j, j < m → fits ([A, B, C].getD j 0) 1) : ∀ (s : List UInt8) (g : GS) (a : Nat) (rest : List Nat),
    (108 : UInt8) ∉ s → g.p = (a, false) → bs.drop a = encL A B C N l s g.k ++ rest → (∀ c ∈ s, regB c.toNat = false → fits N (widthOf c.toNat)) → g.k + kc s ≤ m →
    (s.foldl (stepG bs) g).p = (a + (encL A B C N l s g.k).length, false) ∧ bs.drop (a + (encL A B C N l s g.k).length) = rest ∧ Upd A B C N s g (s.foldl (stepG bs) g)
  | [], g, a, rest, _, hp, hd, _, hk => by
    refine ⟨by simpa [encL] using hp, by simpa [encL] using hd, ⟨by simp [kc], rfl, ?_, ?_, ?_, by simp⟩⟩
    · rw [if_neg (by simp [kc])]; rfl
    · rw [if_neg (by simp [kc]; try omega)]; rfl
    · rw [if_neg (by simp [kc]; try omega)]; rfl
  | c :: s, g, a, rest, hn, hp, hd, hf, hk => by
    have hc : c ≠ 108 := fun e => hn (by simp [e])
    have hw : 0 < (le (toU (fieldI A B C N c.toNat g.k)) (widthOf c.toNat)).length := by rw [le_len]; have := widthOf_is c.toNat; omega
    rw [encL_cons] at hd ⊢
    rw [if_neg hc] at hd ⊢
    rw [List.append_assoc] at hd
    have hval : sgn (unle (le (toU (fieldI A B C N c.toNat g.k)) (widthOf c.toNat))) = fieldI A B C N c.toNat g.k := by
      by_cases hreg : regB c.toNat = true
      · have hw1 : widthOf c.toNat = 1 := by
          unfold regB at hreg
          simp at hreg
          unfold widthOf
          rcases hreg with h | h <;> rw [h] <;> decide
        rw [kc_cons, if_pos hreg] at hk
        have := hr g.k (by omega)
        unfold fieldI
        rw [if_pos hreg, hw1]
        exact this
      · have := hf c (by simp) (by simpa using hreg)
        unfold fieldI
        rw [if_neg hreg]
        exact this
    obtain ⟨t1, t2⟩ := takeR_app hd hw
    rw [le_len] at t1 t2
    have hst : stepG bs g c = g.put c (fieldI A B C N c.toNat g.k) (a + widthOf c.toNat, false) := by
      unfold stepG
      rw [if_neg hc, hp, t1]
      dsimp only
      rw [hval]
    rw [List.foldl_cons, hst]
    obtain ⟨q1, q2, q3⟩ := put_k g c (fieldI A B C N c.toNat g.k) (a + widthOf c.toNat, false)
    rw [kc_cons] at hk
    have ih := dec_fold bs A B C N l m hm hr s (g.put c (fieldI A B C N c.toNat g.k) (a + widthOf c.toNat, false)) (a + widthOf c.toNat) rest (fun e => hn (by simp [e])) q2
      (by rw [q1]; exact t2) (fun x hx => hf x (by simp [hx])) (by rw [q1]; split <;> simp_all <;> omega)
    rw [q1] at ih
    rw [List.length_append, le_len, ← Nat.add_assoc]
    refine ⟨ih.1, ih.2.1, ?_⟩
    have u := ih.2.2
    clear ih t1 t2 hst hval hd hw q2
    generalize List.foldl (stepG bs) (g.put c (fieldI A B C N c.toNat g.k) (a + widthOf c.toNat, false)) s = g' at u ⊢
    obtain ⟨u1, u2, u3, u4, u5, u6⟩ := u
    rw [q1] at u1 u3 u4 u5
    have k0 : kc (c :: s) = (if regB c.toNat = true then 1 else 0) + kc s := kc_cons c s
    by_cases hreg : regB c.toNat = true
    · rw [if_pos hreg] at *
      obtain ⟨gA, gB, gC, gN, gk, gm, gp⟩ := g
      dsimp only at *
      have hk3 : gk = 0 ∨ gk = 1 ∨ gk = 2 := by omega
      rcases hk3 with rfl | rfl | rfl
      all_goals
        simp only [GS.put, hreg, if_true, fieldI] at u1 u2 u3 u4 u5 u6
        try dsimp only at *
        refine ⟨by first | omega | (dsimp only; omega), by rw [u2], ?_, ?_, ?_, by rw [u6]; simp [hreg]⟩
        · rw [u3]; simp [k0]; try omega
        · rw [u4]; simp [k0]; try omega
        · rw [u5]; simp [k0]; try omega
    · rw [if_neg hreg] at *
      obtain ⟨gA, gB, gC, gN, gk, gm, gp⟩ := g
      simp only [GS.put, hreg, if_false, fieldI, Bool.false_eq_true] at u1 u2 u3 u4 u5 u6
      try dsimp only at *
      refine ⟨by first | omega | (dsimp only; omega), by rw [u2], ?_, ?_, ?_, ?_⟩
      · rw [u3, k0]; simp
      · rw [u4, k0]; simp
      · rw [u5, k0]; simp
      · rw [u6]; simp [hreg]
end Go.Proofs.YtihnkijeefkefaaGreat

namespace Go.Proofs.YtihnkijeefkefaaGreat

/-! ### what is got is put as it was (plain) -/
structure Keep (s : List UInt8) (g g' : GS) : Prop where
  a : 1 ≤ g.k → g'.A = g.A
  b : 2 ≤ g.k → g'.B = g.B
  c : kc s = 0 → g'.C = g.C
  n : (∀ c ∈ s, regB c.toNat = true) → g'.N = g.N
  many : g'.many = g.many
  k : g'.k = g.k + kc s
theorem keep_fold (bs : List Nat) : ∀ (s : List UInt8) (g : GS), (108 : UInt8) ∉ s → g.k + kc s ≤ 3 → Keep s g (s.foldl (stepG bs) g)
  | [], g, _, _ => ⟨fun _ => rfl, fun _ => rfl, fun _ => rfl, fun _ => rfl, rfl, by simp [kc]⟩
  | c :: s, g, hn, hk => by
    have hc : c ≠ 108 := fun e => hn (by simp [e])
    rw [kc_cons] at hk
    obtain ⟨q1, q2, q3⟩ := put_k g c (sgn (takeR bs (widthOf c.toNat) g.p).1) (takeR bs (widthOf c.toNat) g.p).2
    have hst : stepG bs g c = g.put c (sgn (takeR bs (widthOf c.toNat) g.p).1) (takeR bs (widthOf c.toNat) g.p).2 := by
      unfold stepG; rw [if_neg hc]
    generalize sgn (takeR bs (widthOf c.toNat) g.p).1 = z at *
    generalize (takeR bs (widthOf c.toNat) g.p).2 = p at *
    rw [List.foldl_cons, hst]
    have ih := keep_fold bs s (g.put c z p) (fun e => hn (by simp [e])) (by rw [q1]; split <;> simp_all <;> omega)
    generalize List.foldl (stepG bs) (g.put c z p) s = g' at *
    obtain ⟨i1, i2, i3, i4, i5, i6⟩ := ih
    have k0 : kc (c :: s) = (if regB c.toNat = true then 1 else 0) + kc s := kc_cons c s
    by_cases hreg : regB c.toNat = true
    · rw [if_pos hreg] at *
      obtain ⟨gA, gB, gC, gN, gk, gm, gp⟩ := g
      dsimp only at *
      have hk3 : gk = 0 ∨ gk = 1 ∨ gk = 2 := by omega
      rcases hk3 with rfl | rfl | rfl
      all_goals
        simp only [GS.put, hreg, if_true] at *
        refine ⟨fun h => ?_, fun h => ?_, fun h => by omega, fun h => ?_, i5, by dsimp only; omega⟩
        · dsimp only at h; first | exact i1 (by omega) | (exfalso; omega)
        · dsimp only at h; first | exact i2 (by omega) | (exfalso; omega)
        · exact i4 (fun x hx => h x (by simp [hx]))
    · rw [if_neg hreg] at *
      obtain ⟨gA, gB, gC, gN, gk, gm, gp⟩ := g
      simp only [GS.put, hreg, if_false, Bool.false_eq_true] at i1 i2 i3 i4 i5 i6
      exact ⟨i1, i2, fun h => i3 (by omega), fun h => absurd (h c (by simp)) hreg, i5, by dsimp only; omega⟩

def rng (z : Int) : Prop := -9223372036854775808 ≤ z ∧ z < 9223372036854775808
theorem sgn_rng (x : Nat) (h : x < 18446744073709551616) : rng (sgn x) := by unfold rng sgn; split <;> omega
theorem rng_fold (bs : List Nat) (hb : ∀ b ∈ bs, b < 256) : ∀ (s : List UInt8) (g : GS), rng g.N → rng (s.foldl (stepG bs) g).N
  | [], g, h => h
  | c :: s, g, h => by
    rw [List.foldl_cons]
    refine rng_fold bs hb s _ ?_
    unfold stepG
    split
    · exact h
    · unfold GS.put
      have hx := sgn_rng _ (takeR_lt bs (widthOf c.toNat) g.p hb (by have := widthOf_is c.toNat; omega))
      generalize sgn (takeR bs (widthOf c.toNat) g.p).1 = z at *
      split
      · split <;> exact h
      · exact hx

/-- letters that are no register -/
def nc (s : List UInt8) : Nat := (s.filter fun c => !regB c.toNat).length
theorem nc_cons (c : UInt8) (s : List UInt8) : nc (c :: s) = (if regB c.toNat = true then 0 else 1) + nc s := by
  unfold nc
  rw [List.filter_cons]
  cases regB c.toNat <;> simp <;> omega
theorem nc_zero {s : List UInt8} (h : nc s = 0) : ∀ c ∈ s, regB c.toNat = true := by
  intro c hc
  unfold nc at h
  rw [List.length_eq_zero_iff, List.filter_eq_nil_iff] at h
  simpa using h c hc

theorem enc_fold (bs : List Nat) (hb : ∀ b ∈ bs, b < 256) (l : List Int) : ∀ (s : List UInt8) (g : GS) (a : Nat), (108 : UInt8) ∉ s → g.p = (a, false) → g.k + kc s ≤ 3 → nc s ≤ 1 → (s.foldl (stepG bs) g).p.2 = false → a ≤ bs.length →
    (s.foldl (stepG bs) g).p.1 ≤ bs.length ∧
    bs.drop a = encL (s.foldl (stepG bs) g).A (s.foldl (stepG bs) g).B (s.foldl (stepG bs) g).C (s.foldl (stepG bs) g).N l s g.k ++ bs.drop (s.foldl (stepG bs) g).p.1
  | [], g, a, _, hp, _, _, _, ha => by
    simp only [List.foldl_nil, encL, List.nil_append]
    rw [hp]
    exact ⟨ha, rfl⟩
  | c :: s, g, a, hn, hp, hk, hnc, hsh, ha => by
    have hc : c ≠ 108 := fun e => hn (by simp [e])
    rw [kc_cons] at hk
    rw [nc_cons] at hnc
    have hw := widthOf_is c.toNat
    rw [List.foldl_cons] at hsh ⊢
    rcases Nat.lt_or_ge bs.length (a + widthOf c.toNat) with hlt | hge
    · exfalso
      have h1 : (stepG bs g c).p.2 = true := by
        unfold stepG; rw [if_neg hc, (put_k _ _ _ _).2.1, hp, takeR_short bs _ a hlt]
      rw [fold_sticky bs s _ h1] at hsh
      cases hsh
    · have hst : stepG bs g c = g.put c (sgn (unle ((bs.drop a).take (widthOf c.toNat)))) (a + widthOf c.toNat, false) := by
        unfold stepG
        rw [if_neg hc, hp, takeR_fine bs _ a hge]
      have hm : ((bs.drop a).take (widthOf c.toNat)).length = widthOf c.toNat := by simp; omega
      have hml : ∀ b ∈ (bs.drop a).take (widthOf c.toNat), b < 256 := fun b h => hb b (List.mem_of_mem_drop (List.mem_of_mem_take h))
      have hu := unle_lt _ hml
      rw [hm] at hu
      have hu8 : unle ((bs.drop a).take (widthOf c.toNat)) < 18446744073709551616 := by
        have : 256 ^ widthOf c.toNat ≤ 256 ^ 8 := Nat.pow_le_pow_right (by decide) (by omega)
        have e : (256 : Nat) ^ 8 = 18446744073709551616 := by decide
        omega
      have hle : le (toU (sgn (unle ((bs.drop a).take (widthOf c.toNat))))) (widthOf c.toNat) = (bs.drop a).take (widthOf c.toNat) := by
        rw [toU_sgn _ hu8]
        have := le_unle _ hml
        rwa [hm] at this
      have hsplit : bs.drop a = (bs.drop a).take (widthOf c.toNat) ++ bs.drop (a + widthOf c.toNat) := by
        rw [← List.drop_drop, List.take_append_drop]
      rw [hst] at hsh ⊢
      generalize hz : sgn (unle ((bs.drop a).take (widthOf c.toNat))) = z at *
      generalize (bs.drop a).take (widthOf c.toNat) = mm at *
      obtain ⟨q1, q2, q3⟩ := put_k g c z (a + widthOf c.toNat, false)
      have hkk : (g.put c z (a + widthOf c.toNat, false)).k + kc s ≤ 3 := by rw [q1]; split <;> simp_all <;> omega
      have kp := keep_fold bs s (g.put c z (a + widthOf c.toNat, false)) (fun e => hn (by simp [e])) hkk
      obtain ⟨r1, r2⟩ := enc_fold bs hb l s (g.put c z (a + widthOf c.toNat, false)) (a + widthOf c.toNat) (fun e => hn (by simp [e])) q2 hkk (by omega) hsh hge
      refine ⟨r1, ?_⟩
      rw [hsplit, r2]
      rw [encL_cons, if_neg hc, q1, List.append_assoc]
      congr 1
      rw [← hle]
      congr 2
      generalize List.foldl (stepG bs) (g.put c z (a + widthOf c.toNat, false)) s = g' at *
      obtain ⟨i1, i2, i3, i4, i5, i6⟩ := kp
      unfold fieldI
      by_cases hreg : regB c.toNat = true
      · rw [if_pos hreg] at *
        obtain ⟨gA, gB, gC, gN, gk, gm, gp⟩ := g
        dsimp only at *
        have hk3 : gk = 0 ∨ gk = 1 ∨ gk = 2 := by omega
        rcases hk3 with rfl | rfl | rfl
        · simp only [GS.put, hreg, if_true] at *
          have := i1 (by omega)
          simp [this]
        · simp only [GS.put, hreg, if_true] at *
          have := i2 (by omega)
          simp [this]
        · simp only [GS.put, hreg, if_true] at *
          have := i3 (by omega)
          simp [this]
      · rw [if_neg hreg] at *
        have := i4 (nc_zero (by omega))
        simp only [GS.put, hreg, if_false, Bool.false_eq_true] at this
        exact this.symm
end Go.Proofs.YtihnkijeefkefaaGreat

/- Pointers, arrays, texts, plainly (law24). -/
import Derived.Test.YtjpkmaacalelcaaDoorD2
import Derived.Test.YtjpkmaacalelcaaDoorD6
import Derived.Test.YtjpkmaacalelcaaDoorDp
set_option linter.unusedSimpArgs false
set_option linter.unusedVariables false
set_option linter.unusedSectionVars false
set_option linter.unnecessarySimpa false
set_option maxRecDepth 100000
namespace Go.Proofs.YtjpkmaacalelcaaDoor
open Go.Ty

theorem dec_blank : ∀ (n u : Nat), u ≤ n → (32 : UInt8) ∉ Lib.decDigits u
  | 0, u, h => by
    rw [Lib.decDigits, dif_pos (by omega), List.mem_singleton]
    intro e
    have : u = 0 := by omega
    subst this
    exact absurd e (by decide)
  | n + 1, u, h => by
    rw [Lib.decDigits]
    by_cases h10 : u < 10
    · rw [dif_pos h10, List.mem_singleton]
      intro e
      have e2 := congrArg UInt8.toNat e
      have : (32 : UInt8).toNat = 32 := rfl
      rw [UInt8.toNat_ofNat', this] at e2
      omega
    · rw [dif_neg h10, List.mem_append, List.mem_singleton]
      rintro (e | e)
      · exact dec_blank n (u / 10) (by omega) e
      · have e2 := congrArg UInt8.toNat e
        have : (32 : UInt8).toNat = 32 := rfl
        rw [UInt8.toNat_ofNat', this] at e2
        omega
theorem dec_ne (u : Nat) : Lib.decDigits u ≠ [] := by
  rw [Lib.decDigits]
  split <;> simp
theorem dec_one {u : Nat} (h : u < 10) : Lib.decDigits u = [UInt8.ofNat (48 + u)] := Lib.decDigits_one h
theorem dec_big {u : Nat} (h : ¬ u < 10) : Lib.decDigits u = Lib.decDigits (u / 10) ++ [UInt8.ofNat (48 + u % 10)] := by
  rw [Lib.decDigits, dif_neg h]
theorem dec_len (u : Nat) : 1 ≤ (Lib.decDigits u).length := List.length_pos_iff.2 (dec_ne u)
theorem dec_mix {u v : Nat} (hu : u < 10) (hv : ¬ v < 10) : Lib.decDigits u ≠ Lib.decDigits v := by
  intro e
  rw [dec_one hu, dec_big hv] at e
  have h1 := congrArg List.length e
  have h2 := dec_len (v / 10)
  rw [List.length_append, List.length_singleton, List.length_singleton] at h1
  omega
theorem dec_inj : ∀ (n u v : Nat), u ≤ n → Lib.decDigits u = Lib.decDigits v → u = v := by
  intro n
  induction n with
  | zero =>
    intro u v h e
    have : u = 0 := by omega
    subst this
    by_cases hv : v < 10
    · rw [dec_one (by omega), dec_one hv] at e
      have e2 := congrArg UInt8.toNat (List.head_eq_of_cons_eq e)
      rw [UInt8.toNat_ofNat', UInt8.toNat_ofNat'] at e2
      omega
    · exact absurd e (dec_mix (by omega) hv)
  | succ n ih =>
    intro u v h e
    by_cases hu : u < 10
    · by_cases hv : v < 10
      · rw [dec_one hu, dec_one hv] at e
        have e2 := congrArg UInt8.toNat (List.head_eq_of_cons_eq e)
        rw [UInt8.toNat_ofNat', UInt8.toNat_ofNat'] at e2
        omega
      · exact absurd e (dec_mix hu hv)
    · by_cases hv : v < 10
      · exact absurd e.symm (dec_mix hv hu)
      · rw [dec_big hu, dec_big hv] at e
        obtain ⟨e5, e6⟩ := List.append_inj' e rfl
        have := ih (u / 10) (v / 10) (by omega) e5
        have e2 := congrArg UInt8.toNat (List.head_eq_of_cons_eq e6)
        rw [UInt8.toNat_ofNat', UInt8.toNat_ofNat'] at e2
        omega
theorem itoa_pos {m : Int} (h : 1 ≤ m) : Lib.itoa m = Lib.decDigits m.toNat := by unfold Lib.itoa; rw [if_neg (by omega)]
theorem split_first : ∀ (p q X Y : List UInt8), (32 : UInt8) ∉ p → (32 : UInt8) ∉ q → p ++ 32 :: X = q ++ 32 :: Y → p = q ∧ X = Y
  | [], [], X, Y, _, _, h => ⟨rfl, by simpa using h⟩
  | [], b :: q, X, Y, _, h2, h => by
    simp only [List.nil_append, List.cons_append, List.cons.injEq] at h
    exact absurd (by rw [h.1]; simp) h2
  | a :: p, [], X, Y, h1, _, h => by
    simp only [List.nil_append, List.cons_append, List.cons.injEq] at h
    exact absurd (by rw [← h.1]; simp) h1
  | a :: p, b :: q, X, Y, h1, h2, h => by
    simp only [List.cons_append, List.cons.injEq] at h
    obtain ⟨e1, e2⟩ := split_first p q X Y (fun hh => h1 (by simp [hh])) (fun hh => h2 (by simp [hh])) h.2
    exact ⟨by rw [h.1, e1], e2⟩
theorem tok_inj {m m' : Int} (h1 : modB m = true) (h2 : modB m' = true) {X Y : List UInt8} (h : tokM m ++ X = tokM m' ++ Y) : m = m' ∧ X = Y := by
  unfold tokM at h
  by_cases ha : m = -1
  · by_cases hb : m' = -1
    · rw [if_pos ha, if_pos hb] at h
      exact ⟨by rw [ha, hb], List.append_cancel_left h⟩
    · rw [if_pos ha, if_neg hb] at h
      simp at h
  · by_cases hb : m' = -1
    · rw [if_neg ha, if_pos hb] at h
      simp at h
    · rw [if_neg ha, if_neg hb] at h
      have g1 : 1 ≤ m := by unfold modB at h1; simp [ha] at h1; omega
      have g2 : 1 ≤ m' := by unfold modB at h2; simp [hb] at h2; omega
      have h' : Lib.itoa m ++ 32 :: X = Lib.itoa m' ++ 32 :: Y := by
        have : [97, 114, 114, 32] ++ (Lib.itoa m ++ 32 :: X) = [97, 114, 114, 32] ++ (Lib.itoa m' ++ 32 :: Y) := by simpa [List.append_assoc] using h
        exact List.append_cancel_left this
      rw [itoa_pos g1, itoa_pos g2] at h'
      obtain ⟨e1, e2⟩ := split_first _ _ _ _ (dec_blank _ _ (Nat.le_refl _)) (dec_blank _ _ (Nat.le_refl _)) h'
      have := dec_inj _ _ _ (Nat.le_refl _) e1
      exact ⟨by omega, e2⟩
theorem tok_has (m : Int) : (32 : UInt8) ∈ tokM m := by
  unfold tokM
  split <;> simp
theorem toks_inj : ∀ (ms ms' : List Int), ms.all modB = true → ms'.all modB = true → ∀ {L L' : List UInt8}, (32 : UInt8) ∉ L → (32 : UInt8) ∉ L' → toksM ms ++ L = toksM ms' ++ L' → ms = ms' ∧ L = L'
  | [], [], _, _, L, L', _, _, h => ⟨rfl, by simpa [toksM] using h⟩
  | [], m :: r, _, _, L, L', hL, _, h => by
    exfalso
    refine hL ?_
    have : L = toksM (m :: r) ++ L' := by simpa [toksM] using h
    rw [this]
    unfold toksM
    rw [List.flatMap_cons]
    simp [tok_has m]
  | m :: r, [], _, _, L, L', _, hL', h => by
    exfalso
    refine hL' ?_
    have : toksM (m :: r) ++ L = L' := by simpa [toksM] using h
    rw [← this]
    unfold toksM
    rw [List.flatMap_cons]
    simp [tok_has m]
  | m :: r, m' :: r', h1, h2, L, L', hL, hL', h => by
    rw [List.all_cons, Bool.and_eq_true] at h1 h2
    have e : tokM m ++ (toksM r ++ L) = tokM m' ++ (toksM r' ++ L') := by
      unfold toksM at h ⊢
      rw [List.flatMap_cons, List.flatMap_cons] at h
      simpa [List.append_assoc] using h
    obtain ⟨rfl, e2⟩ := tok_inj h1.1 h2.1 e
    obtain ⟨rfl, e3⟩ := toks_inj r r' h1.2 h2.2 hL hL' e2
    exact ⟨rfl, e3⟩
theorem base_blank {b : Int} (h : 0 ≤ b ∧ b ≤ 8) : (32 : UInt8) ∉ baseNm b := by
  have : b = 0 ∨ b = 1 ∨ b = 2 ∨ b = 3 ∨ b = 4 ∨ b = 5 ∨ b = 6 ∨ b = 7 ∨ b = 8 := by omega
  rcases this with rfl | rfl | rfl | rfl | rfl | rfl | rfl | rfl | rfl <;> decide
theorem base_inj {b c : Int} (h : 0 ≤ b ∧ b ≤ 8) (h' : 0 ≤ c ∧ c ≤ 8) (e : baseNm b = baseNm c) : b = c := by
  have : b = 0 ∨ b = 1 ∨ b = 2 ∨ b = 3 ∨ b = 4 ∨ b = 5 ∨ b = 6 ∨ b = 7 ∨ b = 8 := by omega
  have : c = 0 ∨ c = 1 ∨ c = 2 ∨ c = 3 ∨ c = 4 ∨ c = 5 ∨ c = 6 ∨ c = 7 ∨ c = 8 := by omega
  rcases ‹b = 0 ∨ _› with rfl | rfl | rfl | rfl | rfl | rfl | rfl | rfl | rfl <;> rcases ‹c = 0 ∨ _› with rfl | rfl | rfl | rfl | rfl | rfl | rfl | rfl | rfl <;> first | rfl | (exact absurd e (by decide))
theorem base_in {b : Int} (h : 0 ≤ b ∧ b ≤ 8) : bA (baseNm b) ∈ bases10 := by
  have : b = 0 ∨ b = 1 ∨ b = 2 ∨ b = 3 ∨ b = 4 ∨ b = 5 ∨ b = 6 ∨ b = 7 ∨ b = 8 := by omega
  rcases this with rfl | rfl | rfl | rfl | rfl | rfl | rfl | rfl | rfl
  · exact List.mem_of_getElem? (i := 0) rfl
  · exact List.mem_of_getElem? (i := 1) rfl
  · exact List.mem_of_getElem? (i := 2) rfl
  · exact List.mem_of_getElem? (i := 3) rfl
  · exact List.mem_of_getElem? (i := 4) rfl
  · exact List.mem_of_getElem? (i := 5) rfl
  · exact List.mem_of_getElem? (i := 6) rfl
  · exact List.mem_of_getElem? (i := 7) rfl
  · exact List.mem_of_getElem? (i := 8) rfl
theorem bA_data (s : ByteArray) : bA s.data.toList = s := by unfold bA; cases s; rfl
theorem nmAt_of {l : List St} {i : Nat} (h : i < l.length) : nmAt l i = l[i].nm.data.toList := by unfold nmAt; rw [List.getElem?_eq_getElem h]
theorem last_blank {l : List St} (hp : PlainS l) {t : Ty} (h : shapedB l.length t = true) : (32 : UInt8) ∉ lastT l t := by
  obtain ⟨h1, _, h3, _⟩ := shaped_iff.1 h
  unfold lastT
  by_cases h9 : t.b = 9
  · rw [if_pos h9]
    have := h3 h9
    rw [nmAt_of (show t.s.toNat < l.length by omega)]
    exact (hp _ _).2.2
  · rw [if_neg h9]
    exact base_blank (by omega)
theorem last_inj {l : List St} (hp : PlainS l) {t u : Ty} (h : shapedB l.length t = true) (h' : shapedB l.length u = true) (e : lastT l t = lastT l u) : t.b = u.b ∧ t.s = u.s := by
  obtain ⟨h1, _, h3, h4, _⟩ := shaped_iff.1 h
  obtain ⟨g1, _, g3, g4, _⟩ := shaped_iff.1 h'
  unfold lastT at e
  by_cases h9 : t.b = 9
  · have hs := h3 h9
    rw [if_pos h9, nmAt_of (show t.s.toNat < l.length by omega)] at e
    by_cases g9 : u.b = 9
    · have gs := g3 g9
      rw [if_pos g9, nmAt_of (show u.s.toNat < l.length by omega)] at e
      have e2 : l[t.s.toNat].nm = l[u.s.toNat].nm := by rw [← bA_data l[t.s.toNat].nm, e, bA_data]
      refine ⟨by rw [h9, g9], ?_⟩
      rcases Nat.lt_trichotomy t.s.toNat u.s.toNat with hh | hh | hh
      · exact absurd e2 ((hp u.s.toNat (by omega)).2.1 _ hh)
      · omega
      · exact absurd e2.symm ((hp t.s.toNat (by omega)).2.1 _ hh)
    · rw [if_neg g9] at e
      exfalso
      refine (hp t.s.toNat (by omega)).1 ?_
      rw [← bA_data l[t.s.toNat].nm, e]
      exact base_in (by omega)
  · rw [if_neg h9] at e
    by_cases g9 : u.b = 9
    · have gs := g3 g9
      rw [if_pos g9, nmAt_of (show u.s.toNat < l.length by omega)] at e
      exfalso
      refine (hp u.s.toNat (by omega)).1 ?_
      rw [← bA_data l[u.s.toNat].nm, ← e]
      exact base_in (by omega)
    · rw [if_neg g9] at e
      exact ⟨base_inj (by omega) (by omega) e, by rw [h4 h9, g4 g9]⟩
theorem text_inj {l : List St} (hp : PlainS l) {t u : Ty} (ht : checkE l t = 0) (hu : checkE l u = 0) : textV l t = textV l u ↔ t = u := by
  refine ⟨fun e => ?_, fun e => by rw [e]⟩
  unfold textV at e
  rw [if_pos ht, if_pos hu] at e
  have e2 : textL l t = textL l u := by
    have := congrArg (fun s : ByteArray => s.data.toList) e
    simpa [bA] using this
  have h1 := (checkE_ok.1 ht).2.1
  have h2 := (checkE_ok.1 hu).2.1
  unfold textL at e2
  obtain ⟨e3, e4⟩ := toks_inj t.ms u.ms (shaped_iff.1 h1).2.2.2.2.2 (shaped_iff.1 h2).2.2.2.2.2 (last_blank hp h1) (last_blank hp h2) e2
  obtain ⟨e5, e6⟩ := last_inj hp h1 h2 e4
  cases t; cases u
  simp_all

theorem ptr_check {l : List St} {t : Ty} (h : checkE l t = 0) (h8 : t.ms.length < 8) : checkE l ⟨t.b, t.s, -1 :: t.ms⟩ = 0 ∧ ofM (whole l) ⟨t.b, t.s, -1 :: t.ms⟩ = (8, 8) := by
  obtain ⟨h1, h2, h3⟩ := checkE_ok.1 h
  obtain ⟨g1, g2, g3, g4, g5, g6⟩ := shaped_iff.1 h2
  have e : ofM (whole l) ⟨t.b, t.s, -1 :: t.ms⟩ = (8, 8) := rfl
  refine ⟨checkE_ok.2 ⟨h1, shaped_iff.2 ⟨g1, by simp; omega, g3, g4, fun h0 => ?_, ?_⟩, by rw [e]; omega⟩, e⟩
  · have := g5 h0
    dsimp only
    cases hm : t.ms with
    | nil => rfl
    | cons x r =>
      rw [hm] at this
      rw [List.getLast?_cons_cons]
      exact this
  · show ((-1 :: t.ms).all modB) = true
    rw [List.all_cons, g6]
    rfl
theorem ofM_div {l : List St} (hf : Fits l) {t : Ty} (h : shapedB l.length t = true) (hle : (ofM (whole l) t).1 ≤ 8192) : (ofM (whole l) t).1 % (ofM (whole l) t).2 = 0 := by
  obtain ⟨g1, g2, g3, g4, g5, g6⟩ := shaped_iff.1 h
  have hb : (baseM (whole l) t).1 % (baseM (whole l) t).2 = 0 := by
    unfold baseM
    by_cases h9 : t.b = 9
    · rw [if_pos h9]
      have := g3 h9
      have hw := whole_fit hf (s := t.s.toNat) (by omega)
      rw [hw.1]
      exact upN_mod' _ _
    · rw [if_neg h9]
      exact Nat.mod_self _
  have hm : ∀ ms : List Int, ms.all modB = true → (modsM (baseM (whole l) t) ms).1 ≤ 8192 → (modsM (baseM (whole l) t) ms).1 % (modsM (baseM (whole l) t) ms).2 = 0 := by
    intro ms
    induction ms with
    | nil => exact fun _ _ => hb
    | cons m r ih =>
      intro ha hl
      rw [List.all_cons, Bool.and_eq_true] at ha
      unfold modsM at hl ⊢
      by_cases hm1 : m = -1
      · rw [if_pos hm1]
        rfl
      · rw [if_neg hm1] at hl ⊢
        have hm2 : 1 ≤ m := by have := ha.1; unfold modB at this; simp [hm1] at this; omega
        dsimp only at hl ⊢
        have h1 : (modsM (baseM (whole l) t) r).1 ≤ (modsM (baseM (whole l) t) r).1 * m.toNat := Nat.le_mul_of_pos_right _ (by omega)
        have h2 : min ((modsM (baseM (whole l) t) r).1 * m.toNat) 8193 = (modsM (baseM (whole l) t) r).1 * m.toNat := by omega
        rw [h2, Nat.mul_mod, ih ha.2 (by omega), Nat.zero_mul, Nat.zero_mod]
  exact hm t.ms g6 hle
theorem arr_check {l : List St} {t : Ty} {m : Nat} (hm : 1 ≤ m ∧ m ≤ 20) (h : checkE l t = 0) (ha : checkE l ⟨t.b, t.s, (m : Int) :: t.ms⟩ = 0) :
    sizeV l ⟨t.b, t.s, (m : Int) :: t.ms⟩ = m * sizeV l t ∧ alignV l ⟨t.b, t.s, (m : Int) :: t.ms⟩ = alignV l t ∧ sizeV l t % alignV l t = 0 ∧ 1 ≤ alignV l t ∧ alignV l t ≤ 8 ∧ sizeV l t ≤ 8192 := by
  obtain ⟨h1, h2, h3⟩ := checkE_ok.1 h
  obtain ⟨_, _, a3⟩ := checkE_ok.1 ha
  have e : ofM (whole l) ⟨t.b, t.s, (m : Int) :: t.ms⟩ = (min ((ofM (whole l) t).1 * m) 8193, (ofM (whole l) t).2) := by
    show modsM (baseM (whole l) ⟨t.b, t.s, (m : Int) :: t.ms⟩) ((m : Int) :: t.ms) = _
    unfold modsM
    rw [if_neg (by omega), Int.toNat_natCast]
    rfl
  have hd := ofM_div (fits_of h1) h2 h3
  have hal := (fits_of h1).sound.of_al h2
  unfold sizeV alignV
  rw [if_pos h, if_pos ha, if_pos h, if_pos ha, e]
  rw [e] at a3
  dsimp only at a3 ⊢
  have : m * (ofM (whole l) t).1 = (ofM (whole l) t).1 * m := Nat.mul_comm _ _
  exact ⟨by omega, rfl, hd, hal.1, hal.2, h3⟩

end Go.Proofs.YtjpkmaacalelcaaDoor

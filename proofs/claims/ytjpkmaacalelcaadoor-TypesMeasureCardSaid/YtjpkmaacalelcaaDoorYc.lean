/- Structs that may be, plainly: bounds of their measures. Of no program. -/
import Derived.Test.YtjpkmaacalelcaaDoorYa
set_option linter.unusedSimpArgs false
set_option linter.unusedVariables false
set_option linter.unusedSectionVars false
set_option linter.unnecessarySimpa false
namespace Go.Ty

theorem layS_snoc (W : Nat → Nat × Nat) (f : Fd) : ∀ (fs : List Fd) (a : Nat), layS W (fs ++ [f]) a =
    ((layS W fs a).1 ++ [upN (layS W fs a).2.2 (ofM W f.t).2], (layS W fs a).2.1 ++ [ofM W f.t], min (upN (layS W fs a).2.2 (ofM W f.t).2 + (ofM W f.t).1) 8193)
  | [], _ => rfl
  | g :: fs, a => by
    rw [List.cons_append]
    unfold layS
    rw [layS_snoc W f fs]
    rfl
theorem layS_ms (W : Nat → Nat × Nat) : ∀ (fs : List Fd) (a : Nat), (layS W fs a).2.1 = fs.map fun f => ofM W f.t
  | [], _ => rfl
  | f :: fs, a => by
    unfold layS
    rw [layS_ms W fs]
    rfl
theorem layS_len (W : Nat → Nat × Nat) : ∀ (fs : List Fd) (a : Nat), (layS W fs a).1.length = fs.length
  | [], _ => rfl
  | f :: fs, a => by
    unfold layS
    rw [List.length_cons, layS_len W fs, List.length_cons]
theorem layS_end (W : Nat → Nat × Nat) : ∀ (fs : List Fd) (a : Nat), a ≤ 8193 → (layS W fs a).2.2 ≤ 8193
  | [], _, h => h
  | f :: fs, a, _ => by
    unfold layS
    exact layS_end W fs _ (Nat.min_le_right _ _)
theorem upN_le (n k : Nat) (hk : 1 ≤ k) : upN n k ≤ n + k - 1 := Nat.div_mul_le_self _ _

theorem maxA_acc : ∀ (l : List (Nat × Nat)) (a : Nat), l.foldl (fun a m => max a m.2) a = max a (maxA l)
  | [], a => by unfold maxA; simp
  | x :: l, a => by
    unfold maxA
    rw [List.foldl_cons, List.foldl_cons, maxA_acc l, maxA_acc l]
    omega
theorem maxA_cons (x : Nat × Nat) (l : List (Nat × Nat)) : maxA (x :: l) = max x.2 (maxA l) := by
  unfold maxA
  rw [List.foldl_cons, maxA_acc l]
  unfold maxA
  omega
theorem maxA_le {l : List (Nat × Nat)} {k : Nat} (h : ∀ p ∈ l, p.2 ≤ k) : maxA l ≤ k := by
  induction l with
  | nil => exact Nat.zero_le _
  | cons x l ih =>
    rw [maxA_cons]
    have := h x (by simp)
    have := ih (fun p hp => h p (by simp [hp]))
    omega
theorem maxA_ge {l : List (Nat × Nat)} {p : Nat × Nat} (h : p ∈ l) : p.2 ≤ maxA l := by
  induction l with
  | nil => cases h
  | cons x l ih =>
    rw [maxA_cons]
    rcases List.mem_cons.1 h with rfl | h
    · omega
    · have := ih h
      omega

/-- structs whose fields may be -/
structure Sound (l : List St) : Prop where
  few : l.length ≤ 32
  ne : ∀ i, i < l.length → fieldsAt l i ≠ []
  le : ∀ i, (fieldsAt l i).length ≤ 16
  sh : ∀ i, ∀ f ∈ fieldsAt l i, shapedB l.length f.t = true
  down : Down l

theorem shaped_iff {n : Nat} {t : Ty} : shapedB n t = true ↔ (0 ≤ t.b ∧ t.b ≤ 9) ∧ t.ms.length ≤ 8 ∧ (t.b = 9 → 0 ≤ t.s ∧ t.s < n) ∧ (t.b ≠ 9 → t.s = 0) ∧ (t.b = 0 → t.ms.getLast? = some (-1)) ∧ t.ms.all modB = true := by
  unfold shapedB
  by_cases h9 : t.b = 9 <;> by_cases h0 : t.b = 0 <;> simp [h9, h0, Bool.and_eq_true] <;> grind

theorem modsM_snd (b : Nat × Nat) : ∀ (ms : List Int), (modsM b ms).2 = if ms.contains (-1) then 8 else b.2
  | [] => rfl
  | m :: r => by
    unfold modsM
    by_cases hm : m = -1
    · subst hm
      simp
    · rw [if_neg hm]
      show (modsM b r).2 = _
      rw [modsM_snd b r, List.contains_cons]
      have : ((-1 : Int) == m) = false := by rw [beq_eq_false_iff_ne]; exact fun e => hm e.symm
      rw [this, Bool.false_or]

theorem sizeB_ge {b : Int} (h : 1 ≤ b ∧ b ≤ 8) : 1 ≤ sizeB b ∧ sizeB b ≤ 8 := by
  have : b = 1 ∨ b = 2 ∨ b = 3 ∨ b = 4 ∨ b = 5 ∨ b = 6 ∨ b = 7 ∨ b = 8 := by omega
  rcases this with rfl | rfl | rfl | rfl | rfl | rfl | rfl | rfl <;> decide

theorem ofM_al {n : Nat} {W : Nat → Nat × Nat} {t : Ty} (h : shapedB n t = true) (hW : insideB t = true → 1 ≤ (W t.s.toNat).2 ∧ (W t.s.toNat).2 ≤ 8) : 1 ≤ (ofM W t).2 ∧ (ofM W t).2 ≤ 8 := by
  obtain ⟨h1, _, _, _, h5, _⟩ := shaped_iff.1 h
  unfold ofM
  rw [modsM_snd]
  split
  · omega
  · rename_i hc
    unfold baseM
    by_cases h9 : t.b = 9
    · rw [if_pos h9]
      exact hW (by unfold insideB; rw [h9]; simpa using hc)
    · rw [if_neg h9]
      have h0 : t.b ≠ 0 := fun e => by
        have := List.mem_of_getLast? (h5 e)
        rw [List.contains_iff_mem] at hc
        exact hc this
      exact sizeB_ge (by omega)

theorem whole_al {l : List St} (hs : Sound l) : ∀ (n i : Nat), i < n → i < l.length → 1 ≤ (whole l i).2 ∧ (whole l i).2 ≤ 8
  | 0, _, h, _ => by omega
  | n + 1, i, h, hi => by
    rw [whole_eq hs.down i]
    unfold layM
    dsimp only
    rw [layS_ms]
    have hf : ∀ f ∈ fieldsAt l i, 1 ≤ (ofM (whole l) f.t).2 ∧ (ofM (whole l) f.t).2 ≤ 8 := fun f hf =>
      ofM_al (hs.sh i f hf) (fun hin => by
        obtain ⟨a, b⟩ := hs.down i f hf hin
        exact whole_al hs n _ (by omega) (by omega))
    refine ⟨?_, maxA_le fun p hp => ?_⟩
    · cases hfs : fieldsAt l i with
      | nil => exact (hs.ne i hi hfs).elim
      | cons f fs =>
        have := hf f (by rw [hfs]; simp)
        rw [List.map_cons, maxA_cons]
        omega
    · rw [List.mem_map] at hp
      obtain ⟨f, hm, rfl⟩ := hp
      exact (hf f hm).2
theorem Sound.al {l : List St} (hs : Sound l) {i : Nat} (hi : i < l.length) : 1 ≤ (whole l i).2 ∧ (whole l i).2 ≤ 8 := whole_al hs _ i (Nat.lt_succ_self i) hi
theorem Sound.of_al {l : List St} (hs : Sound l) {t : Ty} (h : shapedB l.length t = true) : 1 ≤ (ofM (whole l) t).2 ∧ (ofM (whole l) t).2 ≤ 8 :=
  ofM_al h fun hin => by
    have h9 : t.b = 9 := by unfold insideB at hin; rw [Bool.and_eq_true] at hin; simpa using hin.1
    obtain ⟨h1, _, h3, _⟩ := shaped_iff.1 h
    have := h3 h9
    exact hs.al (by omega)

end Go.Ty

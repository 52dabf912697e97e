/- Which registers are sure: the plain law (no program in sight). -/
import Derived.Test.YtofahdjnejodjaaGreatFa
set_option linter.unusedSimpArgs false
set_option linter.unusedVariables false
set_option linter.unusedSectionVars false
set_option linter.unnecessarySimpa false
namespace Go.Sure
open Go.Flow

/-- without a write of r -/
def gr (nx : Nat → List Nat) (wr : Nat → Int) (r : Nat) (k : Nat) : List Nat := if wr k = (r : Int) then [] else nx k
def bhd (m : Nat) (r : Int) : Nat := if 0 ≤ r then m ||| 2 ^ r.toNat else m
def un (ms : List Nat) (r i : Nat) : Prop := (ms.getD i (18446744073709551615 : Nat)).testBit r = false
def Src (n p : Nat) (nx : Nat → List Nat) (wr : Nat → Int) (ms : List Nat) (r i : Nat) : Prop := p ≤ r ∧ (i = 0 ∨ ∃ k, k < n ∧ i ∈ nx k ∧ wr k ≠ (r : Int) ∧ un ms r k)

theorem full_bit {r : Nat} (h : r < 64) : Nat.testBit (18446744073709551615 : Nat) r = true := by
  rw [show (18446744073709551615 : Nat) = 2 ^ 64 - 1 from rfl, Nat.testBit_two_pow_sub_one]; simpa using h
theorem un_lt {ms : List Nat} {r i : Nat} (hr : r < 64) (h : un ms r i) : i < ms.length := by
  apply Classical.byContradiction
  intro hi
  unfold un at h
  rw [List.getD_eq_getElem?_getD, List.getElem?_eq_none (by omega)] at h
  simp [full_bit hr] at h

/-! ### the meet -/
def meetL (a : Nat) (l : List Nat) : Nat := l.foldl (fun x y => x &&& y) a
theorem meetL_bit (r : Nat) : ∀ (l : List Nat) (a : Nat), (meetL a l).testBit r = (a.testBit r && l.all (fun x => x.testBit r))
  | [], a => by simp [meetL]
  | x :: l, a => by
    have := meetL_bit r l (a &&& x)
    unfold meetL at *
    rw [List.foldl_cons, this, Nat.testBit_and, List.all_cons, Bool.and_assoc]
theorem meetL_le : ∀ (l : List Nat) (a : Nat), meetL a l ≤ a
  | [], a => by simp [meetL]
  | x :: l, a => by
    have := meetL_le l (a &&& x)
    unfold meetL at *
    rw [List.foldl_cons]
    exact Nat.le_trans this Nat.and_le_left
def fromL (p : Nat) (wr : Nat → Int) (ms : List Nat) (ah : List Nat) (i : Nat) : List Nat :=
  (if i = 0 then [2 ^ p - 1] else []) ++ ah.map fun k => bhd (ms.getD k (18446744073709551615 : Nat)) (wr k) ||| (2 ^ p - 1)
theorem bhd_bit (m r : Nat) (x : Int) : (bhd m x).testBit r = (m.testBit r || decide (x = (r : Int))) := by
  unfold bhd
  split
  · rename_i h
    obtain ⟨y, rfl⟩ : ∃ y : Nat, x = y := ⟨x.toNat, by omega⟩
    rw [Nat.testBit_or, Int.toNat_natCast, Nat.testBit_two_pow]
    congr 1
    simp
    omega
  · rename_i h
    have : ¬ x = (r : Int) := by omega
    simp [this]
theorem from_un {n p : Nat} {nx : Nat → List Nat} {wr : Nat → Int} {ms ah : List Nat} {i r : Nat} (hr : r < 64) (hah : ∀ k, k ∈ ah ↔ k < n ∧ i ∈ nx k) :
    (meetL (18446744073709551615 : Nat) (fromL p wr ms ah i)).testBit r = false ↔ Src n p nx wr ms r i := by
  have hp : (2 ^ p - 1).testBit r = decide (r < p) := Nat.testBit_two_pow_sub_one _ _
  rw [meetL_bit, full_bit hr, Bool.true_and, List.all_eq_false]
  unfold Src fromL
  constructor
  · rintro ⟨x, hx, hb⟩
    rcases List.mem_append.1 hx with hx | hx
    · split at hx
      · rename_i h0
        simp at hx
        subst hx
        rw [hp] at hb
        simp at hb
        exact ⟨hb, .inl h0⟩
      · simp at hx
    · obtain ⟨k, hk, rfl⟩ := List.mem_map.1 hx
      rw [Nat.testBit_or, bhd_bit, hp] at hb
      simp at hb
      obtain ⟨⟨h1, h2⟩, h3⟩ := hb
      exact ⟨h3, .inr ⟨k, ((hah k).1 hk).1, ((hah k).1 hk).2, h2, by unfold un; rw [List.getD_eq_getElem?_getD]; exact h1⟩⟩
  · rintro ⟨h1, h2⟩
    have hp' : ¬ r < p := by omega
    rcases h2 with h0 | ⟨k, hk, hi, hw, hu⟩
    · exact ⟨2 ^ p - 1, by simp [h0], by rw [hp]; simp [h1]⟩
    · refine ⟨_, List.mem_append.2 (.inr (List.mem_map.2 ⟨k, (hah k).2 ⟨hk, hi⟩, rfl⟩)), ?_⟩
      rw [Nat.testBit_or, bhd_bit, hp, hu]
      simp [hw, h1]

/-! ### the invariant -/
structure MInv (n p : Nat) (nx : Nat → List Nat) (wr : Nat → Int) (ms q : List Nat) : Prop where
  len : ms.length = n
  lt : ∀ m ∈ ms, m ≤ (18446744073709551615 : Nat)
  snd : ∀ r i, r < 64 → un ms r i → p ≤ r ∧ Flow.Reach (gr nx wr r) i
  sup : ∀ r i, r < 64 → un ms r i → Src n p nx wr ms r i
  cl : ∀ r i, r < 64 → i < n → i ∉ q → Src n p nx wr ms r i → un ms r i
  q : ∀ i ∈ q, i < n

section
variable {n p : Nat} {nx : Nat → List Nat} {wr : Nat → Int} {ms q q' : List Nat} {i : Nat}

theorem MInv.start (hn : 0 < n) : MInv n p nx wr (List.replicate n (18446744073709551615 : Nat)) [0] := by
  have hun : ∀ r i, r < 64 → ¬ un (List.replicate n (18446744073709551615 : Nat)) r i := fun r i hr h => by
    have hi := un_lt hr h
    unfold un at h
    rw [List.length_replicate] at hi
    rw [List.getD_eq_getElem?_getD, List.getElem?_replicate, if_pos hi, Option.getD_some, full_bit hr] at h
    cases h
  refine ⟨by simp, fun m hm => by rw [List.mem_replicate] at hm; omega, fun r i hr h => absurd h (hun r i hr), fun r i hr h => absurd h (hun r i hr), fun r i hr hi hq h => ?_, fun i hi => by simp at hi; omega⟩
  rcases h.2 with h0 | ⟨k, _, _, _, h4⟩
  · exact absurd (by simp [h0]) hq
  · exact absurd h4 (hun r k hr)
theorem src_way (hM : MInv n p nx wr ms q) {r i : Nat} (hr : r < 64) (h : Src n p nx wr ms r i) : p ≤ r ∧ Flow.Reach (gr nx wr r) i := by
  refine ⟨h.1, ?_⟩
  rcases h.2 with h0 | ⟨k, _, h2, h3, h4⟩
  · rw [h0]; exact Flow.Reach.zero
  · exact Flow.Reach.step (hM.snd r k hr h4).2 (by unfold gr; rw [if_neg h3]; exact h2)
theorem eq_of_bits {a b : Nat} (ha : a ≤ (18446744073709551615 : Nat)) (hb : b ≤ (18446744073709551615 : Nat)) (h : ∀ r, r < 64 → (a.testBit r = false ↔ b.testBit r = false)) : a = b := by
  apply Nat.eq_of_testBit_eq
  intro r
  by_cases hr : r < 64
  · have := h r hr
    revert this
    cases a.testBit r <;> cases b.testBit r <;> simp
  · have h2 : (2 : Nat) ^ 64 ≤ 2 ^ r := Nat.pow_le_pow_right (by omega) (by omega)
    have hf : (18446744073709551615 : Nat) < 2 ^ 64 := by decide
    rw [Nat.testBit_lt_two_pow (Nat.lt_of_le_of_lt ha (Nat.lt_of_lt_of_le hf h2)), Nat.testBit_lt_two_pow (Nat.lt_of_le_of_lt hb (Nat.lt_of_lt_of_le hf h2))]
theorem MInv.same {m : Nat} (h : MInv n p nx wr ms q) (hm : ms[i]? = some m) (hmask : ∀ r, r < 64 → (m.testBit r = false ↔ Src n p nx wr ms r i)) (hq : ∀ x, x ∈ q ↔ x = i ∨ x ∈ q') : MInv n p nx wr ms q' :=
  ⟨h.len, h.lt, h.snd, h.sup, fun r j hr hj hjq hs => by
    by_cases hji : j = i
    · subst hji
      unfold un
      rw [List.getD_eq_getElem?_getD, hm]
      exact (hmask r hr).2 hs
    · exact h.cl r j hr hj (fun hx => ((hq j).1 hx).elim hji hjq) hs, fun j hj => h.q j ((hq j).2 (.inr hj))⟩
theorem un_set {m r j : Nat} (hi : i < ms.length) : un (ms.set i m) r j ↔ if i = j then m.testBit r = false else un ms r j := by
  unfold un
  rw [List.getD_eq_getElem?_getD, List.getElem?_set]
  split
  · subst_vars; simp [hi]
  · rw [List.getD_eq_getElem?_getD]
theorem MInv.turn {m : Nat} (h : MInv n p nx wr ms q) (hi : i < n) (hml : m ≤ (18446744073709551615 : Nat)) (hmask : ∀ r, r < 64 → (m.testBit r = false ↔ Src n p nx wr ms r i)) (hnx : ∀ k x, x ∈ nx k → x < n) (hq : ∀ x, x ∈ q ↔ x = i ∨ x ∈ q') {q2 : List Nat} (hq2 : ∀ x, x ∈ q2 ↔ x ∈ nx i ∨ x ∈ q') : MInv n p nx wr (ms.set i m) q2 := by
  have hil : i < ms.length := by rw [h.len]; exact hi
  have hmono : ∀ r j, r < 64 → un ms r j → un (ms.set i m) r j := fun r j hr hu => by
    rw [un_set hil]
    split
    · rename_i e; subst e; exact (hmask r hr).2 (h.sup r i hr hu)
    · exact hu
  have hsm : ∀ r j, r < 64 → Src n p nx wr ms r j → Src n p nx wr (ms.set i m) r j := fun r j hr hs =>
    ⟨hs.1, hs.2.imp id (fun ⟨k, h1, h2, h3, h4⟩ => ⟨k, h1, h2, h3, hmono r k hr h4⟩)⟩
  refine ⟨by rw [List.length_set]; exact h.len, fun x hx => ?_, fun r j hr hu => ?_, fun r j hr hu => ?_, fun r j hr hj hjq hs => ?_, fun x hx => ?_⟩
  · rcases List.mem_or_eq_of_mem_set hx with hx | hx
    · exact h.lt x hx
    · rw [hx]; exact hml
  · rw [un_set hil] at hu
    split at hu
    · rename_i e; subst e; exact src_way h hr ((hmask r hr).1 hu)
    · exact h.snd r j hr hu
  · rw [un_set hil] at hu
    split at hu
    · rename_i e; subst e; exact hsm r i hr ((hmask r hr).1 hu)
    · exact hsm r j hr (h.sup r j hr hu)
  · have hjn : j ∉ nx i := fun hx => hjq ((hq2 j).2 (.inl hx))
    have hs' : Src n p nx wr ms r j := ⟨hs.1, hs.2.imp id (fun ⟨k, h1, h2, h3, h4⟩ => ⟨k, h1, h2, h3, by
      rw [un_set hil] at h4
      split at h4
      · rename_i e; subst e; exact absurd h2 hjn
      · exact h4⟩)⟩
    rw [un_set hil]
    split
    · rename_i e; subst e; exact (hmask r hr).2 hs'
    · rename_i e
      exact h.cl r j hr hj (fun hx => ((hq j).1 hx).elim (fun e' => e e'.symm) (fun hx => hjq ((hq2 j).2 (.inr hx)))) hs'
  · rcases (hq2 x).1 hx with hx | hx
    · exact hnx i x hx
    · exact h.q x ((hq x).2 (.inr hx))

/-- what is told in the end -/
structure Tells (n p : Nat) (nx : Nat → List Nat) (wr : Nat → Int) (ms : List Nat) : Prop where
  len : ms.length = n
  lt : ∀ m ∈ ms, m ≤ (18446744073709551615 : Nat)
  iff : ∀ r i, r < 64 → i < n → (un ms r i ↔ p ≤ r ∧ Flow.Reach (gr nx wr r) i)
theorem MInv.tells (h : MInv n p nx wr ms []) (hn : 0 < n) (hnx : ∀ k x, x ∈ nx k → x < n) : Tells n p nx wr ms :=
  ⟨h.len, h.lt, fun r i hr hi => ⟨h.snd r i hr, fun ⟨h1, h2⟩ => by
    refine (reach_least (S := fun j => j < n ∧ un ms r j) ⟨hn, h.cl r 0 hr hn (by simp) ⟨h1, .inl rfl⟩⟩ ?_ h2).2
    intro k x ⟨h3, h4⟩ hx
    unfold gr at hx
    split at hx
    · simp at hx
    · rename_i hw
      exact ⟨hnx k x hx, h.cl r x hr (hnx k x hx) (by simp) ⟨h1, .inr ⟨k, h3, hx, hw, h4⟩⟩⟩⟩⟩
theorem Tells.one {a b : List Nat} (h : Tells n p nx wr a) (k : Tells n p nx wr b) : a = b := by
  apply List.ext_getElem (h.len.trans k.len.symm)
  intro j h1 h2
  refine eq_of_bits (h.lt _ (List.getElem_mem h1)) (k.lt _ (List.getElem_mem h2)) fun r hr => ?_
  have e1 := h.iff r j hr (by rw [← h.len]; exact h1)
  have e2 := k.iff r j hr (by rw [← h.len]; exact h1)
  have := e1.trans e2.symm
  unfold un at this
  rw [List.getD_eq_getElem?_getD, List.getD_eq_getElem?_getD, List.getElem?_eq_getElem h1, List.getElem?_eq_getElem h2] at this
  exact this

/-! ### it ends -/
def bitsOf (m : Nat) : Nat := (List.range 64).countP fun r => m.testBit r
def allBits (ms : List Nat) : Nat := (ms.map bitsOf).sum
theorem countP_lt {α : Type} {f g : α → Bool} {l : List α} (h : ∀ x ∈ l, f x = true → g x = true) {y : α} (hy : y ∈ l) (h1 : f y = false) (h2 : g y = true) : l.countP f < l.countP g := by
  induction l with
  | nil => cases hy
  | cons x l ih =>
    rw [List.countP_cons, List.countP_cons]
    have hle : l.countP f ≤ l.countP g := List.countP_mono_left (fun z hz => h z (List.mem_cons_of_mem _ hz))
    rcases List.mem_cons.1 hy with rfl | hy
    · simp [h1, h2]; omega
    · have := ih (fun z hz => h z (List.mem_cons_of_mem _ hz)) hy
      have hx := h x List.mem_cons_self
      cases hf : f x <;> cases hg : g x <;> simp [hf, hg] at * <;> omega
theorem bits_set {m x : Nat} {ms : List Nat} {i : Nat} (h : ms[i]? = some x) : allBits (ms.set i m) + bitsOf x = allBits ms + bitsOf m := by
  induction ms generalizing i with
  | nil => simp at h
  | cons y ms ih =>
    cases i with
    | zero => simp at h; subst h; simp [allBits]; omega
    | succ i =>
      have := ih (i := i) (by simpa using h)
      simp only [allBits, List.set_cons_succ, List.map_cons, List.sum_cons] at *
      omega
theorem bits_full (n : Nat) : allBits (List.replicate n (18446744073709551615 : Nat)) = 64 * n := by
  have h : bitsOf (18446744073709551615 : Nat) = 64 := by decide
  simp [allBits, h]; omega
theorem MInv.less {m x : Nat} (h : MInv n p nx wr ms q) (hx : ms[i]? = some x) (hml : m ≤ (18446744073709551615 : Nat)) (hmask : ∀ r, r < 64 → (m.testBit r = false ↔ Src n p nx wr ms r i)) (hne : m ≠ x) : allBits (ms.set i m) + 1 ≤ allBits ms := by
  have hs := bits_set (m := m) hx
  have hxl : x ≤ (18446744073709551615 : Nat) := h.lt x (List.mem_of_getElem? hx)
  have hu : ∀ r, r < 64 → x.testBit r = false → m.testBit r = false := fun r hr hb => (hmask r hr).2 (h.sup r i hr (by unfold un; rw [List.getD_eq_getElem?_getD, hx]; exact hb))
  have : ∃ r, r < 64 ∧ m.testBit r = false ∧ x.testBit r = true := by
    apply Classical.byContradiction
    intro hno
    refine hne (eq_of_bits hml hxl fun r hr => ⟨fun hb => ?_, hu r hr⟩)
    cases hxb : x.testBit r
    · rfl
    · exact absurd ⟨r, hr, hb, hxb⟩ hno
  obtain ⟨r, hr, h1, h2⟩ := this
  have : bitsOf m < bitsOf x := countP_lt (fun y hy hb => by
    cases hxb : x.testBit y
    · rw [hu y (List.mem_range.1 hy) hxb] at hb; cases hb
    · rfl) (List.mem_range.2 hr) h1 h2
  omega
end

end Go.Sure

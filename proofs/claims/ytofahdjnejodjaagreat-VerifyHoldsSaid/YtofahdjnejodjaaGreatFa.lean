/- Flow, plainly: places, what follows, sorted numbers, blocks, what is reached. Of no program. -/
import Derived.Lib.SlicesCompact
set_option linter.unusedSimpArgs false
set_option linter.unusedVariables false
set_option linter.unusedSectionVars false
set_option linter.unnecessarySimpa false
namespace Go.Flow

/-- of an instruction: does it go on, its target (below 0: none), its bytes -/
structure Fi where
  fl : Bool
  tg : Int
  ln : Nat

def plc (l : List Fi) (k : Nat) : Nat := ((l.take k).map (·.ln)).sum
theorem plc_zero (l : List Fi) : plc l 0 = 0 := by simp [plc]
theorem plc_succ (l : List Fi) (k : Nat) (h : k < l.length) : plc l (k + 1) = plc l k + l[k].ln := by
  unfold plc; rw [List.take_succ_eq_append_getElem h, List.map_append, List.sum_append]; simp
theorem plc_lt (l : List Fi) (hp : ∀ i ∈ l, 0 < i.ln) (j : Nat) : ∀ k, j < k → k ≤ l.length → plc l j < plc l k := by
  intro k
  induction k with
  | zero => intro h; omega
  | succ k ih =>
    intro h1 h2
    have h3 := plc_succ l k (by omega)
    have h4 := hp l[k] (List.getElem_mem _)
    by_cases hjk : j = k
    · subst hjk; omega
    · have := ih (by omega) (by omega); omega
theorem plc_inj (l : List Fi) (hp : ∀ i ∈ l, 0 < i.ln) (j k : Nat) (hj : j < l.length) (hk : k < l.length) (h : plc l j = plc l k) : j = k := by
  rcases Nat.lt_trichotomy j k with h1 | h1 | h1
  · have := plc_lt l hp j k h1 (by omega); omega
  · exact h1
  · have := plc_lt l hp k j h1 (by omega); omega

/-- the number of the instruction at a place -/
def atO (l : List Fi) (t : Int) : Option Nat := (List.range l.length).find? fun k => decide ((plc l k : Int) = t)
theorem atO_some {l : List Fi} {t : Int} {k : Nat} (h : atO l t = some k) : k < l.length ∧ (plc l k : Int) = t := by
  unfold atO at h
  have h1 := List.mem_of_find?_eq_some h
  have h2 := List.find?_some h
  exact ⟨List.mem_range.1 h1, by simpa using h2⟩
theorem atO_none {l : List Fi} {t : Int} (h : atO l t = none) (k : Nat) (hk : k < l.length) : (plc l k : Int) ≠ t := by
  unfold atO at h
  rw [List.find?_eq_none] at h
  have := h k (List.mem_range.2 hk)
  simpa using this
theorem atO_is (l : List Fi) (hp : ∀ i ∈ l, 0 < i.ln) (k : Nat) (hk : k < l.length) (t : Int) (h : (plc l k : Int) = t) : atO l t = some k := by
  cases h1 : atO l t with
  | none => exact absurd h (atO_none h1 k hk)
  | some j =>
    obtain ⟨h2, h3⟩ := atO_some h1
    rw [plc_inj l hp j k h2 hk (by omega)]
theorem atO_neg {l : List Fi} {t : Int} (h : t < 0) : atO l t = none := by
  cases h1 : atO l t with
  | none => rfl
  | some j => have := (atO_some h1).2; omega

/-- code that flows -/
structure Flows (l : List Fi) : Prop where
  ln : ∀ i ∈ l, 0 < i.ln
  pos : 0 < l.length
  tg : ∀ i ∈ l, 0 ≤ i.tg → (atO l i.tg).isSome = true
  last : ∀ h : l.length - 1 < l.length, (l[l.length - 1]'h).fl = false
def badTg (l : List Fi) : Bool := l.any fun i => decide (0 ≤ i.tg) && (atO l i.tg).isNone
def lastFl (l : List Fi) : Bool := match l[l.length - 1]? with | some i => i.fl | none => false
def ck (j : Int) (l : List Fi) : Int := if j ≠ 0 then j else if l.length = 0 then 10 else if badTg l = true then 13 else if lastFl l = true then 10 else 0
theorem ck_flows (l : List Fi) (hp : ∀ i ∈ l, 0 < i.ln) (j : Int) (h : ck j l = 0) : Flows l := by
  unfold ck at h
  split at h
  · rename_i h1; exact absurd h h1
  split at h
  · exact absurd h (by decide)
  split at h
  · exact absurd h (by decide)
  split at h
  · exact absurd h (by decide)
  rename_i h1 h2 h3 h4
  refine ⟨hp, by omega, fun i hi h5 => ?_, fun h5 => ?_⟩
  · have h6 : ¬ ((decide (0 ≤ i.tg) && (atO l i.tg).isNone) = true) := fun h7 => h3 (List.any_eq_true.2 ⟨i, hi, h7⟩)
    cases h8 : atO l i.tg with
    | none => exfalso; apply h6; rw [h8]; simp [h5]
    | some k => rfl
  · unfold lastFl at h4
    rw [List.getElem?_eq_getElem h5] at h4
    simpa using h4

/-! ### what follows -/
def tgO (l : List Fi) (i : Fi) : Option Nat := if 0 ≤ i.tg then atO l i.tg else none
theorem tgO_at (l : List Fi) (i : Fi) : tgO l i = atO l i.tg := by
  unfold tgO
  split
  · rfl
  · rw [atO_neg (by omega)]
def two : Option Nat → Option Nat → List Nat
  | none, none => []
  | some a, none => [a]
  | none, some b => [b]
  | some a, some b => if a < b then [a, b] else if a = b then [a] else [b, a]
theorem two_sorted (a b : Option Nat) : (two a b).Pairwise (· < ·) := by
  cases a <;> cases b <;> simp only [two, List.Pairwise.nil, List.pairwise_singleton]
  rename_i a b
  split
  · simpa
  · split
    · simp
    · simp; omega
theorem two_mem (a b : Option Nat) (x : Nat) : x ∈ two a b ↔ a = some x ∨ b = some x := by
  cases a <;> cases b <;> simp only [two, List.not_mem_nil, List.mem_singleton, Option.some.injEq, reduceCtorEq, false_or, or_false] <;> try (constructor <;> (intro h; exact h.symm))
  rename_i a b
  split
  · simp [eq_comm]
  · split
    · rename_i h1 h2; subst h2; simp [eq_comm]
    · simp [eq_comm, or_comm]
def nx (l : List Fi) (k : Nat) : List Nat := match l[k]? with | none => [] | some i => two (if i.fl then some (k + 1) else none) (tgO l i)
def nxs (l : List Fi) : List (List Nat) := (List.range l.length).map (nx l)
theorem nx_sorted (l : List Fi) (k : Nat) : (nx l k).Pairwise (· < ·) := by
  unfold nx
  split
  · exact List.Pairwise.nil
  · exact two_sorted _ _
theorem nx_mem {l : List Fi} {k x : Nat} (hk : k < l.length) : x ∈ nx l k ↔ (l[k].fl = true ∧ x = k + 1) ∨ atO l l[k].tg = some x := by
  unfold nx
  rw [List.getElem?_eq_getElem hk]
  dsimp only
  rw [two_mem, tgO_at]
  by_cases h : l[k].fl = true
  · simp [h, eq_comm]
  · simp [h]
theorem nx_out {l : List Fi} {k : Nat} (hk : ¬ k < l.length) : nx l k = [] := by
  unfold nx; rw [List.getElem?_eq_none (by omega)]
theorem nx_lt {l : List Fi} (F : Flows l) {k x : Nat} (h : x ∈ nx l k) : x < l.length := by
  by_cases hk : k < l.length
  · rcases (nx_mem hk).1 h with ⟨h1, rfl⟩ | h1
    · have : k ≠ l.length - 1 := fun e => by
        have := F.last (by omega)
        subst e
        rw [this] at h1; cases h1
      omega
    · exact (atO_some h1).1
  · rw [nx_out hk] at h; cases h
theorem nx_few (l : List Fi) (k : Nat) : (nx l k).length ≤ 2 := by
  unfold nx
  split
  · simp
  · rename_i i _
    generalize (if i.fl then some (k + 1) else none) = a
    generalize tgO l i = b
    cases a <;> cases b <;> simp only [two, List.length_nil, List.length_singleton] <;> try omega
    split
    · simp
    · split <;> simp

/-! ### sorted numbers, each once -/
theorem strict_ext {a b : List Int} (ha : a.Pairwise (· < ·)) (hb : b.Pairwise (· < ·)) (h : ∀ x, x ∈ a ↔ x ∈ b) : a = b := by
  induction a generalizing b with
  | nil =>
    cases b with
    | nil => rfl
    | cons y b => exact absurd ((h y).2 (by simp)) (by simp)
  | cons x a ih =>
    cases b with
    | nil => exact absurd ((h x).1 (by simp)) (by simp)
    | cons y b =>
      rw [List.pairwise_cons] at ha hb
      have hxy : x = y := by
        have h1 := (h x).1 (by simp)
        have h2 := (h y).2 (by simp)
        rcases List.mem_cons.1 h1 with e | h1
        · exact e
        · rcases List.mem_cons.1 h2 with e | h2
          · exact e.symm
          · have := ha.1 y h2; have := hb.1 x h1; omega
      subst hxy
      congr 1
      refine ih ha.2 hb.2 fun z => ?_
      constructor
      · intro hz
        rcases List.mem_cons.1 ((h z).1 (by simp [hz])) with e | h1
        · subst e; have := ha.1 z hz; omega
        · exact h1
      · intro hz
        rcases List.mem_cons.1 ((h z).2 (by simp [hz])) with e | h1
        · subst e; have := hb.1 z hz; omega
        · exact h1
theorem compact_rising (zs : List Int) (h : zs.Pairwise (· ≤ ·)) : (Lib.compact zs).Pairwise (· < ·) ∧ ∀ x, x ∈ Lib.compact zs ↔ x ∈ zs := by
  have key : ∀ m, m ≤ zs.length → (Lib.compactUpTo zs.toArray m).Pairwise (· < ·) ∧ (∀ x, x ∈ Lib.compactUpTo zs.toArray m ↔ x ∈ zs.take m) := by
    intro m
    induction m with
    | zero => intro _; simp [Lib.compactUpTo]
    | succ m ih =>
      intro hm
      obtain ⟨i1, i2⟩ := ih (by omega)
      have hg : (zs.toArray)[m]! = zs[m] := by simp [show m < zs.length from by omega]
      have hle : ∀ x ∈ zs.take m, x ≤ zs[m] := by
        intro x hx
        obtain ⟨j, hj, rfl⟩ := List.getElem_of_mem hx
        rw [List.length_take] at hj
        rw [List.getElem_take]
        exact List.pairwise_iff_getElem.1 h j m (by omega) (by omega) (by omega)
      rw [Lib.compactUpTo_succ, List.take_succ_eq_append_getElem (by omega), hg]
      by_cases hk : Lib.keeps zs.toArray m = true
      · rw [if_pos hk]
        refine ⟨?_, fun x => by rw [List.mem_append, List.mem_append, i2]⟩
        rw [List.pairwise_append]
        refine ⟨i1, by simp, fun x hx y hy => ?_⟩
        rw [List.mem_singleton] at hy; subst hy
        have h1 := (i2 x).1 hx
        have h2 := hle x h1
        have h3 : x ≠ zs[m] := by
          intro e
          obtain ⟨j, hj, he⟩ := List.getElem_of_mem h1
          rw [List.length_take] at hj
          rw [List.getElem_take] at he
          have hm1 : (zs.toArray)[m - 1]! = zs[m - 1] := by simp [show m - 1 < zs.length from by omega]
          have h4 : zs[j] ≤ zs[m - 1] := by
            by_cases hj1 : j = m - 1
            · subst hj1; exact Int.le_refl _
            · exact List.pairwise_iff_getElem.1 h j (m - 1) (by omega) (by omega) (by omega)
          have h5 : zs[m - 1] ≤ zs[m] := List.pairwise_iff_getElem.1 h (m - 1) m (by omega) (by omega) (by omega)
          have h6 : zs[m] = zs[m - 1] := by omega
          unfold Lib.keeps at hk
          rw [hg, hm1] at hk
          have := of_decide_eq_true hk
          rcases this with h7 | h7
          · omega
          · exact h7 h6
        omega
      · rw [if_neg hk, List.append_nil]
        refine ⟨i1, fun x => ?_⟩
        rw [i2, List.mem_append, List.mem_singleton]
        refine ⟨.inl, fun hx => ?_⟩
        rcases hx with hx | rfl
        · exact hx
        · unfold Lib.keeps at hk
          have h7 : ¬ (m = 0 ∨ zs.toArray[m]! ≠ zs.toArray[m - 1]!) := fun e => hk (decide_eq_true e)
          have h8 : 0 < m := by omega
          have hm1 : (zs.toArray)[m - 1]! = zs[m - 1] := by simp [show m - 1 < zs.length from by omega]
          have h9 : zs[m] = zs[m - 1] := by
            apply Classical.byContradiction
            intro e
            exact h7 (.inr (by rw [hg, hm1]; exact e))
          rw [h9]
          exact List.mem_of_getElem? (i := m - 1) (by rw [List.getElem?_take, if_pos (by omega)]; simp)
  have := key zs.length (Nat.le_refl _)
  rw [List.take_length] at this
  exact this
/-- sorted, each once -/
def sortI (zs : List Int) : List Int := Lib.compact (zs.mergeSort fun x y => decide (x ≤ y))
theorem sortI_spec (zs : List Int) : (sortI zs).Pairwise (· < ·) ∧ ∀ x, x ∈ sortI zs ↔ x ∈ zs := by
  have h1 := List.pairwise_mergeSort (le := fun x y : Int => decide (x ≤ y)) (fun a b c h1 h2 => by simp at *; omega) (fun a b => by simp; omega) zs
  have h2 := compact_rising (zs.mergeSort fun x y => decide (x ≤ y)) (h1.imp (fun h => by simpa using h))
  exact ⟨h2.1, fun x => (h2.2 x).trans List.mem_mergeSort⟩
theorem sortI_eq {zs ys : List Int} (h : ys.Pairwise (· < ·)) (hm : ∀ x, x ∈ ys ↔ x ∈ zs) : sortI zs = ys :=
  strict_ext (sortI_spec zs).1 h fun x => ((sortI_spec zs).2 x).trans (hm x).symm
theorem sortI_len (zs : List Int) : (sortI zs).length ≤ zs.length := by
  unfold sortI Lib.compact Lib.compactUpTo
  rw [List.length_map]
  refine Nat.le_trans (List.length_filter_le _ _) ?_
  simp
def nats (l : List Nat) : List Int := l.map fun (n : Nat) => (n : Int)
theorem nats_sorted {l : List Nat} (h : l.Pairwise (· < ·)) : (nats l).Pairwise (· < ·) := by
  unfold nats
  rw [List.pairwise_map]
  exact h.imp (fun h => by omega)
theorem nats_mem {l : List Nat} {x : Int} : x ∈ nats l ↔ ∃ n ∈ l, (n : Int) = x := by simp [nats]
theorem nats_len (l : List Nat) : (nats l).length = l.length := by simp [nats]
theorem sortI_nats {zs : List Nat} {ys : List Nat} (h : ys.Pairwise (· < ·)) (hm : ∀ x, x ∈ ys ↔ x ∈ zs) : sortI (nats zs) = nats ys :=
  sortI_eq (nats_sorted h) fun x => by rw [nats_mem, nats_mem]; constructor <;> (rintro ⟨n, h1, h2⟩; exact ⟨n, by first | exact (hm n).1 h1 | exact (hm n).2 h1, h2⟩)

/-- what an instruction's list is before it is sorted -/
def rawNx (l : List Fi) (i : Fi) (k : Nat) : List Nat := (if i.fl then [k + 1] else []) ++ (match atO l i.tg with | some j => [j] | none => [])
theorem rawNx_sort (l : List Fi) (k : Nat) (hk : k < l.length) : sortI (nats (rawNx l l[k] k)) = nats (nx l k) := by
  refine sortI_nats (nx_sorted l k) fun x => ?_
  rw [nx_mem hk]
  unfold rawNx
  rw [List.mem_append]
  have h1 : x ∈ (if l[k].fl then [k + 1] else []) ↔ (l[k].fl = true ∧ x = k + 1) := by
    by_cases h : l[k].fl = true <;> simp [h]
  rw [h1]
  cases h2 : atO l l[k].tg with
  | none => simp
  | some j =>
    rw [List.mem_singleton, Option.some.injEq]
    exact ⟨fun h => h.imp id (fun e => e.symm), fun h => h.imp id (fun e => e.symm)⟩

/-! ### leaders and blocks -/
def leadB (l : List Fi) (i : Nat) : Bool :=
  (i == 0) || (match l[i - 1]? with | some x => decide (0 ≤ x.tg) || !x.fl | none => true) || l.any (fun x => decide (x.tg = (plc l i : Int)))
def headsTo (l : List Fi) (k : Nat) : List Nat := (List.range k).filter (leadB l)
def heads (l : List Fi) : List Nat := headsTo l l.length
theorem headsTo_sorted (l : List Fi) (k : Nat) : (headsTo l k).Pairwise (· < ·) := List.Pairwise.sublist List.filter_sublist List.pairwise_lt_range
theorem headsTo_mem {l : List Fi} {k x : Nat} : x ∈ headsTo l k ↔ x < k ∧ leadB l x = true := by simp [headsTo]
theorem headsTo_succ (l : List Fi) (k : Nat) : headsTo l (k + 1) = headsTo l k ++ (if leadB l k = true then [k] else []) := by
  unfold headsTo
  rw [List.range_succ, List.filter_append]
  by_cases h : leadB l k = true <;> simp [h]
theorem heads_zero (l : List Fi) : leadB l 0 = true := by simp [leadB]
/-- the leaders as the program collects them -/
def rawOf (l : List Fi) (i : Fi) (k : Nat) : List Nat :=
  (if 0 ≤ i.tg then [(atO l i.tg).getD 0] else []) ++ (if ((decide (0 ≤ i.tg) || !i.fl) && decide (k + 1 < l.length)) = true then [k + 1] else [])
def rawHeads (l : List Fi) : Nat → List Nat
  | 0 => [0]
  | k + 1 => rawHeads l k ++ (match l[k]? with | some i => rawOf l i k | none => [])
theorem rawHeads_len (l : List Fi) : ∀ k, (rawHeads l k).length ≤ 1 + 2 * k
  | 0 => by simp [rawHeads]
  | k + 1 => by
    have := rawHeads_len l k
    unfold rawHeads
    rw [List.length_append]
    have h : (match l[k]? with | some i => rawOf l i k | none => []).length ≤ 2 := by
      split
      · unfold rawOf
        rw [List.length_append]
        split <;> split <;> simp
      · simp
    omega
theorem rawHeads_mem (l : List Fi) (x : Nat) : ∀ k, k ≤ l.length → (x ∈ rawHeads l k ↔ x = 0 ∨ ∃ j, ∃ h : j < l.length, j < k ∧ x ∈ rawOf l l[j] j)
  | 0, _ => by simp [rawHeads]
  | k + 1, hk => by
    unfold rawHeads
    rw [List.mem_append, rawHeads_mem l x k (by omega), List.getElem?_eq_getElem (by omega)]
    constructor
    · rintro ((h | ⟨j, h1, h2, h3⟩) | h)
      · exact .inl h
      · exact .inr ⟨j, h1, by omega, h3⟩
      · exact .inr ⟨k, by omega, by omega, h⟩
    · rintro (h | ⟨j, h1, h2, h3⟩)
      · exact .inl (.inl h)
      · by_cases hj : j = k
        · subst hj; exact .inr h3
        · exact .inl (.inr ⟨j, h1, by omega, h3⟩)
theorem rawHeads_sort (l : List Fi) (F : Flows l) : sortI (nats (rawHeads l l.length)) = nats (heads l) := by
  refine sortI_nats (headsTo_sorted l _) fun x => ?_
  unfold heads
  rw [headsTo_mem, rawHeads_mem l x _ (Nat.le_refl _)]
  constructor
  · rintro ⟨hx, hl⟩
    by_cases h0 : x = 0
    · exact .inl h0
    · refine .inr ?_
      unfold leadB at hl
      rw [Bool.or_eq_true, Bool.or_eq_true] at hl
      rcases hl with (hl | hl) | hl
      · exact absurd (by simpa using hl) h0
      · rw [List.getElem?_eq_getElem (by omega)] at hl
        dsimp only at hl
        refine ⟨x - 1, by omega, by omega, ?_⟩
        unfold rawOf
        rw [List.mem_append]
        refine .inr ?_
        rw [hl, Bool.true_and, if_pos (by simp; omega)]
        simp; omega
      · obtain ⟨i, hi, h1⟩ := List.any_eq_true.1 hl
        obtain ⟨j, hj, rfl⟩ := List.getElem_of_mem hi
        have h1 := of_decide_eq_true h1
        refine ⟨j, hj, hj, ?_⟩
        unfold rawOf
        rw [List.mem_append]
        refine .inl ?_
        rw [if_pos (by omega), atO_is l F.ln x hx _ h1.symm]
        simp
  · rintro (rfl | ⟨j, hj, -, h⟩)
    · exact ⟨F.pos, heads_zero l⟩
    · unfold rawOf at h
      rw [List.mem_append] at h
      rcases h with h | h
      · by_cases ht : 0 ≤ l[j].tg
        · rw [if_pos ht] at h
          have h1 := F.tg l[j] (List.getElem_mem _) ht
          cases h2 : atO l l[j].tg with
          | none => rw [h2] at h1; cases h1
          | some k =>
            rw [h2] at h
            have hxk : x = k := by simpa using h
            subst hxk
            obtain ⟨h3, h4⟩ := atO_some h2
            refine ⟨h3, ?_⟩
            unfold leadB
            rw [Bool.or_eq_true]
            exact .inr (List.any_eq_true.2 ⟨l[j], List.getElem_mem _, decide_eq_true h4.symm⟩)
        · rw [if_neg ht] at h; cases h
      · split at h
        · rename_i h1
          rw [Bool.and_eq_true] at h1
          have hx : x = j + 1 := by simpa using h
          subst hx
          have h2 := of_decide_eq_true h1.2
          refine ⟨h2, ?_⟩
          unfold leadB
          rw [Bool.or_eq_true, Bool.or_eq_true]
          refine .inl (.inr ?_)
          rw [show j + 1 - 1 = j from rfl, List.getElem?_eq_getElem hj]
          exact h1.1
        · cases h

/-- which number a leader has among the leaders -/
def idx (h : List Nat) (x : Nat) : Nat := h.countP (fun y => decide (y < x))
theorem idx_at {h : List Nat} (hs : h.Pairwise (· < ·)) (b : Nat) (hb : b < h.length) : idx h h[b] = b := by
  unfold idx
  have h0 : h = h.take b ++ h.drop b := (List.take_append_drop b h).symm
  conv => lhs; rw [show h.countP (fun y => decide (y < h[b])) = (h.take b ++ h.drop b).countP (fun y => decide (y < h[b])) from by rw [List.take_append_drop]]
  rw [List.countP_append]
  have h1 : (h.take b).countP (fun y => decide (y < h[b])) = b := by
    rw [List.countP_eq_length.2]
    · rw [List.length_take]; omega
    · intro y hy
      obtain ⟨j, hj, rfl⟩ := List.getElem_of_mem hy
      rw [List.length_take] at hj
      rw [List.getElem_take]
      exact decide_eq_true (List.pairwise_iff_getElem.1 hs j b (by omega) hb (by omega))
  have h2 : (h.drop b).countP (fun y => decide (y < h[b])) = 0 := by
    rw [List.countP_eq_zero]
    intro y hy
    obtain ⟨j, hj, rfl⟩ := List.getElem_of_mem hy
    rw [List.getElem_drop]
    rw [List.length_drop] at hj
    simp only [decide_eq_true_eq, Nat.not_lt]
    by_cases h3 : j = 0
    · subst h3; simp
    · exact Nat.le_of_lt (List.pairwise_iff_getElem.1 hs b (b + j) hb (by omega) (by omega))
  omega
theorem idx_mem {h : List Nat} (hs : h.Pairwise (· < ·)) {x : Nat} (hx : x ∈ h) : h[idx h x]? = some x := by
  obtain ⟨b, hb, rfl⟩ := List.getElem_of_mem hx
  rw [idx_at hs b hb, List.getElem?_eq_getElem hb]
theorem idx_lt {h : List Nat} (hs : h.Pairwise (· < ·)) {x y : Nat} (hx : x ∈ h) (hy : y ∈ h) (hxy : x < y) : idx h x < idx h y := by
  obtain ⟨a, ha, rfl⟩ := List.getElem_of_mem hx
  obtain ⟨b, hb, rfl⟩ := List.getElem_of_mem hy
  rw [idx_at hs a ha, idx_at hs b hb]
  rcases Nat.lt_trichotomy a b with h1 | h1 | h1
  · exact h1
  · subst h1; omega
  · have := List.pairwise_iff_getElem.1 hs b a hb ha h1; omega
theorem idx_int (h : List Nat) (x : Nat) : (nats h).countP (fun y => decide (y < (x : Int))) = idx h x := by
  unfold nats idx
  rw [List.countP_map]
  apply List.countP_congr
  intro y _
  simp

/-- the blocks that end at a place: from where to where -/
def cutsTo (l : List Fi) (k : Nat) : List (Nat × Nat) := (List.range (headsTo l k).length).map fun b => ((headsTo l k).getD b 0, ((headsTo l k)[b + 1]?).getD k)
theorem cutsTo_len (l : List Fi) (k : Nat) : (cutsTo l k).length = (headsTo l k).length := by simp [cutsTo]
theorem cutsTo_zero (l : List Fi) : cutsTo l 0 = [] := rfl
theorem cutsTo_lead (l : List Fi) (k : Nat) (h : leadB l k = true) (hk : 0 < k ∨ headsTo l k = []) : cutsTo l (k + 1) = cutsTo l k ++ [(k, k + 1)] := by
  have hh : headsTo l (k + 1) = headsTo l k ++ [k] := by rw [headsTo_succ, if_pos h]
  unfold cutsTo
  rw [hh, List.length_append, List.length_singleton, List.range_succ, List.map_append]
  congr 1
  · apply List.map_congr_left
    intro b hb
    rw [List.mem_range] at hb
    rw [show (headsTo l k ++ [k]).getD b 0 = (headsTo l k).getD b 0 from by simp [List.getD, List.getElem?_append_left hb]]
    by_cases hb1 : b + 1 < (headsTo l k).length
    · rw [List.getElem?_append_left hb1]
      rw [List.getElem?_eq_getElem hb1]; rfl
    · rw [List.getElem?_append_right (by omega), List.getElem?_eq_none (l := headsTo l k) (by omega)]
      rw [show b + 1 - (headsTo l k).length = 0 from by omega]; rfl
  · simp
theorem cutsTo_same (l : List Fi) (k : Nat) (h : leadB l k = false) (hp : 0 < (headsTo l k).length) : ∃ p q, cutsTo l k = p ++ [(q, k)] ∧ cutsTo l (k + 1) = p ++ [(q, k + 1)] := by
  have hh : headsTo l (k + 1) = headsTo l k := by rw [headsTo_succ, if_neg (by simp [h]), List.append_nil]
  obtain ⟨n, hn⟩ : ∃ n, (headsTo l k).length = n + 1 := ⟨(headsTo l k).length - 1, by omega⟩
  refine ⟨(List.range n).map fun b => ((headsTo l k).getD b 0, ((headsTo l k)[b + 1]?).getD k), (headsTo l k).getD n 0, ?_, ?_⟩
  · unfold cutsTo
    rw [hn, List.range_succ, List.map_append, List.map_singleton, List.getElem?_eq_none (by omega)]
    rfl
  · unfold cutsTo
    rw [hh, hn, List.range_succ, List.map_append, List.map_singleton, List.getElem?_eq_none (by omega)]
    congr 1
    apply List.map_congr_left
    intro b hb
    rw [List.mem_range] at hb
    rw [List.getElem?_eq_getElem (by omega)]
    rfl
theorem headsTo_pos (l : List Fi) (k : Nat) (hk : 0 < k) : 0 < (headsTo l k).length := by
  have : 0 ∈ headsTo l k := headsTo_mem.2 ⟨hk, heads_zero l⟩
  exact List.length_pos_of_mem this

/-- what follows an instruction in numbers of blocks -/
def bnx (l : List Fi) (to : Nat) : List Nat := (nx l (to - 1)).map (idx (heads l))
/-- where the b-th block ends -/
def endOf (l : List Fi) (b : Nat) : Nat := ((heads l)[b + 1]?).getD l.length
structure Bk where
  fr : Nat
  to : Nat
  nx : List Nat
def blks (l : List Fi) : List Bk := (List.range (heads l).length).map fun b => ⟨(heads l).getD b 0, endOf l b, bnx l (endOf l b)⟩
theorem endOf_pos {l : List Fi} (F : Flows l) (b : Nat) (hb : b < (heads l).length) : (heads l)[b] < endOf l b ∧ endOf l b ≤ l.length := by
  unfold endOf
  have h1 := (headsTo_mem.1 (List.getElem_mem hb)).1
  by_cases h : b + 1 < (heads l).length
  · rw [List.getElem?_eq_getElem h]
    have h2 := (headsTo_mem.1 (List.getElem_mem h)).1
    have h3 := List.pairwise_iff_getElem.1 (headsTo_sorted l l.length) b (b + 1) hb h (by omega)
    exact ⟨h3, Nat.le_of_lt h2⟩
  · rw [List.getElem?_eq_none (by omega)]
    exact ⟨h1, Nat.le_refl _⟩
/-- what follows a block's last instruction are leaders -/
theorem lead_of_nx {l : List Fi} (F : Flows l) {b x : Nat} (hb : b < (heads l).length) (h : x ∈ nx l (endOf l b - 1)) : x ∈ heads l := by
  have hp := endOf_pos F b hb
  have hx := nx_lt F h
  have hk : endOf l b - 1 < l.length := by omega
  refine headsTo_mem.2 ⟨hx, ?_⟩
  rcases (nx_mem hk).1 h with ⟨h1, h2⟩ | h1
  · have hxe : x = endOf l b := by omega
    unfold endOf at hxe
    by_cases h3 : b + 1 < (heads l).length
    · rw [List.getElem?_eq_getElem h3] at hxe
      have := (headsTo_mem.1 (List.getElem_mem h3)).2
      rw [hxe]; exact this
    · rw [List.getElem?_eq_none (by omega)] at hxe
      have hxl : x = l.length := hxe
      omega
  · have := (atO_some h1).2
    unfold leadB
    rw [Bool.or_eq_true]
    exact .inr (List.any_eq_true.2 ⟨l[endOf l b - 1], List.getElem_mem _, decide_eq_true this.symm⟩)
theorem bnx_sorted {l : List Fi} (F : Flows l) {b : Nat} (hb : b < (heads l).length) : (bnx l (endOf l b)).Pairwise (· < ·) := by
  unfold bnx
  rw [List.pairwise_map]
  exact List.Pairwise.imp_of_mem (fun {x y} hx hy hxy => idx_lt (headsTo_sorted l l.length) (lead_of_nx F hb hx) (lead_of_nx F hb hy) hxy) (nx_sorted l _)

/-! ### what is reached -/
inductive Reach (g : Nat → List Nat) : Nat → Prop
  | zero : Reach g 0
  | step {k x : Nat} (h : Reach g k) (hx : x ∈ g k) : Reach g x
theorem reach_least {g : Nat → List Nat} {S : Nat → Prop} (h0 : S 0) (hs : ∀ k x, S k → x ∈ g k → S x) {k : Nat} (h : Reach g k) : S k := by
  induction h with
  | zero => exact h0
  | step _ hx ih => exact hs _ _ ih hx
theorem reach_lt {l : List Fi} (F : Flows l) {k : Nat} (h : Reach (nx l) k) : k < l.length := by
  cases h with
  | zero => exact F.pos
  | step _ hx => exact nx_lt F hx

end Go.Flow

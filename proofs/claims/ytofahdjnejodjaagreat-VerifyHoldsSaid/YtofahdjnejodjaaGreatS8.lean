/- Masks: who goes to whom. -/
import Derived.Test.YtofahdjnejodjaaGreatS7
import Derived.Test.YtofahdjnejodjaaGreatFg
set_option linter.unusedSimpArgs false
set_option linter.unusedVariables false
set_option linter.unusedSectionVars false
set_option linter.unnecessarySimpa false
namespace Go.Proofs.YtofahdjnejodjaaGreat
open Go.RowKit Go.Flow Go.Sure

attribute [local go_sem] Program.isFuncB Program.isSliceB

variable {w w' w'' w0 : World}

theorem Rows2.app {B : Nat} {vs : List Value} {als : List (List Nat)} {k : Nat} {v : Value} {l : List Nat} {i : Nat} {v' : Value} (h : Rows2 w B vs als) (hv : vs[k]? = some v) (hl : als[k]? = some l)
    (ho : w'.ownsRow B 3 1 v' (l.length + 1) (ints (nats l) ++ ints (nats [i]))) (hg : w.grownBy w' v.ownBlock) (hb : ∀ b, v'.ownBlock = some b → v.ownBlock = some b ∨ b = w.heap.size) :
    Rows2 w' B (vs.set k v') (als.set k (l ++ [i])) := by
  have hk := (List.getElem?_eq_some_iff.1 hv).1
  have hk2 := (List.getElem?_eq_some_iff.1 hl).1
  have hlt := h.lt
  have hr : Fr (fun b => v.ownBlock = some b) w w' := (Fr.refl _ w).grown hg (fun b hb => .inl hb)
  refine ⟨by simp [h.len], fun j u m h1 h2 => ?_, fun a b u u' hab h1 h2 x hx => ?_⟩
  · rw [List.getElem?_set] at h1 h2
    by_cases hjk : k = j
    · subst hjk
      rw [if_pos rfl, if_pos hk] at h1
      rw [if_pos rfl, if_pos hk2] at h2
      cases h1; cases h2
      rw [List.length_append, List.length_singleton, show ints (nats (l ++ [i])) = ints (nats l) ++ ints (nats [i]) from by simp [ints, nats]]
      exact ho
    · rw [if_neg hjk] at h1 h2
      exact owns_fr (h.own j u m h1 h2) hr (fun b hb' hb2 => h.apart k j v u hjk hv h1 b hb2 hb')
  · rw [List.getElem?_set] at h1 h2
    by_cases hka : k = a
    · subst hka
      rw [if_pos rfl, if_pos hk] at h1
      rw [if_neg hab] at h2
      cases h1
      intro hx2
      rcases hb x hx with h3 | h3
      · exact h.apart k b v u' hab hv h2 x h3 hx2
      · have := (hlt u' (List.mem_of_getElem? h2) x hx2).2
        omega
    · rw [if_neg hka] at h1
      by_cases hkb : k = b
      · subst hkb
        rw [if_pos rfl, if_pos hk] at h2
        cases h2
        intro hx2
        rcases hb x hx2 with h3 | h3
        · exact h.apart a k u v (fun e => hka e.symm) h1 hv x hx h3
        · have := (hlt u (List.mem_of_getElem? h1) x hx).2
          omega
      · rw [if_neg hkb] at h2
        exact h.apart a b u u' hab h1 h2 x hx

/-- the lists so far: those ahead of i, and of i the first t ways -/
structure AInv (n : Nat) (nx : Nat → List Nat) (i t : Nat) (als : List (List Nat)) : Prop where
  len : als.length = n
  few : ∀ l ∈ als, l.length ≤ 2 * i + t
  mem : ∀ (j : Nat) (l : List Nat), als[j]? = some l → ∀ k, k ∈ l ↔ (k < i ∧ j ∈ nx k) ∨ (k = i ∧ j ∈ (nx i).take t)
theorem AInv.start (n : Nat) (nx : Nat → List Nat) : AInv n nx 0 0 (List.replicate n []) :=
  ⟨by simp, fun l hl => by rw [(List.mem_replicate.1 hl).2]; simp, fun j l h k => by
    rw [List.getElem?_replicate] at h
    split at h <;> simp at h
    subst h
    simp⟩
theorem AInv.next {n : Nat} {nx : Nat → List Nat} {i t : Nat} {als : List (List Nat)} (h : AInv n nx i t als) (ht : t = (nx i).length) (h2 : t ≤ 2) : AInv n nx (i + 1) 0 als :=
  ⟨h.len, fun l hl => by have := h.few l hl; omega, fun j l hl k => by
    rw [h.mem j l hl k, ht, List.take_length]
    constructor
    · rintro (⟨h1, h2⟩ | ⟨rfl, h2⟩)
      · exact .inl ⟨by omega, h2⟩
      · exact .inl ⟨by omega, h2⟩
    · rintro (⟨h1, h2⟩ | ⟨_, h2⟩)
      · by_cases hk : k = i
        · subst hk; exact .inr ⟨rfl, h2⟩
        · exact .inl ⟨by omega, h2⟩
      · simp at h2⟩
theorem AInv.one {n : Nat} {nx : Nat → List Nat} {i t j : Nat} {als : List (List Nat)} {l : List Nat} (h : AInv n nx i t als) (hj : (nx i)[t]? = some j) (hl : als[j]? = some l) : AInv n nx i (t + 1) (als.set j (l ++ [i])) := by
  have hjl := (List.getElem?_eq_some_iff.1 hl).1
  have htk : (nx i).take (t + 1) = (nx i).take t ++ [j] := by rw [List.take_add_one, hj]; rfl
  refine ⟨by rw [List.length_set]; exact h.len, fun m hm => ?_, fun x m hm k => ?_⟩
  · rcases List.mem_or_eq_of_mem_set hm with hm | hm
    · have := h.few m hm; omega
    · subst hm
      have := h.few l (List.mem_of_getElem? hl)
      simp; omega
  · rw [List.getElem?_set] at hm
    rw [htk, List.mem_append, List.mem_singleton]
    split at hm
    · rename_i e
      subst e
      simp [hjl] at hm
      subst hm
      rw [List.mem_append, List.mem_singleton, h.mem j l hl k]
      constructor
      · rintro ((h1 | h1) | rfl)
        · exact .inl h1
        · exact .inr ⟨h1.1, .inl h1.2⟩
        · exact .inr ⟨rfl, .inr rfl⟩
      · rintro (h1 | ⟨h1, h2 | _⟩)
        · exact .inl (.inl h1)
        · exact .inl (.inr ⟨h1, h2⟩)
        · exact .inr h1
    · rename_i e
      rw [h.mem x m hm k]
      constructor
      · rintro (h1 | h1)
        · exact .inl h1
        · exact .inr ⟨h1.1, .inl h1.2⟩
      · rintro (h1 | ⟨h1, h2 | h2⟩)
        · exact .inl h1
        · exact .inr ⟨h1, h2⟩
        · exact absurd h2.symm e
theorem AInv.done {n : Nat} {nx : Nat → List Nat} {als : List (List Nat)} (h : AInv n nx n 0 als) {j : Nat} {l : List Nat} (hl : als[j]? = some l) (k : Nat) : k ∈ l ↔ k < n ∧ j ∈ nx k := by
  rw [h.mem j l hl k]
  simp

/-- the lists, in memory -/
def AhIn (w : World) (B ab n : Nat) (als : List (List Nat)) : Prop :=
  ∃ vs : List Value, w.heap[ab]? = some (.cells vs.toArray 45 (0, 0)) ∧ vs.length = n ∧ Rows2 w B vs als
theorem AhIn.fr {S : Nat → Prop} {B ab n : Nat} {als : List (List Nat)} (h : AhIn w B ab n als) (r : Fr S w w') (h1 : ¬ S ab) (h2 : ∀ k, B ≤ k → k < w.heap.size → ¬ S k) : AhIn w' B ab n als := by
  obtain ⟨vs, e1, e2, e3⟩ := h
  exact ⟨vs, r.heap e1 h1, e2, e3.fr r (fun v hv b hb => h2 b (e3.lt v hv b hb).1 (e3.lt v hv b hb).2)⟩
theorem wpList_append_at {P : Program} {w : World} {ops : Array Oper} {rest : List Oper} {o : Oper} {a : Act} {Q : Exit → Act → World → Prop} (hgd : o.guard = none) (s x : Operand) (t : TypeId)
    (ho : o.op = .call { callee := .builtin .append, args := #[s, x], argTypes := #[t, t] })
    (base : Nat) (e : TypeId) (z : Value) (size bytes : Nat) (ht : P.underlying t = some (.slice e)) (hi : (P.info? e).map (fun i => (i.zero, i.size, i.bytes)) = some (some z, size, bytes))
    (hzs : z.cells.size = size) (hsz : 0 < size)
    (v : Value) (n : Nat) (xs : List Value) (hs : a.eval s = v) (hown : w.ownsRow base e size v n xs)
    (m : Nat) (news : List Value) (hr : Reads w (a.eval x) size m news) (h1 : ∀ u ∈ news, u.oneCell' = true)
    (h63 : n + m ≤ maxLen) (hbytes : (n + m) * bytes ≤ 140737488355328) (hbase : base ≤ w.heap.size)
    (h : ∀ a' c' w', w'.ownsRow base e size (.slice a' (n + m) c') (n + m) (xs ++ news) → w.grownBy w' v.ownBlock →
      (∀ k, (Value.slice a' (n + m) c').ownBlock = some k → v.ownBlock = some k ∨ k = w.heap.size) → wpList P ops Q rest (a.put o.dst (.slice a' (n + m) c')) w') : wpList P ops Q (o :: rest) a w :=
  wpList_plain hgd fun _ hK => wp_append_at s x t ho base e z size bytes ht hi hzs hsz v n xs hs hown m news hr h1 h63 hbytes hbase (fun a' c' w' h2 h3 h4 => hK _ _ (h a' c' w' h2 h3 h4))

end Go.Proofs.YtofahdjnejodjaaGreat

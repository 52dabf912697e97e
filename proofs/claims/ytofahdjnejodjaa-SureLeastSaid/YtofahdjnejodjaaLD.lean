import Derived.Test.YtofahdjnejodjaaLC
import Derived.Test.YtofahdjnejodjaaLA
import Derived.Laws.Rows
import Derived.Laws.Tables
set_option linter.unusedSimpArgs false
set_option linter.unusedVariables false
set_option linter.unusedSectionVars false
set_option linter.unnecessarySimpa false
namespace Go.Proofs.Ytofahdjnejodjaa
open Go.RowKit

attribute [local go_sem] Program.isFuncB Program.isSliceB

variable {w w' w'' w0 : World}

end Go.Proofs.Ytofahdjnejodjaa

namespace Go.Proofs.Ytofahdjnejodjaa
open Go.RowKit

attribute [local go_sem] Program.isFuncB Program.isSliceB

variable {w w' w'' w0 : World}

end Go.Proofs.Ytofahdjnejodjaa

namespace Go.Proofs.Ytofahdjnejodjaa
open Go.RowKit

attribute [local go_sem] Program.isFuncB Program.isSliceB

variable {w w' w'' w0 : World}

/-- the registers of a shape's letters among some (the document's way) -/
def stepR (regs : List Int) (t : List UInt8) (st : List Int × Nat) (c : UInt8) : List Int × Nat :=
  if c = 119 ∨ c = 114 then (if 0 < hasN t [c] then st.1 ++ [regs.getD st.2 0] else st.1, st.2 + 1) else st
def regSt (regs : List Int) (t s : List UInt8) : List Int × Nat := s.foldl (stepR regs t) ([], 0)
def regsOf (regs : List Int) (t s : List UInt8) : List Int := (regSt regs t s).1
theorem regSt_snoc (regs : List Int) (t s : List UInt8) (c : UInt8) : regSt regs t (s ++ [c]) = stepR regs t (regSt regs t s) c := by simp [regSt]
theorem stepR_len (regs : List Int) (t : List UInt8) (st : List Int × Nat) (c : UInt8) : (stepR regs t st c).1.length ≤ st.1.length + 1 ∧ (stepR regs t st c).2 ≤ st.2 + 1 := by
  unfold stepR
  split
  · split <;> simp
  · simp
theorem regSt_len (regs : List Int) (t : List UInt8) : ∀ (n : Nat) (s : List UInt8), s.length = n → (regSt regs t s).1.length ≤ n ∧ (regSt regs t s).2 ≤ n
  | 0, s, h => by rw [List.length_eq_zero_iff.1 h]; simp [regSt]
  | n + 1, s, h => by
    have hne : s ≠ [] := by rintro rfl; simp at h
    rw [← List.dropLast_concat_getLast hne, regSt_snoc]
    have ih := regSt_len regs t n s.dropLast (by simp [h])
    have := stepR_len regs t (regSt regs t s.dropLast) (s.getLast hne)
    omega
/-- the two ways tell the same -/
theorem regs_fields (A B C : Int) (s : List UInt8) : regSt [A, B, C] [119, 114] s = ((fieldsOf [A, B, C] s).1, (fieldsOf [A, B, C] s).1.length) ∧
    regSt [A, B, C] [114] s = ((fieldsOf [A, B, C] s).2.1, (fieldsOf [A, B, C] s).1.length) := by
  have key : ∀ (n : Nat) (s : List UInt8), s.length = n → regSt [A, B, C] [119, 114] s = ((fieldsOf [A, B, C] s).1, (fieldsOf [A, B, C] s).1.length) ∧
      regSt [A, B, C] [114] s = ((fieldsOf [A, B, C] s).2.1, (fieldsOf [A, B, C] s).1.length) := by
    intro n
    induction n with
    | zero => intro s h; rw [List.length_eq_zero_iff.1 h]; exact ⟨rfl, rfl⟩
    | succ n ih =>
      intro s h
      have hne : s ≠ [] := by rintro rfl; simp at h
      rw [← List.dropLast_concat_getLast hne, regSt_snoc, regSt_snoc, fieldsOf_snoc]
      obtain ⟨h1, h2⟩ := ih s.dropLast (by simp [h])
      rw [h1, h2]
      generalize s.getLast hne = c
      unfold stepR stepF
      by_cases h119 : c = 119
      · subst h119
        simp [hasN]
      · by_cases h114 : c = 114
        · subst h114
          simp [hasN]
        · simp [h119, h114]
  exact key _ s rfl

theorem extract_one (s : ByteArray) (k : Nat) (h : k < s.size) : (s.extract k (k + 1)).data.toList = [s[k]'h] := by
  rw [ByteArray.data_extract, Array.toList_extract]
  apply List.ext_getElem
  · simp; omega
  · intro i h1 h2
    have : i = 0 := by simp at h2; omega
    subst this
    simp
    rfl

end Go.Proofs.Ytofahdjnejodjaa

namespace Go.Proofs.Ytofahdjnejodjaa
open Go.RowKit

attribute [local go_sem] Program.isFuncB Program.isSliceB

variable {w w' w'' w0 : World}

theorem shape_facts : ∀ n, n < 33 → (let s := (shapeOf n).data.toList
    hasN s [119, 114] = Lib.countByte s 119 + Lib.countByte s 114 ∧ decide (0 < hasN s numLetters) = Lib.containsAny s numLetters ∧ decide (0 < hasN s [108]) = hasB s 108 ∧ decide (0 < hasN s [116]) = hasB s 116) := by decide
theorem sh_facts (o : Int) : hasN (sh o) [119, 114] = manyOf o ∧ decide (0 < hasN (sh o) numLetters) = Lib.containsAny (sh o) numLetters ∧ decide (0 < hasN (sh o) [108]) = hasB (sh o) 108 ∧ decide (0 < hasN (sh o) [116]) = hasB (sh o) 116 := by
  unfold manyOf sh shapeI
  split
  · rename_i h
    exact shape_facts o.toNat (by omega)
  · decide

theorem bare_has (o A B C N : Int) (k : Nat) : bareB o A B C N k = (([A, B, C].drop (hasN (sh o) [119, 114])).all (· == 0) && (decide (0 < hasN (sh o) numLetters) || N == 0) && (decide (0 < hasN (sh o) [108]) || k == 0)) := by
  obtain ⟨h1, h2, h3, _⟩ := sh_facts o
  rw [h1, h2, h3]; rfl

end Go.Proofs.Ytofahdjnejodjaa

namespace Go.Proofs.Ytofahdjnejodjaa
open Go.RowKit

attribute [local go_sem] Program.isFuncB Program.isSliceB

variable {w w' w'' w0 : World}

theorem regs_wr (o A B C : Int) : regsOf [A, B, C] [119, 114] (sh o) = (fieldsOf [A, B, C] (sh o)).1 := by
  unfold regsOf; rw [(regs_fields A B C (sh o)).1]
theorem take_any_succ {α : Type} (p : α → Bool) (L : List α) (i : Nat) (h : i < L.length) (h0 : (L.take i).any p = false) : (L.take (i + 1)).any p = p L[i] := by
  rw [List.take_succ_eq_append_getElem h, List.any_append, h0]; simp

end Go.Proofs.Ytofahdjnejodjaa

namespace Go.Proofs.Ytofahdjnejodjaa
open Go.RowKit

attribute [local go_sem] Program.isFuncB Program.isSliceB

variable {w w' w'' w0 : World}

theorem fr_setRow {S : Nat → Prop} {g : Nat} {cs : Array Value} (h : Fr S w w') (hS : S g ∨ w.heap.size ≤ g) : Fr S w (w'.setRow g cs) :=
  ⟨h.os, h.tape, h.output, by simp [World.setRow, h.size], fun k hk hs => by
    have : g ≠ k := fun e => by rcases hS with m | m; exact hs (e ▸ m); omega
    rw [show (w'.setRow g cs).heap[k]? = w'.heap[k]? from by simp [World.setRow, Array.getElem?_modify, this]]
    exact h.block k hk hs⟩

theorem Try.infoIns : (Try.prog.info? 24).map (·.size) = some 6 := by kernel_rfl

end Go.Proofs.Ytofahdjnejodjaa

namespace Go.Proofs.Ytofahdjnejodjaa
open Go.RowKit

attribute [local go_sem] Program.isFuncB Program.isSliceB

variable {w w' w'' w0 : World}

end Go.Proofs.Ytofahdjnejodjaa

namespace Go.Proofs.Ytofahdjnejodjaa
open Go.RowKit

attribute [local go_sem] Program.isFuncB Program.isSliceB

variable {w w' w'' w0 : World}

/-! ### the plain law of OpWithin -/
theorem fields_sub (regs : List Int) : ∀ (n : Nat) (s : List UInt8), s.length = n → (∀ x ∈ (fieldsOf regs s).2.1, x ∈ (fieldsOf regs s).1) ∧ ((fieldsOf regs s).2.2 = -1 ∨ (fieldsOf regs s).2.2 ∈ (fieldsOf regs s).1)
  | 0, s, h => by rw [List.length_eq_zero_iff.1 h]; simp [fieldsOf]
  | n + 1, s, h => by
    have hne : s ≠ [] := by rintro rfl; simp at h
    rw [← List.dropLast_concat_getLast hne, fieldsOf_snoc]
    obtain ⟨h1, h2⟩ := fields_sub regs n s.dropLast (by simp [h])
    generalize s.getLast hne = c
    generalize fieldsOf regs s.dropLast = st at *
    unfold stepF
    split
    · refine ⟨fun x hx => List.mem_append_left _ (h1 x hx), .inr (by simp)⟩
    · split
      · refine ⟨fun x hx => ?_, ?_⟩
        · rcases List.mem_append.1 hx with h | h
          · exact List.mem_append_left _ (h1 x h)
          · exact List.mem_append_right _ h
        · rcases h2 with h | h
          · exact .inl h
          · exact .inr (List.mem_append_left _ h)
      · exact ⟨h1, h2⟩

structure Fine (o A B C N : Int) (l : List Int) (regs area : Int) : Prop where
  op : 0 ≤ o ∧ o < 33
  lim : ¬ (regs < 0 ∨ 64 < regs ∨ area < 0 ∨ 4096 < area ∨ bareB o A B C N l.length = false)
  few : ¬ 8 < l.length
  all : ¬ ((fieldsOf [A, B, C] (sh o)).1 ++ l).any (out1 regs) = true
  num : ¬ (sh o).any (fun c => !numOk c.toNat N area) = true
theorem fine_iff (o A B C N : Int) (l : List Int) (regs area : Int) : checkOf o A B C N l regs area = 0 ↔ Fine o A B C N l regs area := by
  unfold checkOf
  constructor
  · intro h
    by_cases h1 : 0 ≤ o ∧ o < 33
    · rw [if_neg (fun h => h h1)] at h
      by_cases h2 : regs < 0 ∨ 64 < regs ∨ area < 0 ∨ 4096 < area ∨ bareB o A B C N l.length = false
      · rw [if_pos h2] at h; cases h
      rw [if_neg h2] at h
      by_cases h3 : 8 < l.length
      · rw [if_pos h3] at h; cases h
      rw [if_neg h3] at h
      by_cases h4 : ((fieldsOf [A, B, C] (sh o)).1 ++ l).any (out1 regs) = true
      · rw [if_pos h4] at h; cases h
      rw [if_neg h4] at h
      by_cases h5 : (sh o).any (fun c => !numOk c.toNat N area) = true
      · rw [if_pos h5] at h; cases h
      exact ⟨h1, h2, h3, h4, h5⟩
    · rw [if_pos h1] at h; cases h
  · rintro ⟨h1, h2, h3, h4, h5⟩
    rw [if_neg (fun h => h h1), if_neg h2, if_neg h3, if_neg h4, if_neg h5]

theorem numOk_more (c N a b : Int) (h : numOk c N a = true) (hab : a ≤ b) : numOk c N b = true := by
  unfold numOk at *
  repeat' split at h
  all_goals first
    | (rename_i e; subst e; simpa using h)
    | (simp_all; done)
    | (simp_all; omega)

theorem fine_more {o A B C N : Int} {l : List Int} {regs area more wider : Int} (h : Fine o A B C N l regs area) (h1 : regs ≤ more) (h2 : more ≤ 64) (h3 : area ≤ wider) (h4 : wider ≤ 4096) : Fine o A B C N l more wider := by
  refine ⟨h.op, ?_, h.few, ?_, ?_⟩
  · have := h.lim
    rintro (h | h | h | h | h)
    · omega
    · omega
    · omega
    · omega
    · exact this (.inr (.inr (.inr (.inr h))))
  · intro hx
    apply h.all
    rw [List.any_eq_true] at hx ⊢
    obtain ⟨x, hx, ho⟩ := hx
    refine ⟨x, hx, ?_⟩
    simp [out1] at ho ⊢
    omega
  · intro hx
    apply h.num
    rw [List.any_eq_true] at hx ⊢
    obtain ⟨x, hx, ho⟩ := hx
    refine ⟨x, hx, ?_⟩
    cases hn : numOk (x.toNat) N area with
    | false => rfl
    | true => rw [numOk_more _ _ _ _ hn h3] at ho; cases ho

/-- all that is read or written lies within -/
theorem fine_reads {o A B C N : Int} {l : List Int} {regs area : Int} (h : Fine o A B C N l regs area) : (∀ x ∈ readsOf o A B C l, 0 ≤ x ∧ x < regs) ∧ ((fieldsOf [A, B, C] (sh o)).2.2 = -1 ∨ 0 ≤ (fieldsOf [A, B, C] (sh o)).2.2 ∧ (fieldsOf [A, B, C] (sh o)).2.2 < regs) := by
  have hall : ∀ x ∈ (fieldsOf [A, B, C] (sh o)).1 ++ l, 0 ≤ x ∧ x < regs := fun x hx => by
    have h1 := h.all
    rw [List.any_eq_true] at h1
    have h2 : ¬ out1 regs x = true := fun h => h1 ⟨x, hx, h⟩
    simp [out1] at h2
    omega
  obtain ⟨s1, s2⟩ := fields_sub [A, B, C] _ (sh o) rfl
  refine ⟨fun x hx => ?_, ?_⟩
  · unfold readsOf at hx
    rcases List.mem_append.1 hx with h | h
    · exact hall x (List.mem_append_left _ (s1 x h))
    · split at h
      · exact hall x (List.mem_append_right _ h)
      · cases h
  · rcases s2 with h | h
    · exact .inl h
    · exact .inr (hall _ (List.mem_append_left _ h))

theorem jumpsB : ((List.range 33).all fun n => (hasB (shapeOf n).data.toList 116 == (n == 25 || n == 26 || n == 27)) && (!hasB (shapeOf n).data.toList 116 || (shapeOf n).data.toList.contains 116)) = true := by decide
theorem fine_target {o A B C N : Int} {l : List Int} {regs area : Int} (h : Fine o A B C N l regs area) :
    decide (0 ≤ (if hasB (sh o) 116 = true then N else -1)) = (o == 25 || o == 26 || o == 27) := by
  have h1 := h.op
  obtain ⟨m, rfl⟩ : ∃ m : Nat, o = m := ⟨o.toNat, by omega⟩
  have h2 := List.all_eq_true.1 jumpsB m (by simp; omega)
  have hs : sh m = (shapeOf m).data.toList := by unfold sh shapeI; rw [if_pos h1, Int.toNat_natCast]
  simp only [Bool.and_eq_true, beq_iff_eq] at h2
  obtain ⟨e1, e2⟩ := h2
  have hc : (((m : Int) == 25) || ((m : Int) == 26) || ((m : Int) == 27)) = (m == 25 || m == 26 || m == 27) := by
    rw [Bool.eq_iff_iff]
    simp
    omega
  rw [hc, hs]
  rw [e1] at e2 ⊢
  cases hb : (m == 25 || m == 26 || m == 27) with
  | false => simp
  | true =>
    rw [hb] at e2
    simp at e2
    have hn := h.num
    rw [List.any_eq_true] at hn
    have h5 : numOk 116 N area = true := by
      cases hk : numOk 116 N area with
      | true => rfl
      | false => exact (hn ⟨116, by rw [hs]; simpa using e2, by show (!numOk 116 N area) = true; rw [hk]; rfl⟩).elim
    simp [numOk] at h5
    simp
    exact h5.1

end Go.Proofs.Ytofahdjnejodjaa

namespace Go.Proofs.Ytofahdjnejodjaa
open Go.RowKit

theorem len_six : ∀ (es : List Value), es.length = 6 → ∃ a b c d e f, es = [a, b, c, d, e, f]
  | [a, b, c, d, e, f], _ => ⟨a, b, c, d, e, f, rfl⟩

/-- an instruction that was handed in -/
theorem ins_of {w : World} {n : Nat} {cs : List Value} {d : Dt} (h : Rd Try.prog w n 24 cs d) :
    ∃ (o A B C N : Int) (u : Value) (l : List Int), cs = [.int .i64 o, .int .i64 A, .int .i64 B, .int .i64 C, .int .i64 N, u] ∧ Reads w u 1 l.length (ints l) ∧ l.length ≤ maxLen ∧ (∀ z ∈ l, (Lit.int .i64 z).wf = true) ∧
      (Lit.int .i64 o).wf = true ∧ (Lit.int .i64 A).wf = true ∧ (Lit.int .i64 B).wf = true ∧ (Lit.int .i64 C).wf = true ∧ (Lit.int .i64 N).wf = true := by
  obtain ⟨fl, -, hlen, -, hf⟩ := h.fields (z := 6) Try.underlying24 (by kernel_rfl)
  obtain ⟨a0, a1, a2, a3, a4, a5, rfl⟩ := len_six cs hlen
  obtain ⟨_, -, r0⟩ := hf 0 3 0 1 rfl (by kernel_rfl)
  obtain ⟨_, -, r1⟩ := hf 1 3 1 1 rfl (by kernel_rfl)
  obtain ⟨_, -, r2⟩ := hf 2 3 2 1 rfl (by kernel_rfl)
  obtain ⟨_, -, r3⟩ := hf 3 3 3 1 rfl (by kernel_rfl)
  obtain ⟨_, -, r4⟩ := hf 4 3 4 1 rfl (by kernel_rfl)
  obtain ⟨_, -, r5⟩ := hf 5 22 5 1 rfl (by kernel_rfl)
  obtain ⟨o, e0, -, w0⟩ := r0.int Try.underlying3
  obtain ⟨A, e1, -, w1⟩ := r1.int Try.underlying3
  obtain ⟨B, e2, -, w2⟩ := r2.int Try.underlying3
  obtain ⟨C, e3, -, w3⟩ := r3.int Try.underlying3
  obtain ⟨N, e4, -, w4⟩ := r4.int Try.underlying3
  obtain ⟨l, -, hr, hz, hm⟩ := Rd.reads (v := a5) Try.underlying22 Try.underlying3 (by kernel_rfl) r5
  simp at e0 e1 e2 e3 e4
  subst e0 e1 e2 e3 e4
  exact ⟨o, A, B, C, N, a5, l, rfl, by simpa [ints] using hr, hm, hz, w0, w1, w2, w3, w4⟩

end Go.Proofs.Ytofahdjnejodjaa

/- Which structs may be, plainly. Of no program. -/
import Derived.Test.YtjpkmaacalelcaaDoorYc
set_option linter.unusedSimpArgs false
set_option linter.unusedVariables false
set_option linter.unusedSectionVars false
set_option linter.unnecessarySimpa false
namespace Go.Ty

def memB (ns : List ByteArray) (s : ByteArray) : Bool := ns.any fun x => decide (x = s)
theorem memB_iff {ns : List ByteArray} {s : ByteArray} : memB ns s = true ↔ s ∈ ns := by
  unfold memB
  rw [List.any_eq_true]
  constructor
  · rintro ⟨x, hx, h⟩
    rw [decide_eq_true_eq] at h
    exact h ▸ hx
  · intro h
    exact ⟨s, h, by simp⟩
def fdB (many i : Nat) (fs : List Fd) (k : Nat) (f : Fd) : Bool :=
  !memB (ByteArray.empty :: (fs.take k).map Fd.nm) f.nm && shapedB many f.t && !(insideB f.t && decide ((i : Int) ≤ f.t.s))
def fdsB (many i : Nat) (fs : List Fd) : Bool := (List.range fs.length).all fun k => match fs[k]? with | some f => fdB many i fs k f | none => true
def stB (l : List St) (i : Nat) : Bool := decide (1 ≤ (fieldsAt l i).length) && decide ((fieldsAt l i).length ≤ 16) && fdsB l.length i (fieldsAt l i)
def soundB (l : List St) : Bool := decide (l.length ≤ 32) && (List.range l.length).all (stB l)
def fitB (l : List St) : Bool := (List.range l.length).all fun i => decide ((whole l i).1 ≤ 8192)
/-- why structs may not be -/
def structsE (l : List St) : Nat := if soundB l = true then (if fitB l = true then 0 else 3) else 2

theorem fdsB_all {many i : Nat} {fs : List Fd} (h : ∀ k (hk : k < fs.length), fdB many i fs k fs[k] = true) : fdsB many i fs = true := by
  unfold fdsB
  rw [List.all_eq_true]
  intro k hk
  rw [List.mem_range] at hk
  rw [List.getElem?_eq_getElem hk]
  exact h k hk
theorem fdsB_at {many i : Nat} {fs : List Fd} (h : fdsB many i fs = true) (k : Nat) (hk : k < fs.length) : fdB many i fs k fs[k] = true := by
  unfold fdsB at h
  rw [List.all_eq_true] at h
  have := h k (List.mem_range.2 hk)
  rw [List.getElem?_eq_getElem hk] at this
  exact this
theorem fdsB_not {many i : Nat} {fs : List Fd} (k : Nat) (hk : k < fs.length) (h : fdB many i fs k fs[k] = false) : fdsB many i fs = false := by
  cases hc : fdsB many i fs with
  | false => rfl
  | true => rw [fdsB_at hc k hk] at h; cases h
theorem fdsB_sh {many i : Nat} {fs : List Fd} (h : fdsB many i fs = true) {f : Fd} (hf : f ∈ fs) : shapedB many f.t = true ∧ (insideB f.t = true → f.t.s < i) := by
  obtain ⟨k, hk, rfl⟩ := List.mem_iff_getElem.1 hf
  have := fdsB_at h k hk
  unfold fdB at this
  rw [Bool.and_eq_true, Bool.and_eq_true] at this
  refine ⟨this.1.2, fun hin => ?_⟩
  have h2 := this.2
  rw [hin, Bool.true_and, Bool.not_eq_true', decide_eq_false_iff_not] at h2
  omega
theorem fieldsAt_out {l : List St} {i : Nat} (h : l.length ≤ i) : fieldsAt l i = [] := by
  unfold fieldsAt
  rw [List.getElem?_eq_none h]
theorem sound_of {l : List St} (h : soundB l = true) : Sound l := by
  unfold soundB at h
  rw [Bool.and_eq_true, decide_eq_true_eq, List.all_eq_true] at h
  obtain ⟨h1, h2⟩ := h
  have h3 : ∀ i, i < l.length → 1 ≤ (fieldsAt l i).length ∧ (fieldsAt l i).length ≤ 16 ∧ fdsB l.length i (fieldsAt l i) = true := fun i hi => by
    have := h2 i (List.mem_range.2 hi)
    unfold stB at this
    rw [Bool.and_eq_true, Bool.and_eq_true, decide_eq_true_eq, decide_eq_true_eq] at this
    exact ⟨this.1.1, this.1.2, this.2⟩
  have h4 : ∀ i, ∀ f ∈ fieldsAt l i, i < l.length := fun i f hf => by
    rcases Nat.lt_or_ge i l.length with h | h
    · exact h
    · rw [fieldsAt_out h] at hf; cases hf
  refine ⟨h1, fun i hi e => ?_, fun i => ?_, fun i f hf => (fdsB_sh (h3 i (h4 i f hf)).2.2 hf).1, fun i f hf hin => ?_⟩
  · have := (h3 i hi).1
    rw [e] at this
    simp at this
  · rcases Nat.lt_or_ge i l.length with h | h
    · exact (h3 i h).2.1
    · rw [fieldsAt_out h]; simp
  · obtain ⟨a, b⟩ := fdsB_sh (h3 i (h4 i f hf)).2.2 hf
    obtain ⟨_, _, c, _⟩ := shaped_iff.1 a
    have h9 : f.t.b = 9 := by unfold insideB at hin; rw [Bool.and_eq_true] at hin; simpa using hin.1
    exact ⟨(c h9).1, b hin⟩
theorem soundB_not {l : List St} (i : Nat) (hi : i < l.length) (h : stB l i = false) : soundB l = false := by
  unfold soundB
  rw [Bool.and_eq_false_iff]
  refine .inr ?_
  rw [List.all_eq_false]
  exact ⟨i, List.mem_range.2 hi, by rw [h]; decide⟩
theorem soundB_all {l : List St} (h : l.length ≤ 32) (h2 : ∀ i, i < l.length → stB l i = true) : soundB l = true := by
  unfold soundB
  rw [Bool.and_eq_true, decide_eq_true_eq, List.all_eq_true]
  exact ⟨h, fun i hi => h2 i (List.mem_range.1 hi)⟩
theorem fitB_not {l : List St} (i : Nat) (hi : i < l.length) (h : ¬ (whole l i).1 ≤ 8192) : fitB l = false := by
  unfold fitB
  rw [List.all_eq_false]
  exact ⟨i, List.mem_range.2 hi, by simpa using h⟩
theorem fitB_all {l : List St} (h : ∀ i, i < l.length → (whole l i).1 ≤ 8192) : fitB l = true := by
  unfold fitB
  rw [List.all_eq_true]
  exact fun i hi => by simpa using h i (List.mem_range.1 hi)
theorem fitB_at {l : List St} (h : fitB l = true) (i : Nat) (hi : i < l.length) : (whole l i).1 ≤ 8192 := by
  unfold fitB at h
  rw [List.all_eq_true] at h
  simpa using h i (List.mem_range.2 hi)
theorem structsE_ok {l : List St} : structsE l = 0 ↔ soundB l = true ∧ fitB l = true := by
  unfold structsE
  by_cases h1 : soundB l = true <;> by_cases h2 : fitB l = true <;> simp [h1, h2]

end Go.Ty

import Derived.Test.YtkgcfllbkjlfcaaO28
namespace Go.Proofs.Ytkgcfllbkjlfcaa
open Go.RowKit

theorem len_six : ∀ (es : List Value), es.length = 6 → ∃ a b c d e f, es = [a, b, c, d, e, f]
  | [a, b, c, d, e, f], _ => ⟨a, b, c, d, e, f, rfl⟩

/-- an instruction that was handed in -/
theorem ins_of {w : World} {n : Nat} {cs : List Value} {d : Dt} (h : Rd Try.prog w n 30 cs d) :
    ∃ (o A B C N : Int) (u : Value) (l : List Int), cs = [.int .i64 o, .int .i64 A, .int .i64 B, .int .i64 C, .int .i64 N, u] ∧ Reads w u 1 l.length (ints l) ∧ l.length ≤ maxLen ∧ (∀ z ∈ l, (Lit.int .i64 z).wf = true) ∧
      (Lit.int .i64 o).wf = true ∧ (Lit.int .i64 A).wf = true ∧ (Lit.int .i64 B).wf = true ∧ (Lit.int .i64 C).wf = true ∧ (Lit.int .i64 N).wf = true := by
  obtain ⟨fl, -, hlen, -, hf⟩ := h.fields (z := 6) Try.underlying30 (by kernel_rfl)
  obtain ⟨a0, a1, a2, a3, a4, a5, rfl⟩ := len_six cs hlen
  obtain ⟨_, -, r0⟩ := hf 0 3 0 1 rfl (by kernel_rfl)
  obtain ⟨_, -, r1⟩ := hf 1 3 1 1 rfl (by kernel_rfl)
  obtain ⟨_, -, r2⟩ := hf 2 3 2 1 rfl (by kernel_rfl)
  obtain ⟨_, -, r3⟩ := hf 3 3 3 1 rfl (by kernel_rfl)
  obtain ⟨_, -, r4⟩ := hf 4 3 4 1 rfl (by kernel_rfl)
  obtain ⟨_, -, r5⟩ := hf 5 28 5 1 rfl (by kernel_rfl)
  obtain ⟨o, e0, -, w0⟩ := r0.int Try.underlying3
  obtain ⟨A, e1, -, w1⟩ := r1.int Try.underlying3
  obtain ⟨B, e2, -, w2⟩ := r2.int Try.underlying3
  obtain ⟨C, e3, -, w3⟩ := r3.int Try.underlying3
  obtain ⟨N, e4, -, w4⟩ := r4.int Try.underlying3
  obtain ⟨l, -, hr, hz, hm⟩ := Rd.reads (v := a5) Try.underlying28 Try.underlying3 (by kernel_rfl) r5
  simp at e0 e1 e2 e3 e4
  subst e0 e1 e2 e3 e4
  exact ⟨o, A, B, C, N, a5, l, rfl, by simpa [ints] using hr, hm, hz, w0, w1, w2, w3, w4⟩

end Go.Proofs.Ytkgcfllbkjlfcaa

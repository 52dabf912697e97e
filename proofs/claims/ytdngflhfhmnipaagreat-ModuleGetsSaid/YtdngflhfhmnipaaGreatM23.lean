/- ModuleBack's walk. -/
import Derived.Test.YtdngflhfhmnipaaGreatM22
set_option linter.unusedSimpArgs false
set_option linter.unusedVariables false
set_option linter.unusedSectionVars false
set_option linter.unnecessarySimpa false
namespace Go.Proofs.YtdngflhfhmnipaaGreat
open Go.RowKit

attribute [local go_sem] Program.isFuncB Program.isSliceB

variable {w w' w'' w0 : World}

theorem joinB_lt (is : List Ix) : ∀ b ∈ joinB is, b < 256 := by
  intro b hb
  unfold joinB at hb
  split at hb
  · exact bytesOf_lt is b hb
  · cases hb
theorem fnB_lt (f : Fx) : ∀ b ∈ fnB f, b < 256 := by
  intro b hb
  unfold fnB at hb
  simp only [List.mem_append] at hb
  rcases hb with hb | hb | hb | hb | hb
  · exact le_lt _ _ b hb
  · exact le_lt _ _ b hb
  · exact le_lt _ _ b hb
  · exact le_lt _ _ b hb
  · exact joinB_lt _ b hb
theorem modB_lt (m : Mx) (h : ∀ b ∈ m.d, b < 256) : ∀ b ∈ modB m, b < 256 := by
  intro b hb
  unfold modB headB fnsB at hb
  simp only [List.mem_append, List.mem_cons, List.not_mem_nil, or_false, List.mem_flatMap] at hb
  rcases hb with ((hb | hb | hb) | hb | hb | hb) | ⟨f, -, hb⟩
  · omega
  · omega
  · omega
  · exact le_lt _ _ b hb
  · exact h b hb
  · exact le_lt _ _ b hb
  · exact fnB_lt f b hb
theorem modB_len (m : Mx) (hd : m.d.length ≤ 300) (hf : m.f.length ≤ 6) : (modB m).length ≤ 30000 := by
  have := fnsB_len m.f
  unfold modB headB
  simp only [List.length_append, le_len, List.length_cons, List.length_nil]
  omega
theorem getMx_enc (m : Mx) (h : FineM m) : getMx (modB m) = m := by
  have := getE_enc m h []
  rw [List.append_nil] at this
  obtain ⟨h1, h2⟩ := this
  unfold getMx
  rw [h1, h2]
theorem fine_of {m : Mx} (hr : m.Raw) (h : modCk m = 0) : FineM m := ⟨h, hr.n, hr.lt⟩

end Go.Proofs.YtdngflhfhmnipaaGreat

import Derived.Test.YtihnkijeefkefaaGreatLJ
import Derived.Test.YtihnkijeefkefaaGreatLH
import Derived.Test.YtihnkijeefkefaaGreatLI
set_option linter.unusedSimpArgs false
set_option linter.unusedVariables false
set_option linter.unusedSectionVars false
set_option linter.unnecessarySimpa false
set_option maxRecDepth 100000
namespace Go.Proofs.YtihnkijeefkefaaGreat
open Go.RowKit

attribute [local go_sem] Program.isFuncB Program.isSliceB

variable {w w' w'' w0 : World}

/-- bytes that were handed in -/
theorem bytes_of {n : Nat} {v : Value} {d : Dt} (h : Rd Tryz.prog w n 22 [v] d) : ∃ bs : List Nat, Reads w v 1 bs.length (u8s bs) ∧ (∀ b ∈ bs, b < 256) ∧ bs.length ≤ maxLen := by
  obtain ⟨zs, -, hr, hz, hm⟩ := Rd.reads (v := v) Tryz.underlying22 Tryz.underlying5 (by kernel_rfl) h
  have hp : ∀ z ∈ zs, 0 ≤ z ∧ z < 256 := fun z h => by
    have h1 : IntKind.u8.min ≤ z ∧ z ≤ IntKind.u8.max := by simpa [Lit.wf] using hz z h
    have h2 : IntKind.u8.min = 0 := by decide
    have h3 : IntKind.u8.max = 255 := by decide
    omega
  refine ⟨zs.map Int.toNat, ?_, fun b hb => ?_, by simpa using hm⟩
  · have e : u8s (zs.map Int.toNat) = zs.map (.int .u8) := by
      unfold u8s
      rw [List.map_map]
      refine List.map_congr_left fun z h => ?_
      have := hp z h
      simp only [Function.comp]
      rw [Int.toNat_of_nonneg this.1]
    rw [e, List.length_map]
    exact hr
  · obtain ⟨z, h, rfl⟩ := List.mem_map.1 hb
    have := hp z h
    omega
end Go.Proofs.YtihnkijeefkefaaGreat

namespace Go.Proofs.YtihnkijeefkefaaGreat

/-! ### Get is Put's inverse, and Put is Get's -/
end Go.Proofs.YtihnkijeefkefaaGreat

namespace Go.Proofs.YtihnkijeefkefaaGreat
open Go.RowKit

attribute [local go_sem] Program.isFuncB Program.isSliceB

variable {w w' w'' w0 : World}

end Go.Proofs.YtihnkijeefkefaaGreat

namespace Go.Proofs.YtihnkijeefkefaaGreat
open Go.RowKit

attribute [local go_sem] Program.isFuncB Program.isSliceB

variable {w w' w'' w0 : World}

end Go.Proofs.YtihnkijeefkefaaGreat

namespace Go.Proofs.YtihnkijeefkefaaGreat
open Go.RowKit

attribute [local go_sem] Program.isFuncB Program.isSliceB

variable {w w' w'' w0 : World}

/-! ### what is joined is split as it was -/
end Go.Proofs.YtihnkijeefkefaaGreat

namespace Go.Proofs.YtihnkijeefkefaaGreat
open Go.RowKit

attribute [local go_sem] Program.isFuncB Program.isSliceB

variable {w w' w'' w0 : World}

/-! ### what is split is joined as it was; where it may be cut -/
end Go.Proofs.YtihnkijeefkefaaGreat

namespace Go.Proofs.YtihnkijeefkefaaGreat
open Go.RowKit

attribute [local go_sem] Program.isFuncB Program.isSliceB

variable {w w' w'' w0 : World}

end Go.Proofs.YtihnkijeefkefaaGreat

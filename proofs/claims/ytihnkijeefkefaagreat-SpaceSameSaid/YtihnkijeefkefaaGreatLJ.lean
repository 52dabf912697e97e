import Derived.Test.YtihnkijeefkefaaGreatLH
import Derived.Test.YtihnkijeefkefaaGreatLG
set_option linter.unusedSimpArgs false
set_option linter.unusedVariables false
set_option linter.unusedSectionVars false
set_option linter.unnecessarySimpa false
set_option maxRecDepth 100000
namespace Go.Proofs.YtihnkijeefkefaaGreat
open Go.RowKit

attribute [local go_sem] Program.isFuncB Program.isSliceB

variable {w w' w'' w0 : World}

theorem le_lt (x : Nat) : ∀ (n : Nat), ∀ b ∈ le x n, b < 256
  | 0, b, h => by simp [le] at h
  | n + 1, b, h => by
    simp only [le, List.mem_append, List.mem_singleton] at h
    rcases h with h | rfl
    · exact le_lt x n b h
    · omega
end Go.Proofs.YtihnkijeefkefaaGreat

namespace Go.Proofs.YtihnkijeefkefaaGreat
open Go.RowKit

attribute [local go_sem] Program.isFuncB Program.isSliceB

variable {w w' w'' w0 : World}

end Go.Proofs.YtihnkijeefkefaaGreat

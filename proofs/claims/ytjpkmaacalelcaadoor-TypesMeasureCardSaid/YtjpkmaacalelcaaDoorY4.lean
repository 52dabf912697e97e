/- The document's Promote, Common, Convert; Integer of both (law24). -/
import Derived.Test.YtjpkmaacalelcaaDoorY3
import Derived.Test.YtjpkmaacalelcaaDoorY2
set_option linter.unusedSimpArgs false
set_option linter.unusedVariables false
set_option linter.unusedSectionVars false
set_option linter.unnecessarySimpa false
namespace Go.Proofs.YtjpkmaacalelcaaDoor
open Go.RowKit Go.Ty

attribute [local go_sem] Program.isFuncB Program.isSliceB

variable {w w' w'' w0 : World}

theorem bytesN_pos (b : Int) : (((bytesN b : Nat) : Int) == 0) = (!isInt b) := by
  cases h : isInt b
  · simp [(bytesN_zero b).2 h]
  · have : bytesN b ≠ 0 := fun e => by rw [(bytesN_zero b).1 e] at h; cases h
    simp [this]
end Go.Proofs.YtjpkmaacalelcaaDoor

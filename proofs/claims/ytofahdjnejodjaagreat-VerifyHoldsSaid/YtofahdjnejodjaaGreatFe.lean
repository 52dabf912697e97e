/- flow.leaders. -/
import Derived.Test.YtofahdjnejodjaaGreatFd
set_option linter.unusedSimpArgs false
set_option linter.unusedVariables false
set_option linter.unusedSectionVars false
set_option linter.unnecessarySimpa false
namespace Go.Proofs.YtofahdjnejodjaaGreat
open Go.RowKit Go.Flow

attribute [local go_sem] Program.isFuncB Program.isSliceB

variable {w w' w'' w0 : World}

theorem ints_snoc (l : List Nat) (x : Nat) : ints (nats (l ++ [x])) = ints (nats l) ++ [.int .i64 x] := by simp [ints, nats]
theorem rawHeads_next (l : List Fi) (k : Nat) (hk : k < l.length) : rawHeads l (k + 1) = rawHeads l k ++ rawOf l l[k] k := by
  conv => lhs; unfold rawHeads
  rw [List.getElem?_eq_getElem hk]

end Go.Proofs.YtofahdjnejodjaaGreat

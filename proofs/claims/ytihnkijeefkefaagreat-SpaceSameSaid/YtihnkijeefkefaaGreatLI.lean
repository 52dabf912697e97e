import Derived.Test.YtihnkijeefkefaaGreatLG
import Derived.Test.YtihnkijeefkefaaGreatLD
set_option linter.unusedSimpArgs false
set_option linter.unusedVariables false
set_option linter.unusedSectionVars false
set_option linter.unnecessarySimpa false
set_option maxRecDepth 100000
namespace Go.Proofs.YtihnkijeefkefaaGreat

/-! ### what is put is got, and what is got is put (plain) -/
/-- how many registers -/
def kc (s : List UInt8) : Nat := (s.filter fun c => regB c.toNat).length
end Go.Proofs.YtihnkijeefkefaaGreat

namespace Go.Proofs.YtihnkijeefkefaaGreat

/-! ### what is got is put as it was (plain) -/
def rng (z : Int) : Prop := -9223372036854775808 ≤ z ∧ z < 9223372036854775808
end Go.Proofs.YtihnkijeefkefaaGreat

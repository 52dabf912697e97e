/- SureLeast, its arguments opened (law11). -/
import Derived.Test.YtofahdjnejodjaaS14
set_option linter.unusedSimpArgs false
set_option linter.unusedVariables false
set_option linter.unusedSectionVars false
set_option linter.unnecessarySimpa false
namespace Go.Proofs.Ytofahdjnejodjaa
open Go.RowKit Go.Flow Go.Sure

attribute [local go_sem] Program.isFuncB Program.isSliceB

variable {w w' w'' w0 : World}

theorem least11_rd (w : World) (v : Value) {n : Nat} {d : Dt} (h : Rd Try.prog w n 25 [v] d) (p r : Int) :
    Calls Try.prog 5 #[v, .int .i64 p, .int .i64 r] w fun e w' => e = .returned (.bool true) ∧ Fr no w w' := by
  obtain ⟨sa, c, is, rfl, h1, h2, h3, h4⟩ := code_of h
  exact least11_ok w sa c is p r h1 h2 h3 h4

end Go.Proofs.Ytofahdjnejodjaa

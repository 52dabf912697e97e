/- The document's numbers of a base (law24). -/
import Derived.Test.YtjpkmaacalelcaaDoorY1
import Derived.Deep.CutBlock
set_option linter.unusedSimpArgs false
set_option linter.unusedVariables false
set_option linter.unusedSectionVars false
set_option linter.unnecessarySimpa false
namespace Go.Proofs.YtjpkmaacalelcaaDoor
open Go.RowKit Go.Ty

attribute [local go_sem] Program.isFuncB Program.isSliceB

variable {w w' w'' w0 : World}

def bytesN (b : Int) : Nat := if isInt b = true then sizeN b else 0
theorem bytes_ok (w : World) (b : Int) : Calls Tryd.prog 58 #[.int .i64 b] w fun e w' => e = .returned (.int .i64 (bytesN b : Nat)) ∧ w = w' := by
  by_cases hb : 1 ≤ b ∧ b ≤ 8
  · rcases isInt_cases hb with rfl | rfl | rfl | rfl | rfl | rfl | rfl | rfl
    all_goals
      clear hb
      go_enter Tryd.func58, Tryd.ntmps58
      go_wp2_with fail
      go_ret
      exact ⟨rfl, rfl⟩
  · have hi : isInt b = false := by unfold isInt; by_cases h1 : 1 ≤ b <;> simp [h1]; omega
    have HR : Hid (bytesN b = 0) := Lib.hid (by unfold bytesN; rw [hi]; rfl)
    generalize bytesN b = r at *
    clear hi
    by_cases h1 : b < 1
    · go_enter Tryd.func58, Tryd.ntmps58
      go_wp2_with fail
      go_ret
      exact ⟨by rw [HR.out]; rfl, rfl⟩
    · have h8 : 8 < b := by omega
      clear hb
      go_enter Tryd.func58, Tryd.ntmps58
      go_wp2_with fail
      go_ret
      exact ⟨by rw [HR.out]; rfl, rfl⟩
theorem bytesN_zero (b : Int) : bytesN b = 0 ↔ isInt b = false := by
  unfold bytesN
  cases h : isInt b
  · simp
  · have hb : 1 ≤ b ∧ b ≤ 8 := by unfold isInt at h; simpa using h
    rcases isInt_cases hb with rfl | rfl | rfl | rfl | rfl | rfl | rfl | rfl <;> simp [sizeN]

end Go.Proofs.YtjpkmaacalelcaaDoor

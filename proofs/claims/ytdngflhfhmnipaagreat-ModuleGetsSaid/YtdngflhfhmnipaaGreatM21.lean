/- ModuleKnown's walk. -/
import Derived.Test.YtdngflhfhmnipaaGreatM20
set_option linter.unusedSimpArgs false
set_option linter.unusedVariables false
set_option linter.unusedSectionVars false
set_option linter.unnecessarySimpa false
namespace Go.Proofs.YtdngflhfhmnipaaGreat
open Go.RowKit

attribute [local go_sem] Program.isFuncB Program.isSliceB

variable {w w' w'' w0 : World}

theorem wpList_guarded {P : Program} {ops : Array Oper} {Q : Exit → Act → World → Prop} {a : Act} {w : World} {rest : List Oper} {o : Oper} (hw : Region.wanted o (yielded ops a.tmps) = true)
    (h : ∀ K : Act → World → Prop, (∀ a w, wpList P ops Q rest a w → K a w) → o.wp P a w K Q) : wpList P ops Q (o :: rest) a w := by
  unfold wpList
  rw [if_pos hw]
  exact .inl (h _ (fun a w h => h))
theorem form_owns {base : Nat} {e : TypeId} {v : Value} {bs : List Nat} (h : w.ownsRow base e 1 v bs.length (u8s bs)) : (v = .slice none 0 0 ∧ bs = []) ∨ ∃ b o c, v = .slice (some ⟨b, o, none⟩) bs.length c := by
  rcases h.2 with ⟨rfl, h0⟩ | ⟨g, cap, cur, rfl, -⟩
  · exact .inl ⟨rfl, List.length_eq_zero_iff.1 h0⟩
  · exact .inr ⟨g, 0, cap, rfl⟩
theorem k_1 : getM [84] = (⟨[], []⟩, 4, 1) := by kernel_rfl
theorem k_2 : getM [85] = (⟨[], []⟩, 10, 0) := by kernel_rfl
theorem k_3 : getM [84, 87, 1, 0, 0, 0] = (⟨[], []⟩, 2, 5) := by kernel_rfl
theorem k_4 : getM (echoBs ++ [9]) = (⟨[], []⟩, 4, 16) := by kernel_rfl
theorem k_5 : getM [84, 87, 1, 1, 32] = (⟨[], []⟩, 3, 3) := by kernel_rfl
theorem c_1 : modCk ⟨[], []⟩ = 2 := by kernel_rfl
theorem c_2 : modCk (echoX 0 0) = 5 := by kernel_rfl
theorem c_3 : modCk (echoX 2 1) = 2 := by kernel_rfl
end Go.Proofs.YtdngflhfhmnipaaGreat

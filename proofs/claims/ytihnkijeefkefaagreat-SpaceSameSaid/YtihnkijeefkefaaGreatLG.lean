import Derived.Test.YtihnkijeefkefaaGreatLF
set_option linter.unusedSimpArgs false
set_option linter.unusedVariables false
set_option linter.unusedSectionVars false
set_option linter.unnecessarySimpa false
set_option maxRecDepth 100000
namespace Go.Proofs.YtihnkijeefkefaaGreat
open Go.RowKit

attribute [local go_sem] Program.isFuncB Program.isSliceB

variable {w w' w'' w0 : World}

end Go.Proofs.YtihnkijeefkefaaGreat

namespace Go.Proofs.YtihnkijeefkefaaGreat
open Go.RowKit

attribute [local go_sem] Program.isFuncB Program.isSliceB

variable {w w' w'' w0 : World}

/-! ### Get at any place, and what it tells -/
/-! ### what bytes are split into -/
end Go.Proofs.YtihnkijeefkefaaGreat

namespace Go.Proofs.YtihnkijeefkefaaGreat
open Go.RowKit

attribute [local go_sem] Program.isFuncB Program.isSliceB

variable {w w' w'' w0 : World}

/-! ### instructions in an array of the call's own -/
def cellsOf (l : List (Ix × Value)) : List Value := l.flatMap (fun p => p.1.cells p.2)
theorem cellsOf_snoc (l : List (Ix × Value)) (p : Ix × Value) : cellsOf (l ++ [p]) = cellsOf l ++ p.1.cells p.2 := by simp [cellsOf]
theorem Tryz.infoIns3 : (Tryz.prog.info? 112).map (fun i => (i.zero, i.size, i.bytes)) = some (some (.agg zeroIns), 6, 64) := by kernel_rfl
theorem reads_six (w : World) (a0 a1 a2 a3 a4 a5 : Value) (e : TypeId) : Reads (w.alloc (.cells #[a0, a1, a2, a3, a4, a5] e)) (.slice (some ⟨w.heap.size, 0, none⟩) 1 1) 6 1 [a0, a1, a2, a3, a4, a5] := by
  refine .inr ⟨_, 1, rfl, Nat.le_refl _, by unfold maxLen; omega, rfl, fun j u hu => ?_⟩
  rw [Addr.add_lit]
  refine cell_of_heap (heap_new w _) ?_
  rw [Nat.zero_add]
  simpa using hu
theorem six_one (o A B C N : Int) (l : Nat) (ua : Option Addr) (uc : Nat) (_ : Unit) : ∀ v ∈ [Value.int .i64 o, .int .i64 A, .int .i64 B, .int .i64 C, .int .i64 N, .slice ua l uc], v.oneCell' = true := by
  intro v hv
  simp only [List.mem_cons, List.not_mem_nil, or_false] at hv
  rcases hv with rfl | rfl | rfl | rfl | rfl | rfl <;> rfl
section
variable {wr wr' : World} {x y x' y' : Value} {l : List (Ix × Value)} {ps : List Int}
end

end Go.Proofs.YtihnkijeefkefaaGreat

namespace Go.Proofs.YtihnkijeefkefaaGreat
open Go.RowKit

attribute [local go_sem] Program.isFuncB Program.isSliceB

variable {w w' w'' w0 : World}

end Go.Proofs.YtihnkijeefkefaaGreat

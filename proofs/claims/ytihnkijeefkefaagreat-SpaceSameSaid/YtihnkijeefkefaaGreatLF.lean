import Derived.Test.YtihnkijeefkefaaGreatLE
import Derived.Defers
set_option linter.unusedSimpArgs false
set_option linter.unusedVariables false
set_option linter.unusedSectionVars false
set_option linter.unnecessarySimpa false
set_option maxRecDepth 100000
namespace Go.Proofs.YtihnkijeefkefaaGreat
open Go.RowKit

attribute [local go_sem] Program.isFuncB Program.isSliceB

variable {w w' w'' w0 : World}

end Go.Proofs.YtihnkijeefkefaaGreat

namespace Go.Proofs.YtihnkijeefkefaaGreat
open Go.RowKit

attribute [local go_sem] Program.isFuncB Program.isSliceB

variable {w w' w'' w0 : World}

theorem elem_ne {a b : Nat} {c1 c2 : Array Value} {t1 t2 : TypeId} (h1 : w.heap[a]? = some (.cells c1 t1 (0, 0))) (h2 : w.heap[b]? = some (.cells c2 t2 (0, 0))) (h : t1 ≠ t2) : a ≠ b := by
  rintro rfl
  rw [h1] at h2
  simp at h2
  exact h h2.2

def zeroIns : Array Value := #[.int .i64 0, .int .i64 0, .int .i64 0, .int .i64 0, .int .i64 0, .slice none 0 0]

end Go.Proofs.YtihnkijeefkefaaGreat

namespace Go.Proofs.YtihnkijeefkefaaGreat
open Go.RowKit

attribute [local go_sem] Program.isFuncB Program.isSliceB

variable {w w' w'' w0 : World}

/-! ### which instruction bytes are -/
structure GS where
  A : Int
  B : Int
  C : Int
  N : Int
  k : Nat
  many : Nat
  p : Nat × Bool
end Go.Proofs.YtihnkijeefkefaaGreat

namespace Go.Proofs.YtihnkijeefkefaaGreat
open Go.RowKit

attribute [local go_sem] Program.isFuncB Program.isSliceB

variable {w w' w'' w0 : World}

end Go.Proofs.YtihnkijeefkefaaGreat

namespace Go.Proofs.YtihnkijeefkefaaGreat
open Go.RowKit

attribute [local go_sem] Program.isFuncB Program.isSliceB

variable {w w' w'' w0 : World}

section
variable {wr wr' : World} {it k o : Nat} {s : ByteArray} {g : GS} {p p' : Nat × Bool} {bv : Value} {bs : List Nat}
end

end Go.Proofs.YtihnkijeefkefaaGreat

namespace Go.Proofs.YtihnkijeefkefaaGreat
open Go.RowKit

attribute [local go_sem] Program.isFuncB Program.isSliceB

variable {w w' w'' w0 : World}

end Go.Proofs.YtihnkijeefkefaaGreat

namespace Go.Proofs.YtihnkijeefkefaaGreat
open Go.RowKit

attribute [local go_sem] Program.isFuncB Program.isSliceB

variable {w w' w'' w0 : World}

/-! ### plain facts of reading on -/
end Go.Proofs.YtihnkijeefkefaaGreat

namespace Go.Proofs.YtihnkijeefkefaaGreat
open Go.RowKit

attribute [local go_sem] Program.isFuncB Program.isSliceB

variable {w w' w'' w0 : World}

section
variable {wr wr' : World} {x0 : Nat} {g : GS} {rv av rv' av' : Value} {r l : List Int}
end

end Go.Proofs.YtihnkijeefkefaaGreat

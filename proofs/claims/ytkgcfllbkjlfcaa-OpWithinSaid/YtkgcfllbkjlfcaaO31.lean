import Derived.Test.YtkgcfllbkjlfcaaO29
import Derived.Test.YtkgcfllbkjlfcaaO30
namespace Go.Proofs.Ytkgcfllbkjlfcaa
open Go.RowKit
variable {w w' w'' w0 : World}
theorem opwithin_rd (w : World) (s0 : Array Value) {n : Nat} {d : Dt} (h : Rd Try.prog w n 30 s0.toList d) (regs area more wider : Int)
    (h1 : (Lit.int .i64 regs).wf = true) (h2 : (Lit.int .i64 area).wf = true) (h3 : (Lit.int .i64 more).wf = true) (h4 : (Lit.int .i64 wider).wf = true) :
    Calls Try.prog 7 #[.agg s0, .int .i64 regs, .int .i64 area, .int .i64 more, .int .i64 wider] w fun e w' => e = .returned (.bool true) ∧ Fr no w w' := by
  obtain ⟨o, A, B, C, N, u, l, hs, hr, hm, -⟩ := ins_of h
  obtain rfl : s0 = #[.int .i64 o, .int .i64 A, .int .i64 B, .int .i64 C, .int .i64 N, u] := Array.ext' hs
  exact opwithin_ok w o A B C N regs area more wider u l hr (by unfold maxLen at hm; exact hm) h1 h2 h3 h4
end Go.Proofs.Ytkgcfllbkjlfcaa

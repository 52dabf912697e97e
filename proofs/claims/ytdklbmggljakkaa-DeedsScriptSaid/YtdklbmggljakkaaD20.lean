import Derived.Test.YtdklbmggljakkaaD19
set_option linter.unusedSimpArgs false
set_option linter.unusedVariables false
set_option linter.unusedSectionVars false
set_option linter.unnecessarySimpa false
namespace Go.Proofs.Ytdklbmggljakkaa
open Go.RowKit

theorem u8s_of (zs : List Int) (h : ∀ z ∈ zs, (Lit.int .u8 z).wf = true) : u8s (zs.map Int.toNat) = zs.map (.int .u8) ∧ ∀ x ∈ zs.map Int.toNat, x < 256 := by
  have hr : ∀ z ∈ zs, 0 ≤ z ∧ z ≤ 255 := fun z hz => by
    have h1 : IntKind.u8.min ≤ z ∧ z ≤ IntKind.u8.max := by simpa [Lit.wf] using h z hz
    have h2 : IntKind.u8.min = 0 := by decide
    have h3 : IntKind.u8.max = 255 := by decide
    omega
  constructor
  · unfold u8s
    rw [List.map_map]
    refine List.map_congr_left fun z hz => ?_
    have := hr z hz
    simp only [Function.comp]
    congr 1
    omega
  · intro x hx
    obtain ⟨z, hz, rfl⟩ := List.mem_map.1 hx
    have := hr z hz
    omega

theorem script_args (w : World) (v0 : Value) (zs : List Int) (h0 : Reads w v0 1 zs.length (zs.map (.int .u8)) ∧ (∀ z ∈ zs, (Lit.int .u8 z).wf = true) ∧ zs.length * Try.prog.bytesOf 5 ≤ reachBytes) (o0 : ∀ k, v0.ownBlock = some k → k < w.heap.size)
    (v1 : Value) (ps : List Bool) (h1 : Reads w v1 1 ps.length (ps.map .bool) ∧ ps.length * Try.prog.bytesOf 4 ≤ reachBytes)
    (v2 : Value) (ls : List Int) (h2 : Reads w v2 1 ls.length (ls.map (.int .i64)) ∧ (∀ z ∈ ls, (Lit.int .i64 z).wf = true) ∧ ls.length * Try.prog.bytesOf 3 ≤ reachBytes) :
    Calls Try.prog 3 #[v0, v1, v2] w fun e w' => e = .returned (.bool true) ∧ Fr no w w' := by
  have b5 : Try.prog.bytesOf 5 = 1 := by kernel_rfl
  have b4 : Try.prog.bytesOf 4 = 1 := by kernel_rfl
  have b3 : Try.prog.bytesOf 3 = 8 := by kernel_rfl
  have hR : reachBytes = 140737488351232 := rfl
  obtain ⟨e1, e2⟩ := u8s_of zs h0.2.1
  have l0 := h0.2.2
  have l1 := h1.2
  have l2 := h2.2.2
  rw [b5, hR] at l0
  rw [b4, hR] at l1
  rw [b3, hR] at l2
  refine deedsscript_ok w v0 (zs.map Int.toNat) (by rw [e1, List.length_map]; exact h0.1) e2 (by rw [List.length_map]; omega) o0 v1 ps h1.1 (by omega) v2 ls h2.1 (fun z hz => ?_) (by omega)
  have q1 : IntKind.i64.min ≤ z ∧ z ≤ IntKind.i64.max := by simpa [Lit.wf] using h2.2.1 z hz
  have q2 : IntKind.i64.min = -9223372036854775808 := by decide
  have q3 : IntKind.i64.max = 9223372036854775807 := by decide
  omega

end Go.Proofs.Ytdklbmggljakkaa

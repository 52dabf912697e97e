import Derived.Test.YtdklbmggljakkaaD16
set_option linter.unusedSimpArgs false
set_option linter.unusedVariables false
set_option linter.unusedSectionVars false
set_option linter.unnecessarySimpa false
namespace Go.Proofs.Ytdklbmggljakkaa
open Go.RowKit

attribute [local go_sem] Program.isFuncB Program.isSliceB

variable {w w' w'' w0 : World}

set_option maxRecDepth 100000 in
set_option maxHeartbeats 4000000 in
theorem deedsnone_ok (w : World) (b : Int) : Calls Try.prog 4 #[.int .i64 b] w fun e w' => e = .returned (.bool true) ∧ Fr no w w' := by
  have HO := Lib.hid (heap_new2 w (.cells #[.bool false, .slice none 0 0, .int .i64 0, .slice none 0 0] 45) (.cells #[.pointer none, .pointer (some ⟨w.heap.size, 0, none⟩)] 26))
  have HR := Lib.hid (heap_new2' w (.cells #[.bool false, .slice none 0 0, .int .i64 0, .slice none 0 0] 45) (.cells #[.pointer none, .pointer (some ⟨w.heap.size, 0, none⟩)] 26))
  have R0 := Lib.hid (((Fr.refl no w).alloc (.cells #[.bool false, .slice none 0 0, .int .i64 0, .slice none 0 0] 45)).alloc (.cells #[.pointer none, .pointer (some ⟨w.heap.size, 0, none⟩)] 26))
  go_enter Try.func4, Try.ntmps4
  go_wp2_with fail
  generalize (w.alloc (.cells #[.bool false, .slice none 0 0, .int .i64 0, .slice none 0 0] 45)).alloc (.cells #[.pointer none, .pointer (some ⟨w.heap.size, 0, none⟩)] 26) = w1 at *
  go_loopw [4] (fun x wr => ∃ k : Nat, k ≤ 2 ∧ x = .int .i64 k ∧ Hid (wr.heap[w.heap.size]? = some (.cells #[.bool false, .slice none 0 0, .int .i64 0, .slice none 0 0] 45 (0, 0)) ∧ wr.heap[w.heap.size + 1]? = some (.cells #[.pointer none, .pointer (some ⟨w.heap.size, 0, none⟩)] 26 (0, 0))) ∧ Hid (Fr no w wr)) (fun x _ => ((2 : Int) - intOf x).toNat)
  case atStart => exact ⟨0, by omega, rfl, Lib.hid ⟨HO.out, HR.out⟩, R0⟩
  case round =>
    obtain ⟨k, hk, rfl, hh, hf⟩ := hrel
    by_cases hks : k < 2
    · obtain ⟨v, hv, hN⟩ : ∃ v, wr.cell? ⟨w.heap.size + 1, 0 + k, none⟩ = some v ∧ NoT wr v := by
        rcases (by omega : k = 0 ∨ k = 1) with rfl | rfl
        · exact ⟨_, cell_of_heap hh.out.2 rfl, .inl rfl⟩
        · exact ⟨_, cell_of_heap hh.out.2 rfl, .inr ⟨_, _, _, _, rfl, hh.out.1⟩⟩
      rw [Nat.zero_add] at hv
      have HNN := Lib.hid hN
      clear hN
      go_wp2_with fail
      refine (get_no wr HNN.out).mono ?_
      rintro e w' ⟨rfl, rfl⟩
      go_wp2_with fail
      refine (put_no wr b HNN.out).mono ?_
      rintro e w' ⟨rfl, rfl⟩
      go_wp2_with fail
      refine (deeds_no wr HNN.out).mono ?_
      rintro e w' ⟨rfl, rfl⟩
      go_wp2_with fail
      refine (left_no wr HNN.out).mono ?_
      rintro e w' ⟨rfl, rfl⟩
      go_wp2_with fail
      refine (copy_no wr HNN.out).mono ?_
      rintro e w' ⟨rfl, rfl⟩
      go_wp2_with fail
      go_roundw
      case rel => exact ⟨k + 1, by omega, by go_num, hh, hf⟩
      case measure => first | (simp [intOf]; done) | (simp [intOf]; omega)
    · obtain rfl : k = 2 := by omega
      go_wp2_with fail
      refine (awake_ok wr).mono ?_
      rintro e w' ⟨rfl, r⟩
      go_wp2_with fail
      go_ret
      exact ⟨rfl, hf.out.trans r⟩

end Go.Proofs.Ytdklbmggljakkaa

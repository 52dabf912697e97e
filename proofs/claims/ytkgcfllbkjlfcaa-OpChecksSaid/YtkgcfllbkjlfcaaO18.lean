import Derived.Test.YtkgcfllbkjlfcaaO17
namespace Go.Proofs.Ytkgcfllbkjlfcaa
open Go.RowKit

attribute [local go_sem] Program.isFuncB Program.isSliceB

variable {w w' w'' w0 : World}

theorem number_ok (w : World) (c N area : Int) : Calls Try.prog 44 #[.int .u8 c, .int .i64 N, .int .i64 area] w fun e w' => e = .returned (.bool (numOk c N area)) ∧ w = w' := by
  by_cases h107 : c = 107
  · subst h107
    by_cases q1 : N < 1
    · have HQ : Hid (numOk 107 N area = false) := Lib.hid (by simp [numOk]; omega)
      go_enter Try.func44, Try.ntmps44
      go_wp2_with fail
      go_ret
      exact ⟨by rw [HQ.out]; rfl, rfl⟩
    by_cases q2 : ¬ N ≤ 6
    · have HQ : Hid (numOk 107 N area = false) := Lib.hid (by simp [numOk]; omega)
      go_enter Try.func44, Try.ntmps44
      go_wp2_with fail
      go_ret
      exact ⟨by rw [HQ.out]; rfl, rfl⟩
    · have HQ : Hid (numOk 107 N area = true) := Lib.hid (by simp [numOk]; omega)
      go_enter Try.func44, Try.ntmps44
      go_wp2_with fail
      go_ret
      exact ⟨by rw [HQ.out]; rfl, rfl⟩
  by_cases h109 : c = 109
  · subst h109
    by_cases q1 : N < 1
    · have HQ : Hid (numOk 109 N area = false) := Lib.hid (by simp [numOk]; omega)
      go_enter Try.func44, Try.ntmps44
      go_wp2_with fail
      go_ret
      exact ⟨by rw [HQ.out]; rfl, rfl⟩
    by_cases q2 : ¬ N ≤ 7
    · have HQ : Hid (numOk 109 N area = false) := Lib.hid (by simp [numOk]; omega)
      go_enter Try.func44, Try.ntmps44
      go_wp2_with fail
      go_ret
      exact ⟨by rw [HQ.out]; rfl, rfl⟩
    · have HQ : Hid (numOk 109 N area = true) := Lib.hid (by simp [numOk]; omega)
      go_enter Try.func44, Try.ntmps44
      go_wp2_with fail
      go_ret
      exact ⟨by rw [HQ.out]; rfl, rfl⟩
  by_cases h102 : c = 102
  · subst h102
    by_cases q1 : N < 0
    · have HQ : Hid (numOk 102 N area = false) := Lib.hid (by simp [numOk]; omega)
      go_enter Try.func44, Try.ntmps44
      go_wp2_with fail
      go_ret
      exact ⟨by rw [HQ.out]; rfl, rfl⟩
    by_cases q2 : ¬ N ≤ area
    · have HQ : Hid (numOk 102 N area = false) := Lib.hid (by simp [numOk]; omega)
      go_enter Try.func44, Try.ntmps44
      go_wp2_with fail
      go_ret
      exact ⟨by rw [HQ.out]; rfl, rfl⟩
    · have HQ : Hid (numOk 102 N area = true) := Lib.hid (by simp [numOk]; omega)
      go_enter Try.func44, Try.ntmps44
      go_wp2_with fail
      go_ret
      exact ⟨by rw [HQ.out]; rfl, rfl⟩
  by_cases h100 : c = 100
  · subst h100
    by_cases q1 : N < 0
    · have HQ : Hid (numOk 100 N area = false) := Lib.hid (by simp [numOk]; omega)
      go_enter Try.func44, Try.ntmps44
      go_wp2_with fail
      go_ret
      exact ⟨by rw [HQ.out]; rfl, rfl⟩
    by_cases q2 : ¬ N ≤ 8192
    · have HQ : Hid (numOk 100 N area = false) := Lib.hid (by simp [numOk]; omega)
      go_enter Try.func44, Try.ntmps44
      go_wp2_with fail
      go_ret
      exact ⟨by rw [HQ.out]; rfl, rfl⟩
    · have HQ : Hid (numOk 100 N area = true) := Lib.hid (by simp [numOk]; omega)
      go_enter Try.func44, Try.ntmps44
      go_wp2_with fail
      go_ret
      exact ⟨by rw [HQ.out]; rfl, rfl⟩
  by_cases h116 : c = 116
  · subst h116
    by_cases q1 : N < 0
    · have HQ : Hid (numOk 116 N area = false) := Lib.hid (by simp [numOk]; omega)
      go_enter Try.func44, Try.ntmps44
      go_wp2_with fail
      go_ret
      exact ⟨by rw [HQ.out]; rfl, rfl⟩
    by_cases q2 : ¬ N ≤ 4095
    · have HQ : Hid (numOk 116 N area = false) := Lib.hid (by simp [numOk]; omega)
      have q3 : ¬ N < 4096 := by omega
      go_enter Try.func44, Try.ntmps44
      go_wp2_with fail
      go_ret
      exact ⟨by rw [HQ.out]; rfl, rfl⟩
    · have HQ : Hid (numOk 116 N area = true) := Lib.hid (by simp [numOk]; omega)
      have q3 : N < 4096 := by omega
      go_enter Try.func44, Try.ntmps44
      go_wp2_with fail
      go_ret
      exact ⟨by rw [HQ.out]; rfl, rfl⟩
  by_cases h99 : c = 99
  · subst h99
    by_cases q1 : N < 0
    · have HQ : Hid (numOk 99 N area = false) := Lib.hid (by simp [numOk]; omega)
      go_enter Try.func44, Try.ntmps44
      go_wp2_with fail
      go_ret
      exact ⟨by rw [HQ.out]; rfl, rfl⟩
    by_cases q2 : ¬ N ≤ 63
    · have HQ : Hid (numOk 99 N area = false) := Lib.hid (by simp [numOk]; omega)
      have q3 : ¬ N < 64 := by omega
      go_enter Try.func44, Try.ntmps44
      go_wp2_with fail
      go_ret
      exact ⟨by rw [HQ.out]; rfl, rfl⟩
    · have HQ : Hid (numOk 99 N area = true) := Lib.hid (by simp [numOk]; omega)
      have q3 : N < 64 := by omega
      go_enter Try.func44, Try.ntmps44
      go_wp2_with fail
      go_ret
      exact ⟨by rw [HQ.out]; rfl, rfl⟩
  by_cases h122 : c = 122
  · subst h122
    by_cases z1 : N = 1
    · subst z1
      have HQ : Hid (numOk 122 1 area = true) := Lib.hid rfl
      go_enter Try.func44, Try.ntmps44
      go_wp2_with fail
      go_ret
      exact ⟨by rw [HQ.out]; rfl, rfl⟩
    by_cases z2 : N = 2
    · subst z2
      have HQ : Hid (numOk 122 2 area = true) := Lib.hid rfl
      go_enter Try.func44, Try.ntmps44
      go_wp2_with fail
      go_ret
      exact ⟨by rw [HQ.out]; rfl, rfl⟩
    by_cases z4 : N = 4
    · subst z4
      have HQ : Hid (numOk 122 4 area = true) := Lib.hid rfl
      go_enter Try.func44, Try.ntmps44
      go_wp2_with fail
      go_ret
      exact ⟨by rw [HQ.out]; rfl, rfl⟩
    by_cases z8 : N = 8
    · subst z8
      have HQ : Hid (numOk 122 8 area = true) := Lib.hid rfl
      go_enter Try.func44, Try.ntmps44
      go_wp2_with fail
      go_ret
      exact ⟨by rw [HQ.out]; rfl, rfl⟩
    have HQ : Hid (numOk 122 N area = false) := Lib.hid (by simp [numOk]; omega)
    have y1 : (N == 1) = false := by rw [beq_eq_false_iff_ne]; exact z1
    have y2 : (N == 2) = false := by rw [beq_eq_false_iff_ne]; exact z2
    have y4 : (N == 4) = false := by rw [beq_eq_false_iff_ne]; exact z4
    have y8 : (N == 8) = false := by rw [beq_eq_false_iff_ne]; exact z8
    clear z1 z2 z4 z8
    go_enter Try.func44, Try.ntmps44
    go_wp2_with fail
    go_ret
    exact ⟨by rw [HQ.out]; rfl, rfl⟩
  have HQ : Hid (numOk c N area = true) := Lib.hid (by simp [numOk, h107, h109, h122, h102, h100, h116, h99])
  have e107 : (c == 107) = false := by rw [beq_eq_false_iff_ne]; exact h107
  have e109 : (c == 109) = false := by rw [beq_eq_false_iff_ne]; exact h109
  have e122 : (c == 122) = false := by rw [beq_eq_false_iff_ne]; exact h122
  have e102 : (c == 102) = false := by rw [beq_eq_false_iff_ne]; exact h102
  have e100 : (c == 100) = false := by rw [beq_eq_false_iff_ne]; exact h100
  have e116 : (c == 116) = false := by rw [beq_eq_false_iff_ne]; exact h116
  have e99 : (c == 99) = false := by rw [beq_eq_false_iff_ne]; exact h99
  clear h107 h109 h122 h102 h100 h116 h99
  go_enter Try.func44, Try.ntmps44
  go_wp2_with fail
  go_ret
  exact ⟨by rw [HQ.out]; rfl, rfl⟩

end Go.Proofs.Ytkgcfllbkjlfcaa

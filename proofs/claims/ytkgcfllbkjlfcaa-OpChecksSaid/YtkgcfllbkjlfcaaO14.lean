import Derived.Test.YtkgcfllbkjlfcaaO13
namespace Go.Proofs.Ytkgcfllbkjlfcaa
open Go.RowKit

attribute [local go_sem] Program.isFuncB Program.isSliceB

variable {w w' w'' w0 : World}

def boundsOf (c area : Int) : Int × Int × Bool :=
  if c = 107 then (1, 6, true)
  else if c = 109 then (1, 7, true)
  else if c = 122 then (1, 8, true)
  else if c = 102 then (0, area, true)
  else if c = 100 then (0, 8192, true)
  else if c = 116 then (0, 4095, true)
  else if c = 99 then (0, 63, true)
  else (0, 0, false)

theorem bounds_ok (w : World) (c area : Int) : Calls Try.prog 40 #[.int .i32 c, .int .i64 area] w fun e w' => e = .returned (.tuple #[.int .i64 (boundsOf c area).1, .int .i64 (boundsOf c area).2.1, .bool (boundsOf c area).2.2]) ∧ w = w' := by
  by_cases hl : c = 107 ∨ c = 109 ∨ c = 122 ∨ c = 102 ∨ c = 100 ∨ c = 116 ∨ c = 99
  · rcases hl with rfl | rfl | rfl | rfl | rfl | rfl | rfl
    all_goals
      go_enter Try.func40, Try.ntmps40
      go_wp2_with fail
      go_ret3
      exact ⟨rfl, rfl⟩
  · have HB : Hid (boundsOf c area = (0, 0, false)) := Lib.hid (by
      unfold boundsOf
      rw [if_neg (by omega), if_neg (by omega), if_neg (by omega), if_neg (by omega), if_neg (by omega), if_neg (by omega), if_neg (by omega)])
    have e107 : (c == 107) = false := by rw [beq_eq_false_iff_ne]; omega
    have e109 : (c == 109) = false := by rw [beq_eq_false_iff_ne]; omega
    have e122 : (c == 122) = false := by rw [beq_eq_false_iff_ne]; omega
    have e102 : (c == 102) = false := by rw [beq_eq_false_iff_ne]; omega
    have e100 : (c == 100) = false := by rw [beq_eq_false_iff_ne]; omega
    have e116 : (c == 116) = false := by rw [beq_eq_false_iff_ne]; omega
    have e99 : (c == 99) = false := by rw [beq_eq_false_iff_ne]; omega
    rw [HB.out]
    clear hl
    go_enter Try.func40, Try.ntmps40
    go_wp2_with fail
    go_ret3
    exact ⟨rfl, rfl⟩

end Go.Proofs.Ytkgcfllbkjlfcaa

import Derived.Test.YtdklbmggljakkaaD14
set_option linter.unusedSimpArgs false
set_option linter.unusedVariables false
set_option linter.unusedSectionVars false
set_option linter.unnecessarySimpa false
namespace Go.Proofs.Ytdklbmggljakkaa
open Go.RowKit

attribute [local go_sem] Program.isFuncB Program.isSliceB

variable {w w' w'' w0 : World}

/-- a tape that is none -/
def NoT (w : World) (v : Value) : Prop := v = .pointer none ∨ ∃ t x y z, v = .pointer (some ⟨t, 0, none⟩) ∧ w.heap[t]? = some (.cells #[.bool false, x, y, z] 45 (0, 0))
theorem NoT.fr {v : Value} (h : NoT w v) (r : Fr no w w') : NoT w' v := by
  rcases h with h | ⟨t, x, y, z, h, k⟩
  · exact .inl h
  · exact .inr ⟨t, x, y, z, h, r.heap k (by simp)⟩
theorem none_no {v : Value} (w : World) (h : NoT w v) : Calls Try.prog 41 #[v] w fun e w' => e = .returned (.bool true) ∧ w = w' := by
  rcases h with rfl | ⟨t, x, y, z, rfl, h⟩
  · exact none_nil w
  · exact none_at w t false x y z h
theorem asked_no {v : Value} (w : World) (h : NoT w v) : Calls Try.prog 40 #[v] w fun e w' => e = .returned (.int .i64 1) ∧ w = w' := by
  have C := Lib.hid (none_no w h)
  clear h
  go_enter Try.func40, Try.ntmps40
  go_wp2_with fail
  refine C.out.mono ?_
  rintro e w' ⟨rfl, rfl⟩
  go_wp2_with fail
  go_ret
  exact ⟨rfl, rfl⟩
theorem get_no {v : Value} (w : World) (h : NoT w v) : Calls Try.prog 16 #[v] w fun e w' => e = .returned (.tuple #[.int .i64 0, .int .i64 1]) ∧ w = w' := by
  have C := Lib.hid (asked_no w h)
  clear h
  go_enter Try.func16, Try.ntmps16
  go_wp2_with fail
  refine C.out.mono ?_
  rintro e w' ⟨rfl, rfl⟩
  go_wp2_with fail
  go_ret2
  exact ⟨rfl, rfl⟩
theorem put_no {v : Value} (w : World) (b : Int) (h : NoT w v) : Calls Try.prog 14 #[v, .int .i64 b] w fun e w' => e = .returned (.int .i64 1) ∧ w = w' := by
  have C := Lib.hid (asked_no w h)
  clear h
  go_enter Try.func14, Try.ntmps14
  go_wp2_with fail
  refine C.out.mono ?_
  rintro e w' ⟨rfl, rfl⟩
  go_wp2_with fail
  go_ret
  exact ⟨rfl, rfl⟩
theorem deeds_no {v : Value} (w : World) (h : NoT w v) : Calls Try.prog 18 #[v] w fun e w' => e = .returned (.slice none 0 0) ∧ w = w' := by
  have C := Lib.hid (none_no w h)
  clear h
  go_enter Try.func18, Try.ntmps18
  go_wp2_with fail
  refine C.out.mono ?_
  rintro e w' ⟨rfl, rfl⟩
  go_wp2_with fail
  go_ret
  exact ⟨rfl, rfl⟩
theorem left_no {v : Value} (w : World) (h : NoT w v) : Calls Try.prog 20 #[v] w fun e w' => e = .returned (.int .i64 0) ∧ w = w' := by
  have C := Lib.hid (none_no w h)
  clear h
  go_enter Try.func20, Try.ntmps20
  go_wp2_with fail
  refine C.out.mono ?_
  rintro e w' ⟨rfl, rfl⟩
  go_wp2_with fail
  go_ret
  exact ⟨rfl, rfl⟩
theorem copy_no {v : Value} (w : World) (h : NoT w v) : Calls Try.prog 22 #[v] w fun e w' => e = .returned (.pointer none) ∧ w = w' := by
  have C := Lib.hid (none_no w h)
  clear h
  go_enter Try.func22, Try.ntmps22
  go_wp2_with fail
  refine C.out.mono ?_
  rintro e w' ⟨rfl, rfl⟩
  go_wp2_with fail
  go_ret
  exact ⟨rfl, rfl⟩

end Go.Proofs.Ytdklbmggljakkaa

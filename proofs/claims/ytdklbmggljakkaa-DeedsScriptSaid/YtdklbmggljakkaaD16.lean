import Derived.Test.YtdklbmggljakkaaD15
set_option linter.unusedSimpArgs false
set_option linter.unusedVariables false
set_option linter.unusedSectionVars false
set_option linter.unnecessarySimpa false
namespace Go.Proofs.Ytdklbmggljakkaa
open Go.RowKit

attribute [local go_sem] Program.isFuncB Program.isSliceB

variable {w w' w'' w0 : World}

theorem TapeAt.new {base t a : Nat} {inp : List Nat} {l : List Dd} {iv lv : Value} (h : TapeAt w base t inp a l iv lv) : ∀ i, TapeS t lv i → base ≤ i := fun i hi => by
  rcases hi with rfl | hi
  · exact h.bt
  · exact (h.out.lt i hi).1
theorem RefAt.new {base t a : Nat} {inp : List Nat} {l : List Dd} {iv lv : Value} (h : RefAt w base t inp a l iv lv) : ∀ i, TapeS t lv i → base ≤ i := fun i hi => by
  rcases hi with rfl | hi
  · exact h.bt
  · exact (h.out.lt i hi).1
theorem reads_four (w : World) (a0 a1 a2 a3 : Value) (e : TypeId) : Reads (w.alloc (.cells #[a0, a1, a2, a3] e)) (.slice (some ⟨w.heap.size, 0, none⟩) 2 2) 2 2 [a0, a1, a2, a3] := by
  refine .inr ⟨_, 2, rfl, Nat.le_refl _, by unfold maxLen; omega, rfl, fun j u hu => ?_⟩
  rw [Addr.add_lit]
  refine cell_of_heap (heap_new w _) ?_
  rw [Nat.zero_add]
  simpa using hu

set_option maxRecDepth 100000 in
set_option maxHeartbeats 4000000 in
/-- the chapter's examples are answered -/
theorem awake_ok (w : World) : Calls Try.prog 11 #[] w fun e w' => e = .returned (.bool true) ∧ Fr no w w' := by
  have R0 := Lib.hid ((Fr.refl no w).alloc (.cells #[.int .u8 7, .int .u8 8] 5))
  have HN := Lib.hid (owns_reads (owns_row w [.int .u8 7, .int .u8 8] 5 (by simp)))
  have NW := Lib.hid (new_ok (w.alloc (.cells #[.int .u8 7, .int .u8 8] 5)) (.slice (some ⟨w.heap.size, 0, none⟩) 2 2) [7, 8] HN.out (by simp) (by simp))
  go_enter Try.func11, Try.ntmps11
  go_wp2_with fail
  refine NW.out.mono ?_
  rintro e w1 ⟨t, iv, rfl, hT, r1⟩
  have hb0 : w.heap.size ≤ (w.alloc (.cells #[.int .u8 7, .int .u8 8] 5)).heap.size := R0.out.size
  have hb1 := r1.size
  generalize (w.alloc (.cells #[.int .u8 7, .int .u8 8] 5)).heap.size = base at hT hb0 hb1
  have HT1 := Lib.hid hT
  have R1 := Lib.hid (R0.out.trans r1)
  clear hT r1 NW HN
  go_wp2_with fail
  refine (get_ok w1 HT1.out (by simp) (by simp) hb1).mono ?_
  rintro e w2 ⟨l2, rfl, hT, r, -⟩
  have HT2 : Hid (TapeAt w2 base t [7, 8] 1 [(1, 7)] iv l2) := Lib.hid hT
  have R2 := Lib.hid (R1.out.trans' r (fun i hi _ => Nat.le_trans hb0 (HT1.out.new i hi)))
  have hb2 := Nat.le_trans hb1 r.size
  clear hT r
  have hg7 : getB [7, 8] 0 = 7 := rfl
  rw [hg7]
  go_wp2_with fail
  refine (put_ok w2 (-1) HT2.out (by simp) hb2).mono ?_
  rintro e w3 ⟨l3, rfl, hT, r, -⟩
  have HT3 : Hid (TapeAt w3 base t [7, 8] 1 [(1, 7), (2, 255)] iv l3) := Lib.hid hT
  have R3 := Lib.hid (R2.out.trans' r (fun i hi _ => Nat.le_trans hb0 (HT2.out.new i hi)))
  have hb3 := Nat.le_trans hb2 r.size
  clear hT r
  go_wp2_with fail
  have LE : Hid (Calls Try.prog 20 #[.pointer (some ⟨t, 0, none⟩)] w3 fun e w' => e = .returned (.int .i64 1) ∧ Fr no w3 w') := Lib.hid (left_ok w3 HT3.out (by simp))
  refine LE.out.mono ?_
  rintro e w4 ⟨rfl, r⟩
  have HT4 := Lib.hid (HT3.out.fr r)
  have R4 := Lib.hid (R3.out.trans r)
  clear r LE
  go_wp2_with fail
  refine (deeds_ok w4 HT4.out (by simp)).mono ?_
  rintro e w5 ⟨x, rfl, hx, r⟩
  obtain ⟨xa, xc, rfl⟩ := owns_shape hx
  have HX5 := Lib.hid (owns_reads hx)
  have R5 := Lib.hid (R4.out.trans r)
  clear r hx
  go_wp2_with fail
  refine (got_ok w5 7).mono ?_
  rintro e w6 ⟨rfl, r6⟩
  go_wp2_with fail
  refine (putd_ok w6 255).mono ?_
  rintro e w7 ⟨rfl, r7⟩
  have q := (r6.trans r7).alloc (.cells #[.int .i64 1, .int .i64 7, .int .i64 2, .int .i64 255] 59)
  have HX8 := Lib.hid (HX5.out.fr q (by simp))
  have R8 := Lib.hid (R5.out.trans q)
  have HY8 := Lib.hid (reads_four w7 (.int .i64 1) (.int .i64 7) (.int .i64 2) (.int .i64 255) 59)
  clear q r6 r7
  go_wp2_with fail
  refine (samedeeds_ok _ _ _ [(1, 7), (2, 255)] [(1, 7), (2, 255)] HX8.out HY8.out (by simp) (by simp)).mono ?_
  rintro e w9 ⟨rfl, r⟩
  have R9 := Lib.hid (R8.out.trans r)
  clear r
  rw [decide_eq_true (rfl : ([(1, 7), (2, 255)] : List Dd) = [(1, 7), (2, 255)])]
  go_wp2_with fail
  refine (of_ok w9 2 1).mono ?_
  rintro e w10 ⟨rfl, r10⟩
  go_wp2_with fail
  refine (says_trap w10).mono ?_
  rintro e w11 ⟨rfl, r11⟩
  go_wp2_with fail
  refine (of_ok w11 1 256).mono ?_
  rintro e w12 ⟨rfl, r12⟩
  go_wp2_with fail
  refine (check_badend w12 1 256 (by decide)).mono ?_
  rintro e w13 ⟨rfl, r13⟩
  go_wp2_with fail
  go_ret
  exact ⟨rfl, R9.out.trans (r10.trans (r11.trans (r12.trans r13)))⟩

end Go.Proofs.Ytdklbmggljakkaa

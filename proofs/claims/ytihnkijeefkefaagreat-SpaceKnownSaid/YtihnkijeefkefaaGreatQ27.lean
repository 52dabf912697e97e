import Derived.Test.YtihnkijeefkefaaGreatQ26
set_option linter.unusedSimpArgs false
set_option linter.unusedVariables false
set_option linter.unusedSectionVars false
set_option linter.unnecessarySimpa false
set_option maxRecDepth 100000
/- SpaceKnown. -/
namespace Go.Proofs.YtihnkijeefkefaaGreat
open Go.RowKit

attribute [local go_sem] Program.isFuncB Program.isSliceB

variable {w w' w'' w0 : World} {p : Nat} {s s' : Zp}

def tS4 : Zp := (tS3.retS 258).1
def tY : Zp := newS twoM 32 [] 0
theorem tS3_get2 : tS3.getS 2 = (0, 5) := by kernel_rfl
theorem tS3_burn : tS3.burnS 11 = (tS3, 2) := by unfold Zp.burnS; rw [if_neg (by decide), if_pos (by right; decide)]
theorem tS3_call : tS3.callS 1 [] 0 0 = (tS3, 2) := callS_2 (by kernel_rfl) (by kernel_rfl) 0 0
theorem tS3_ret : (tS3.retS 258).2 = 0 := by kernel_rfl
theorem tS4_e : tS4.e = (1, 2) := by kernel_rfl
theorem tS4_set : tS4.setS 0 1 = (tS4, 9) := setS_9 (by rw [tS4_e]; decide) 0 1
theorem tY_e : tY.e = (3, 0) := by kernel_rfl
set_option maxHeartbeats 4000000 in
theorem known15_ok (w : World) : Calls Tryz.prog 4 #[] w fun e w' => e = .returned (.bool true) ∧ Fr no w w' := by
  have HB1 : Hid (newBad twoM 100 0) := Lib.hid (by unfold newBad; rw [two_ck]; omega)
  have HB2 : Hid (¬ newBad twoM 16 0) := Lib.hid (by unfold newBad; rw [two_ck]; omega)
  have HB3 : Hid (¬ newBad twoM (32 : Nat) 0) := Lib.hid (by unfold newBad; rw [two_ck]; omega)
  go_enter Tryz.func4, Tryz.ntmps4
  go_wp2_with fail
  refine (called_ok w).mono ?_
  rintro e w1 ⟨p, rfl, h1⟩
  have H1 := Lib.hid h1
  clear h1
  go_wp2_with fail
  refine (o_ret w1 5 (by decide) H1.out).mono ?_
  rintro e w2 ⟨rfl, h2⟩
  rw [tS2_ret]
  have H2 : Hid (Own15 w w2 p tS3) := Lib.hid h2
  clear h2
  go_wp2_with fail
  refine (o_get w2 2 H2.out).mono ?_
  rintro e w3 ⟨rfl, h3⟩
  rw [tS3_get2]
  have H3 := Lib.hid h3
  clear h3
  go_wp2_with fail
  refine (o_burn w3 11 (by decide) H3.out).mono ?_
  rw [tS3_burn]
  rintro e w4 ⟨rfl, h4⟩
  have H4 := Lib.hid h4
  clear h4
  go_wp2_with fail
  refine (o_call w4 (ar := []) (f := 1) (res := 0) (back := 0) (by decide) (.inl ⟨rfl, rfl, rfl⟩) H4.out).mono ?_
  rw [tS3_call]
  rintro e w5 ⟨rfl, h5⟩
  have H5 := Lib.hid h5
  clear h5
  go_wp2_with fail
  refine (o_ret w5 258 (by decide) H5.out).mono ?_
  rintro e w6 ⟨rfl, h6⟩
  rw [tS3_ret]
  have H6 : Hid (Own15 w w6 p tS4) := Lib.hid h6
  clear h6
  go_wp2_with fail
  refine (o_end w6 H6.out).mono ?_
  rw [tS4_e]
  rintro e w7 ⟨rfl, h7⟩
  obtain ⟨O, R, zz, hs7, hO7, hr7⟩ := h7
  have H7 := Lib.hid hs7
  have HLT : Hid (∀ k, O k → k < w7.heap.size) := Lib.hid (fun k hk => hs7.lt k (.inl hk))
  have HO7 : Hid (∀ k, O k → w.heap.size ≤ k) := Lib.hid hO7
  have R7 := Lib.hid hr7
  clear hs7 hO7 hr7
  go_wp2_with fail
  have r8 := (Fr.refl no w7).alloc (.cells #[.int .i64 1, .int .i64 2] 43)
  have X8 := Lib.hid (heap_new w7 (.cells #[.int .i64 1, .int .i64 2] 43))
  have H8 := Lib.hid (H7.out.fr r8)
  have R8 := Lib.hid (R7.out.trans r8)
  have S8 : Hid (w7.heap.size ≤ (w7.alloc (.cells #[.int .i64 1, .int .i64 2] 43)).heap.size) := Lib.hid r8.size
  clear r8
  generalize w7.alloc (.cells #[.int .i64 1, .int .i64 2] 43) = w8 at *
  refine (smade_law w8 32 0 HB3.out (by decide)).mono ?_
  rintro e w9 ⟨y, rfl, hy⟩
  have HY : Hid (Own15 w8 w9 y tY) := Lib.hid hy
  have X9 := Lib.hid (hy.frame.heap X8.out (by simp))
  have H9 := Lib.hid (H8.out.fr hy.frame)
  clear hy
  go_wp2_with fail
  refine (o_end w9 HY.out).mono ?_
  rw [tY_e]
  rintro e w10 ⟨rfl, h10⟩
  have X10 := Lib.hid (h10.frame.heap X8.out (by simp))
  have H10 := Lib.hid (H8.out.fr h10.frame)
  have R10 := Lib.hid (R8.out.trans h10.frame)
  have S10 : Hid (w7.heap.size ≤ w10.heap.size) := Lib.hid (Nat.le_trans S8.out h10.frame.size)
  clear h10
  go_wp2_with fail
  have r11 := (Fr.refl no w10).alloc (.cells #[.int .i64 3, .int .i64 0] 43)
  have Z11 := Lib.hid (heap_new w10 (.cells #[.int .i64 3, .int .i64 0] 43))
  have X11 := Lib.hid (r11.heap X10.out (by simp))
  have H11 := Lib.hid (H10.out.fr r11)
  have R11 := Lib.hid (R10.out.trans r11)
  clear r11
  generalize w10.alloc (.cells #[.int .i64 3, .int .i64 0] 43) = w11 at *
  refine (two15_ok w11).mono ?_
  rintro e w12 ⟨da, fa, rfl, hm, r12⟩
  have HM := Lib.hid hm
  have X12 := Lib.hid (r12.heap X11.out (by simp))
  have Z12 := Lib.hid (r12.heap Z11.out (by simp))
  have H12 := Lib.hid (H11.out.fr r12)
  have R12 := Lib.hid (R11.out.trans r12)
  clear hm r12
  go_wp2_with fail
  refine (snew_bad (m := twoM) (inp := []) (n := 100) (fuel := 0) w12 HM.out two_small HB1.out).mono ?_
  rintro e w13 ⟨rfl, r13⟩
  have X13 := Lib.hid (r13.heap X12.out (by simp))
  have Z13 := Lib.hid (r13.heap Z12.out (by simp))
  have H13 := Lib.hid (H12.out.fr r13)
  have R13 := Lib.hid (R12.out.trans r13)
  clear r13 HM
  go_wp2_with fail
  refine (two15_ok w13).mono ?_
  rintro e w14 ⟨da2, fa2, rfl, hm, r14⟩
  have HM := Lib.hid hm
  have X14 := Lib.hid (r14.heap X13.out (by simp))
  have Z14 := Lib.hid (r14.heap Z13.out (by simp))
  have H14 := Lib.hid (H13.out.fr r14)
  have R14 := Lib.hid (R13.out.trans r14)
  clear hm r14
  go_wp2_with fail
  refine (snew_full (m := twoM) (inp := []) (n := 16) (fuel := 0) w14 HM.out two_small (.inl ⟨rfl, rfl, rfl⟩) (by decide) HB2.out (by decide)).mono ?_
  rintro e w15 ⟨rfl, r15⟩
  have X15 := Lib.hid (r15.heap X14.out (by simp))
  have Z15 := Lib.hid (r15.heap Z14.out (by simp))
  have H15 := Lib.hid (H14.out.fr r15)
  have R15 := Lib.hid (R14.out.trans r15)
  clear r15 HM
  go_wp2_with fail
  refine (awake15_ok w15).mono ?_
  rintro e w16 ⟨rfl, r16⟩
  have hx := r16.heap X15.out (by simp)
  have hz := r16.heap Z15.out (by simp)
  have x0 := cell_of_heap (o := 0) hx rfl
  have x1 := cell_of_heap (o := 1) hx rfl
  have z0 := cell_of_heap (o := 0) hz rfl
  have Z16 := Lib.hid hz
  have H16 := Lib.hid (H15.out.fr r16)
  have R16 := Lib.hid (R15.out.trans r16)
  clear r16 hx hz
  go_wp2_with fail
  refine (sset_ok w16 0 1 (by decide) H16.out).mono ?_
  rw [tS4_set]
  rintro e w17 ⟨rfl, -, r17⟩
  have hz17 := r17.heap Z16.out (fun ho => by have := HLT.out _ ho; have := S10.out; omega)
  have z0' := cell_of_heap (o := 0) hz17 rfl
  have R17 := Lib.hid (R16.out.trans' r17 (fun k hk _ => HO7.out k hk))
  clear r17 hz17 x0 x1 z0
  go_wp2_with fail
  go_ret
  exact ⟨rfl, R17.out⟩

end Go.Proofs.YtihnkijeefkefaaGreat

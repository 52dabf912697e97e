import Derived.Test.YtkgcfllbkjlfcaaO25
namespace Go.Proofs.Ytkgcfllbkjlfcaa
open Go.RowKit

attribute [local go_sem] Program.isFuncB Program.isSliceB

variable {w w' w'' w0 : World}

theorem calls_fr {P : Program} {f : FuncId} {args : Array Value} {x : Ending} (h : Calls P f args w fun e w' => e = x ∧ ∃ q, w' = w.drewN q) : Calls P f args w fun e w' => e = x ∧ Fr no w w' :=
  h.mono fun e w' ⟨he, q, hq⟩ => ⟨he, by rw [hq]; exact (Fr.refl no w).drewN q⟩

set_option maxRecDepth 100000 in
set_option maxHeartbeats 4000000 in
theorem opnames_ok (w : World) (n : Int) (s : ByteArray) : Calls Try.prog 3 #[.int .i64 n, .string s] w fun e w' => e = .returned (.bool true) ∧ Fr no w w' := by
  by_cases hs : (100 : Int) < s.size
  · go_enter Try.func3, Try.ntmps3
    go_wp2_with fail
    refine (awake_ok _).mono ?_
    rintro e w1 ⟨rfl, r1⟩
    have R1 := Lib.hid r1
    clear r1
    go_wp2_with fail
    go_ret
    exact ⟨rfl, R1.out⟩
  · have e1 : ∀ b : ByteArray, (b.toList == b.toList) = true := fun b => by simp
    have R0 := Lib.hid (Fr.refl no w)
    have E1 := Lib.hid (e1 (nameI n))
    have E2 := Lib.hid (e1 (shapeI n))
    have G1 := Lib.hid (fun w => name_all w n)
    have G2 := Lib.hid (fun w => refname_all w n)
    have G3 := Lib.hid (fun w => shape_all w n)
    have G4 := Lib.hid (fun w => refshape_all w n)
    have G5 := Lib.hid (fun w => find_ok w s)
    have G6 := Lib.hid (fun w => reffind_ok w s)
    generalize nameI n = nm at *
    generalize shapeI n = sp at *
    generalize findI s = fi at *
    have e1 := E1.out
    have e2 := E2.out
    clear e1
    have e1 : (nm.toList == nm.toList) = true := E1.out
    have e3 : (fi == fi) = true := by simp
    obtain ⟨w0, hw0⟩ : ∃ x, x = w := ⟨_, rfl⟩
    subst hw0
    go_enter Try.func3, Try.ntmps3
    go_wp2_with fail
    refine (G1.out _).mono ?_
    rintro e w1 ⟨rfl, r1⟩
    have R1 := Lib.hid (R0.out.trans r1)
    clear r1 
    go_wp2_with fail
    refine (G2.out _).mono ?_
    rintro e w2 ⟨rfl, r2⟩
    have R2 := Lib.hid (R1.out.trans r2)
    clear r2 
    go_wp2_with fail
    refine (G3.out _).mono ?_
    rintro e w3 ⟨rfl, r3⟩
    have R3 := Lib.hid (R2.out.trans r3)
    clear r3 
    go_wp2_with fail
    refine (G4.out _).mono ?_
    rintro e w' ⟨rfl, rfl⟩
    go_wp2_with fail
    refine (G5.out _).mono ?_
    rintro e w4 ⟨rfl, r4⟩
    have R4 := Lib.hid (R3.out.trans r4)
    clear r4 
    go_wp2_with fail
    refine (G6.out _).mono ?_
    rintro e w5 ⟨rfl, r5⟩
    have R5 := Lib.hid (R4.out.trans r5)
    clear r5 
    go_wp2_with fail
    refine (awake_ok _).mono ?_
    rintro e w6 ⟨rfl, r6⟩
    have R6 := Lib.hid (R5.out.trans r6)
    clear r6 
    go_wp2_with fail
    go_ret
    exact ⟨rfl, R6.out⟩

theorem known_find : findI ⟨#[97, 100, 100, 32]⟩ = -1 ∧ nameI 33 = ⟨#[]⟩ ∧ checkOf 3 0 1 3 0 [] 3 0 = 5 ∧ checkOf 3 0 1 2 1 [] 3 0 = 2 ∧ checkOf 33 0 0 0 0 [] 3 0 = 16 ∧ checkOf 21 0 1 0 7 [] 2 0 = 0 ∧ checkOf 20 0 1 0 7 [] 2 0 = 5 ∧
    checkOf 23 0 0 0 8 [] 1 8 = 0 ∧ checkOf 23 0 0 0 9 [] 1 8 = 5 := by
  refine ⟨?_, ?_, ?_, ?_, ?_, ?_, ?_, ?_, ?_⟩ <;> kernel_rfl
theorem known_reads : readsOf 22 4 5 0 [] = [4, 5] ∧ (fieldsOf [4, 5, 0] (sh 22)).2.2 = -1 ∧ readsOf 28 0 0 0 [3, 3] = [3, 3] ∧ (fieldsOf [0, 0, 0] (sh 28)).2.2 = 0 ∧ (if hasB (sh 26) 116 then (40 : Int) else -1) = 40 ∧ fallsI 26 = true ∧ fallsI 25 = false := by
  refine ⟨?_, ?_, ?_, ?_, ?_, ?_, ?_⟩ <;> kernel_rfl

set_option maxRecDepth 100000 in
set_option maxHeartbeats 8000000 in
theorem opknown_ok (w : World) : Calls Try.prog 4 #[] w fun e w' => e = .returned (.bool true) ∧ Fr no w w' := by
  obtain ⟨k1, k2, k3, k4, k5, k6, k7, k8, k9⟩ := known_find
  obtain ⟨j1, j2, j3, j4, j5, j6, j7⟩ := known_reads
  have H1 := fun w => find_ok w ⟨#[97, 100, 100, 32]⟩
  rw [k1] at H1
  have H2 := fun w => name_all w 33
  rw [k2] at H2
  have H3 := fun w => check_ok w 3 0 1 3 0 3 0 (.slice none 0 0) [] (reads_nil w) (by simp)
  rw [k3] at H3
  have H4 := fun w => check_ok w 3 0 1 2 1 3 0 (.slice none 0 0) [] (reads_nil w) (by simp)
  rw [k4] at H4
  have H5 := fun w => check_ok w 33 0 0 0 0 3 0 (.slice none 0 0) [] (reads_nil w) (by simp)
  rw [k5] at H5
  have H6 := fun w => check_ok w 21 0 1 0 7 2 0 (.slice none 0 0) [] (reads_nil w) (by simp)
  rw [k6] at H6
  have H7 := fun w => check_ok w 20 0 1 0 7 2 0 (.slice none 0 0) [] (reads_nil w) (by simp)
  rw [k7] at H7
  have H8 := fun w => check_ok w 23 0 0 0 8 1 8 (.slice none 0 0) [] (reads_nil w) (by simp)
  rw [k8] at H8
  have H9 := fun w => check_ok w 23 0 0 0 9 1 8 (.slice none 0 0) [] (reads_nil w) (by simp)
  rw [k9] at H9
  have I1 := fun w => reads_ok w 22 4 5 0 8 (.slice none 0 0) [] (reads_nil w) (by simp)
  rw [j1] at I1
  have I2 := fun w => writes_ok w 22 4 5 0 8 (.slice none 0 0)
  rw [j2] at I2
  have I3 := fun w u (hu : Reads w u 1 [(3 : Int), 3].length (ints [3, 3])) => reads_ok w 28 0 0 0 2 u [3, 3] hu (by simp)
  rw [j3] at I3
  have I4 := fun w u => writes_ok w 28 0 0 0 2 u
  rw [j4] at I4
  have I5 := fun w => target_ok w 26 1 0 0 40 (.slice none 0 0)
  rw [j5] at I5
  have I6 := fun w => falls_ok w 26 1 0 0 40 (.slice none 0 0)
  rw [j6] at I6
  have I7 := fun w => falls_ok w 25 0 0 0 40 (.slice none 0 0)
  rw [j7] at I7
  have G1 := Lib.hid H1
  have G2 := Lib.hid H2
  have G3 := Lib.hid H3
  have G4 := Lib.hid H4
  have G5 := Lib.hid H5
  have G6 := Lib.hid H6
  have G7 := Lib.hid H7
  have G8 := Lib.hid H8
  have G9 := Lib.hid H9
  have J1 := Lib.hid I1
  have J2 := Lib.hid I2
  have J3 := Lib.hid I3
  have J4 := Lib.hid I4
  have J5 := Lib.hid I5
  have J6 := Lib.hid I6
  have J7 := Lib.hid I7
  clear k1 k2 k3 k4 k5 k6 k7 k8 k9 j1 j2 j3 j4 j5 j6 j7 H1 H2 H3 H4 H5 H6 H7 H8 H9 I1 I2 I3 I4 I5 I6 I7
  unfold insV at *
  have e2 : ((⟨#[]⟩ : ByteArray).toList == (⟨#[]⟩ : ByteArray).toList) = true := by simp
  have R0 := Lib.hid (Fr.refl no w)
  obtain ⟨w0, hw0⟩ : ∃ x, x = w := ⟨_, rfl⟩
  subst hw0
  go_enter Try.func4, Try.ntmps4
  go_wp2_with fail
  refine (G1.out _).mono ?_
  rintro e w1 ⟨rfl, r1⟩
  have R1 := Lib.hid (R0.out.trans r1)
  clear r1 
  go_wp2_with fail
  refine (G2.out _).mono ?_
  rintro e w2 ⟨rfl, r2⟩
  have R2 := Lib.hid (R1.out.trans r2)
  clear r2 
  go_wp2_with fail
  refine (of_ok _ _ _ _ _ _).mono ?_
  rintro e w3 ⟨rfl, r3⟩
  have R3 := Lib.hid (R2.out.trans r3)
  clear r3 
  go_wp2_with fail
  refine (G3.out _).mono ?_
  rintro e w4 ⟨rfl, r4⟩
  have R4 := Lib.hid (R3.out.trans r4)
  clear r4 
  go_wp2_with fail
  refine (of_ok _ _ _ _ _ _).mono ?_
  rintro e w5 ⟨rfl, r5⟩
  have R5 := Lib.hid (R4.out.trans r5)
  clear r5 
  go_wp2_with fail
  refine (G4.out _).mono ?_
  rintro e w6 ⟨rfl, r6⟩
  have R6 := Lib.hid (R5.out.trans r6)
  clear r6 
  go_wp2_with fail
  refine (of_ok _ _ _ _ _ _).mono ?_
  rintro e w7 ⟨rfl, r7⟩
  have R7 := Lib.hid (R6.out.trans r7)
  clear r7 
  go_wp2_with fail
  refine (G5.out _).mono ?_
  rintro e w8 ⟨rfl, r8⟩
  have R8 := Lib.hid (R7.out.trans r8)
  clear r8 
  go_wp2_with fail
  refine (of_ok _ _ _ _ _ _).mono ?_
  rintro e w9 ⟨rfl, r9⟩
  have R9 := Lib.hid (R8.out.trans r9)
  clear r9 
  go_wp2_with fail
  refine (G6.out _).mono ?_
  rintro e w10 ⟨rfl, r10⟩
  have R10 := Lib.hid (R9.out.trans r10)
  clear r10 
  go_wp2_with fail
  refine (of_ok _ _ _ _ _ _).mono ?_
  rintro e w11 ⟨rfl, r11⟩
  have R11 := Lib.hid (R10.out.trans r11)
  clear r11 
  go_wp2_with fail
  refine (G7.out _).mono ?_
  rintro e w12 ⟨rfl, r12⟩
  have R12 := Lib.hid (R11.out.trans r12)
  clear r12 
  go_wp2_with fail
  refine (of_ok _ _ _ _ _ _).mono ?_
  rintro e w13 ⟨rfl, r13⟩
  have R13 := Lib.hid (R12.out.trans r13)
  clear r13 
  go_wp2_with fail
  refine (G8.out _).mono ?_
  rintro e w14 ⟨rfl, r14⟩
  have R14 := Lib.hid (R13.out.trans r14)
  clear r14 
  go_wp2_with fail
  refine (of_ok _ _ _ _ _ _).mono ?_
  rintro e w15 ⟨rfl, r15⟩
  have R15 := Lib.hid (R14.out.trans r15)
  clear r15 
  go_wp2_with fail
  refine (G9.out _).mono ?_
  rintro e w16 ⟨rfl, r16⟩
  have R16 := Lib.hid (R15.out.trans r16)
  clear r16 
  go_wp2_with fail
  refine (of_ok _ 22 4 5 0 8).mono ?_
  rintro e w17 ⟨rfl, r17⟩
  unfold insV
  have HA17 := Lib.hid (heap_new w17 (.cells #[.int .i64 22, .int .i64 4, .int .i64 5, .int .i64 0, .int .i64 8, .slice none 0 0] 30))
  have R17 := Lib.hid ((R16.out.trans r17).alloc (.cells #[.int .i64 22, .int .i64 4, .int .i64 5, .int .i64 0, .int .i64 8, .slice none 0 0] 30))
  clear r17
  go_wp2_with fail
  generalize w17.alloc _ = w17' at *
  generalize w17.heap.size = ba at *
  refine (of_ok _ 28 0 0 0 2).mono ?_
  rintro e w18 ⟨rfl, r18⟩
  unfold insV
  go_wp2_with fail
  have r19 := (r18.alloc (.cells #[.int .i64 28, .int .i64 0, .int .i64 0, .int .i64 0, .int .i64 2, .slice (some ⟨w18.heap.size + 1, 0, none⟩) 2 2] 30)).alloc (.cells #[.int .i64 3, .int .i64 3] 3)
  have HA19 := Lib.hid (r19.heap HA17.out (by simp))
  have R19 := Lib.hid (R17.out.trans r19)
  have HB19 := Lib.hid (heap_new2 w18 (.cells #[.int .i64 28, .int .i64 0, .int .i64 0, .int .i64 0, .int .i64 2, .slice (some ⟨w18.heap.size + 1, 0, none⟩) 2 2] 30) (.cells #[.int .i64 3, .int .i64 3] 3))
  have HC19 := Lib.hid (heap_new2' w18 (.cells #[.int .i64 28, .int .i64 0, .int .i64 0, .int .i64 0, .int .i64 2, .slice (some ⟨w18.heap.size + 1, 0, none⟩) 2 2] 30) (.cells #[.int .i64 3, .int .i64 3] 3))
  clear r18 r19
  generalize (w18.alloc _).alloc _ = w19 at *
  generalize w18.heap.size + 1 = bc at *
  generalize w18.heap.size = bb at *
  refine (of_ok _ 26 1 0 0 40).mono ?_
  rintro e w20 ⟨rfl, r20⟩
  unfold insV
  go_upto_region 7 with (fail)
  have r20' := r20.alloc (.cells #[.int .i64 26, .int .i64 1, .int .i64 0, .int .i64 0, .int .i64 40, .slice none 0 0] 30)
  have HA20 := Lib.hid (r20'.heap HA19.out (by simp))
  have HB20 := Lib.hid (r20'.heap HB19.out (by simp))
  have HC20 := Lib.hid (r20'.heap HC19.out (by simp))
  have R20 := Lib.hid (R19.out.trans r20')
  have HD20 := Lib.hid (heap_new w20 (.cells #[.int .i64 26, .int .i64 1, .int .i64 0, .int .i64 0, .int .i64 40, .slice none 0 0] 30))
  clear r20 r20'
  generalize w20.alloc _ = w20' at *
  generalize w20.heap.size = bd at *
  obtain ⟨w20z, hw20⟩ : ∃ x, x = w20' := ⟨_, rfl⟩
  subst hw20
  clear HA17 HA19 HB19 HC19
  obtain ⟨HA_0, HA_1, HA_2, HA_3, HA_4, HA_5⟩ := cells6 HA20.out
  obtain ⟨HB_0, HB_1, HB_2, HB_3, HB_4, HB_5⟩ := cells6 HB20.out
  obtain ⟨HD_0, HD_1, HD_2, HD_3, HD_4, HD_5⟩ := cells6 HD20.out
  go_wp2_with fail
  refine (J1.out _).mono ?_
  rintro e w21 ⟨rv, rfl, hr, r21⟩
  have HA21 := Lib.hid (r21.heap HA20.out (by simp))
  have HB21 := Lib.hid (r21.heap HB20.out (by simp))
  have HC21 := Lib.hid (r21.heap HC20.out (by simp))
  have HD21 := Lib.hid (r21.heap HD20.out (by simp))
  have R21 := Lib.hid (R20.out.trans r21)
  clear r21 HA_0 HA_1 HA_2 HA_3 HA_4 HA_5 HB_0 HB_1 HB_2 HB_3 HB_4 HB_5 HD_0 HD_1 HD_2 HD_3 HD_4 HD_5
  obtain ⟨HA_0, HA_1, HA_2, HA_3, HA_4, HA_5⟩ := cells6 HA21.out
  obtain ⟨HB_0, HB_1, HB_2, HB_3, HB_4, HB_5⟩ := cells6 HB21.out
  obtain ⟨HD_0, HD_1, HD_2, HD_3, HD_4, HD_5⟩ := cells6 HD21.out
  go_wp2_with fail
  have HR21 := Lib.hid (owns_reads hr)
  obtain ⟨ra, rc, rfl⟩ := owns_shape hr
  clear hr
  have r22 : Fr no w21 (w21.alloc (.cells #[.int .i64 4, .int .i64 5] 3)) := (Fr.refl no w21).alloc _
  have HE := Lib.hid (same_ints _ _ _ [4, 5] [4, 5] (HR21.out.fr r22 (by simp)) (reads_new w21 [4, 5] (by simp) _) (by simp))
  have HA21 := Lib.hid (r22.heap HA21.out (by simp))
  have HB21 := Lib.hid (r22.heap HB21.out (by simp))
  have HC21 := Lib.hid (r22.heap HC21.out (by simp))
  have HD21 := Lib.hid (r22.heap HD21.out (by simp))
  have R21 := Lib.hid (R21.out.trans r22)
  clear r22
  refine (calls_fr HE.out).mono ?_
  rintro e w22 ⟨rfl, r22⟩
  have HA22 := Lib.hid (r22.heap HA21.out (by simp))
  have HB22 := Lib.hid (r22.heap HB21.out (by simp))
  have HC22 := Lib.hid (r22.heap HC21.out (by simp))
  have HD22 := Lib.hid (r22.heap HD21.out (by simp))
  have R22 := Lib.hid (R21.out.trans r22)
  clear r22 HA_0 HA_1 HA_2 HA_3 HA_4 HA_5 HB_0 HB_1 HB_2 HB_3 HB_4 HB_5 HD_0 HD_1 HD_2 HD_3 HD_4 HD_5
  obtain ⟨HA_0, HA_1, HA_2, HA_3, HA_4, HA_5⟩ := cells6 HA22.out
  obtain ⟨HB_0, HB_1, HB_2, HB_3, HB_4, HB_5⟩ := cells6 HB22.out
  obtain ⟨HD_0, HD_1, HD_2, HD_3, HD_4, HD_5⟩ := cells6 HD22.out
  go_wp2_with fail
  refine (J2.out _).mono ?_
  rintro e w23 ⟨rfl, r23⟩
  have HA23 := Lib.hid (r23.heap HA22.out (by simp))
  have HB23 := Lib.hid (r23.heap HB22.out (by simp))
  have HC23 := Lib.hid (r23.heap HC22.out (by simp))
  have HD23 := Lib.hid (r23.heap HD22.out (by simp))
  have R23 := Lib.hid (R22.out.trans r23)
  clear r23 HA_0 HA_1 HA_2 HA_3 HA_4 HA_5 HB_0 HB_1 HB_2 HB_3 HB_4 HB_5 HD_0 HD_1 HD_2 HD_3 HD_4 HD_5
  obtain ⟨HA_0, HA_1, HA_2, HA_3, HA_4, HA_5⟩ := cells6 HA23.out
  obtain ⟨HB_0, HB_1, HB_2, HB_3, HB_4, HB_5⟩ := cells6 HB23.out
  obtain ⟨HD_0, HD_1, HD_2, HD_3, HD_4, HD_5⟩ := cells6 HD23.out
  go_wp2_with fail
  have HU := Lib.hid (show Reads w23 (.slice (some ⟨bc, 0, none⟩) 2 2) 1 [(3 : Int), 3].length (ints [3, 3]) from .inr ⟨_, 2, rfl, Nat.le_refl _, by unfold maxLen; omega, rfl, fun j u hu => by rw [Addr.add_lit]; exact cell_of_heap HC23.out (by simpa [ints] using hu)⟩)
  refine (J3.out _ _ HU.out).mono ?_
  rintro e w24 ⟨rv, rfl, hr, r24⟩
  have HA24 := Lib.hid (r24.heap HA23.out (by simp))
  have HB24 := Lib.hid (r24.heap HB23.out (by simp))
  have HC24 := Lib.hid (r24.heap HC23.out (by simp))
  have HD24 := Lib.hid (r24.heap HD23.out (by simp))
  have R24 := Lib.hid (R23.out.trans r24)
  clear r24 HA_0 HA_1 HA_2 HA_3 HA_4 HA_5 HB_0 HB_1 HB_2 HB_3 HB_4 HB_5 HD_0 HD_1 HD_2 HD_3 HD_4 HD_5
  obtain ⟨HA_0, HA_1, HA_2, HA_3, HA_4, HA_5⟩ := cells6 HA24.out
  obtain ⟨HB_0, HB_1, HB_2, HB_3, HB_4, HB_5⟩ := cells6 HB24.out
  obtain ⟨HD_0, HD_1, HD_2, HD_3, HD_4, HD_5⟩ := cells6 HD24.out
  go_wp2_with fail
  have HR24 := Lib.hid (owns_reads hr)
  obtain ⟨ra2, rc2, rfl⟩ := owns_shape hr
  clear hr
  have r25 : Fr no w24 (w24.alloc (.cells #[.int .i64 3, .int .i64 3] 3)) := (Fr.refl no w24).alloc _
  have HE2 := Lib.hid (same_ints _ _ _ [3, 3] [3, 3] (HR24.out.fr r25 (by simp)) (reads_new w24 [3, 3] (by simp) _) (by simp))
  have HA24 := Lib.hid (r25.heap HA24.out (by simp))
  have HB24 := Lib.hid (r25.heap HB24.out (by simp))
  have HC24 := Lib.hid (r25.heap HC24.out (by simp))
  have HD24 := Lib.hid (r25.heap HD24.out (by simp))
  have R24 := Lib.hid (R24.out.trans r25)
  clear r25
  refine (calls_fr HE2.out).mono ?_
  rintro e w25 ⟨rfl, r25⟩
  have HA25 := Lib.hid (r25.heap HA24.out (by simp))
  have HB25 := Lib.hid (r25.heap HB24.out (by simp))
  have HC25 := Lib.hid (r25.heap HC24.out (by simp))
  have HD25 := Lib.hid (r25.heap HD24.out (by simp))
  have R25 := Lib.hid (R24.out.trans r25)
  clear r25 HA_0 HA_1 HA_2 HA_3 HA_4 HA_5 HB_0 HB_1 HB_2 HB_3 HB_4 HB_5 HD_0 HD_1 HD_2 HD_3 HD_4 HD_5
  obtain ⟨HA_0, HA_1, HA_2, HA_3, HA_4, HA_5⟩ := cells6 HA25.out
  obtain ⟨HB_0, HB_1, HB_2, HB_3, HB_4, HB_5⟩ := cells6 HB25.out
  obtain ⟨HD_0, HD_1, HD_2, HD_3, HD_4, HD_5⟩ := cells6 HD25.out
  go_wp2_with fail
  refine (J4.out _ _).mono ?_
  rintro e w26 ⟨rfl, r26⟩
  have HA26 := Lib.hid (r26.heap HA25.out (by simp))
  have HB26 := Lib.hid (r26.heap HB25.out (by simp))
  have HC26 := Lib.hid (r26.heap HC25.out (by simp))
  have HD26 := Lib.hid (r26.heap HD25.out (by simp))
  have R26 := Lib.hid (R25.out.trans r26)
  clear r26 HA_0 HA_1 HA_2 HA_3 HA_4 HA_5 HB_0 HB_1 HB_2 HB_3 HB_4 HB_5 HD_0 HD_1 HD_2 HD_3 HD_4 HD_5
  obtain ⟨HA_0, HA_1, HA_2, HA_3, HA_4, HA_5⟩ := cells6 HA26.out
  obtain ⟨HB_0, HB_1, HB_2, HB_3, HB_4, HB_5⟩ := cells6 HB26.out
  obtain ⟨HD_0, HD_1, HD_2, HD_3, HD_4, HD_5⟩ := cells6 HD26.out
  go_wp2_with fail
  refine (J5.out _).mono ?_
  rintro e w27 ⟨rfl, r27⟩
  have HA27 := Lib.hid (r27.heap HA26.out (by simp))
  have HB27 := Lib.hid (r27.heap HB26.out (by simp))
  have HC27 := Lib.hid (r27.heap HC26.out (by simp))
  have HD27 := Lib.hid (r27.heap HD26.out (by simp))
  have R27 := Lib.hid (R26.out.trans r27)
  clear r27 HA_0 HA_1 HA_2 HA_3 HA_4 HA_5 HB_0 HB_1 HB_2 HB_3 HB_4 HB_5 HD_0 HD_1 HD_2 HD_3 HD_4 HD_5
  obtain ⟨HA_0, HA_1, HA_2, HA_3, HA_4, HA_5⟩ := cells6 HA27.out
  obtain ⟨HB_0, HB_1, HB_2, HB_3, HB_4, HB_5⟩ := cells6 HB27.out
  obtain ⟨HD_0, HD_1, HD_2, HD_3, HD_4, HD_5⟩ := cells6 HD27.out
  go_wp2_with fail
  refine (J6.out _).mono ?_
  rintro e w28 ⟨rfl, r28⟩
  have HA28 := Lib.hid (r28.heap HA27.out (by simp))
  have HB28 := Lib.hid (r28.heap HB27.out (by simp))
  have HC28 := Lib.hid (r28.heap HC27.out (by simp))
  have HD28 := Lib.hid (r28.heap HD27.out (by simp))
  have R28 := Lib.hid (R27.out.trans r28)
  clear r28 HA_0 HA_1 HA_2 HA_3 HA_4 HA_5 HB_0 HB_1 HB_2 HB_3 HB_4 HB_5 HD_0 HD_1 HD_2 HD_3 HD_4 HD_5
  obtain ⟨HA_0, HA_1, HA_2, HA_3, HA_4, HA_5⟩ := cells6 HA28.out
  obtain ⟨HB_0, HB_1, HB_2, HB_3, HB_4, HB_5⟩ := cells6 HB28.out
  obtain ⟨HD_0, HD_1, HD_2, HD_3, HD_4, HD_5⟩ := cells6 HD28.out
  go_wp2_with fail
  refine (of_ok _ 25 0 0 0 40).mono ?_
  rintro e w29 ⟨rfl, r29⟩
  have HA29 := Lib.hid (r29.heap HA28.out (by simp))
  have HB29 := Lib.hid (r29.heap HB28.out (by simp))
  have HC29 := Lib.hid (r29.heap HC28.out (by simp))
  have HD29 := Lib.hid (r29.heap HD28.out (by simp))
  have R29 := Lib.hid (R28.out.trans r29)
  clear r29 HA_0 HA_1 HA_2 HA_3 HA_4 HA_5 HB_0 HB_1 HB_2 HB_3 HB_4 HB_5 HD_0 HD_1 HD_2 HD_3 HD_4 HD_5
  obtain ⟨HA_0, HA_1, HA_2, HA_3, HA_4, HA_5⟩ := cells6 HA29.out
  obtain ⟨HB_0, HB_1, HB_2, HB_3, HB_4, HB_5⟩ := cells6 HB29.out
  obtain ⟨HD_0, HD_1, HD_2, HD_3, HD_4, HD_5⟩ := cells6 HD29.out
  unfold insV
  go_wp2_with fail
  refine (J7.out _).mono ?_
  rintro e w30 ⟨rfl, r30⟩
  have HA30 := Lib.hid (r30.heap HA29.out (by simp))
  have HB30 := Lib.hid (r30.heap HB29.out (by simp))
  have HC30 := Lib.hid (r30.heap HC29.out (by simp))
  have HD30 := Lib.hid (r30.heap HD29.out (by simp))
  have R30 := Lib.hid (R29.out.trans r30)
  clear r30 HA_0 HA_1 HA_2 HA_3 HA_4 HA_5 HB_0 HB_1 HB_2 HB_3 HB_4 HB_5 HD_0 HD_1 HD_2 HD_3 HD_4 HD_5
  obtain ⟨HA_0, HA_1, HA_2, HA_3, HA_4, HA_5⟩ := cells6 HA30.out
  obtain ⟨HB_0, HB_1, HB_2, HB_3, HB_4, HB_5⟩ := cells6 HB30.out
  obtain ⟨HD_0, HD_1, HD_2, HD_3, HD_4, HD_5⟩ := cells6 HD30.out
  go_wp2_with fail
  refine (awake_ok _).mono ?_
  rintro e w31 ⟨rfl, r31⟩
  have HA31 := Lib.hid (r31.heap HA30.out (by simp))
  have HB31 := Lib.hid (r31.heap HB30.out (by simp))
  have HC31 := Lib.hid (r31.heap HC30.out (by simp))
  have HD31 := Lib.hid (r31.heap HD30.out (by simp))
  have R31 := Lib.hid (R30.out.trans r31)
  clear r31 HA_0 HA_1 HA_2 HA_3 HA_4 HA_5 HB_0 HB_1 HB_2 HB_3 HB_4 HB_5 HD_0 HD_1 HD_2 HD_3 HD_4 HD_5
  obtain ⟨HA_0, HA_1, HA_2, HA_3, HA_4, HA_5⟩ := cells6 HA31.out
  obtain ⟨HB_0, HB_1, HB_2, HB_3, HB_4, HB_5⟩ := cells6 HB31.out
  obtain ⟨HD_0, HD_1, HD_2, HD_3, HD_4, HD_5⟩ := cells6 HD31.out
  go_wp2_with fail
  go_ret
  exact ⟨rfl, R31.out⟩

end Go.Proofs.Ytkgcfllbkjlfcaa

/- The chapter's examples (law24). -/
import Derived.Test.YtjpkmaacalelcaaDoorD2
import Derived.Test.YtjpkmaacalelcaaDoorY21
set_option linter.unusedSimpArgs false
set_option linter.unusedVariables false
set_option linter.unusedSectionVars false
set_option linter.unnecessarySimpa false
set_option maxRecDepth 100000
namespace Go.Proofs.YtjpkmaacalelcaaDoor
open Go.RowKit Go.Ty Go.Deep Go.Sort

attribute [local go_sem] Program.isFuncB Program.isSliceB

variable {w w' w'' w0 : World}

theorem al_two0 : alignV twoL ⟨9, 0, []⟩ = 4 ∧ checkE twoL ⟨9, 0, []⟩ = 0 := by decide +kernel
theorem ck_two1 : checkE twoL ⟨9, 1, [2, -1]⟩ = 0 := by decide +kernel
theorem tx_two1 : textV twoL ⟨9, 1, [2, -1]⟩ = ⟨#[97, 114, 114, 32, 50, 32, 112, 116, 114, 32, 113]⟩ := by
  unfold textV
  rw [if_pos ck_two1]
  have h2 : Lib.itoa 2 = [50] := by
    show Lib.decDigits 2 = [50]
    rw [Lib.decDigits_one (by omega)]
    rfl
  have h3 : textL twoL ⟨9, 1, [2, -1]⟩ = [97, 114, 114, 32] ++ Lib.itoa 2 ++ [32] ++ ([112, 116, 114, 32] ++ []) ++ [113] := by rfl
  rw [h3, h2]
  rfl
theorem off_two0 : offS twoL 0 ⟨#[122]⟩ = (0, ⟨0, 0, []⟩, 6) := by decide +kernel
theorem ck_v0 : checkE twoL ⟨0, 0, []⟩ = 2 := by decide +kernel
theorem ck_v1 : checkE twoL ⟨0, 0, [-1]⟩ = 0 := by decide +kernel
theorem ck_v2 : checkE twoL ⟨3, 0, [8192]⟩ = 3 := by decide +kernel
theorem st_x : structsE [⟨⟨#[120]⟩, []⟩] = 2 := by decide +kernel
theorem twoL_s : NmS twoL := by
  intro s hs
  rcases List.mem_cons.1 hs with rfl | hs
  · decide
  · rcases List.mem_cons.1 hs with rfl | hs
    · decide
    · cases hs
theorem nm_x : NmOk [⟨⟨#[120]⟩, []⟩] := by
  intro i f hf
  match i, hf with
  | 0, hf => cases hf
  | _ + 1, hf => cases hf
theorem tin_nil (w : World) : TIn w none 0 [] := .inl ⟨rfl, rfl, rfl⟩
theorem tin_one {b : Nat} {m : Int} (h : w.heap[b]? = some (.cells #[.int .i64 m] 3 (0, 0))) : TIn w (some ⟨b, 0, none⟩) 1 [m] := reads_row1 h
theorem tin_two {b : Nat} {m n : Int} (h : w.heap[b]? = some (.cells #[.int .i64 m, .int .i64 n] 3 (0, 0))) : TIn w (some ⟨b, 0, none⟩) 2 [m, n] :=
  .inr ⟨⟨b, 0, none⟩, 2, rfl, by simp, by unfold maxLen; omega, by simp [ints], fun j u hu => by
    match j, hu with
    | 0, hu => cases hu; exact cell_of_heap h rfl
    | 1, hu => cases hu; exact cell_of_heap h rfl
    | _ + 2, hu => simp [ints] at hu⟩

set_option maxRecDepth 100000 in
set_option maxHeartbeats 8000000 in
theorem known_ok (w : World) (ht : Tb w) : Calls Tryd.prog 4 #[] w fun e w' => e = .returned (.bool true) ∧ Fr no w w' := by
  have T0 := Lib.hid ht
  have R0 := Lib.hid (Fr.refl no w)
  have W0 := Lib.hid (Fr.refl no w)
  clear ht
  go_enter Tryd.func4, Tryd.ntmps4
  go_wp2_with fail
  refine (two_ok _).mono ?_
  rintro e w1 ⟨sa1, rfl, hS, r1⟩
  have R1 := Lib.hid (R0.out.trans r1)
  clear R0 
  have S_1 := Lib.hid hS
  clear hS r1
  go_wp2_with fail
  refine (mkty_ok _ _ _ _ _ _).mono ?_
  rintro e w2 ⟨rfl, r2⟩
  have S_2 := Lib.hid (S_1.out.fr r2)
  have R2 := Lib.hid (R1.out.trans r2)
  clear R1 S_1
  clear r2
  go_wp2_with fail
  have C := align_ok twoL twoL_nm ⟨9, 0, []⟩ w2 sa1 none 2 0 S_2.out (tin_nil _)
  rw [al_two0.1, al_two0.2] at C
  refine C.mono ?_
  clear C
  rintro e w3 ⟨rfl, r3⟩
  have S_3 := Lib.hid (S_2.out.fr r3)
  have R3 := Lib.hid (R2.out.trans r3)
  clear R2 S_2
  clear r3
  go_wp2_with fail
  refine (two_ok _).mono ?_
  rintro e w4 ⟨sa4, rfl, hS, r4⟩
  have R4 := Lib.hid (R3.out.trans r4)
  clear R3 
  have S_4 := Lib.hid hS
  clear hS r4
  go_wp2_with fail
  have A2_5 := Lib.hid (heap_new w4 (.cells #[.int .i64 2, .int .i64 (-1)] 3))
  have r5 := (Fr.refl no w4).alloc (.cells #[.int .i64 2, .int .i64 (-1)] 3)
  have S_5 := Lib.hid (S_4.out.fr r5)
  have R5 := Lib.hid (R4.out.trans r5)
  clear R4 S_4
  clear r5
  generalize w4.alloc (.cells #[.int .i64 2, .int .i64 (-1)] 3) = w5 at *
  generalize w4.heap.size = A2n at *
  refine (mkty_ok _ _ _ _ _ _).mono ?_
  rintro e w6 ⟨rfl, r6⟩
  have S_6 := Lib.hid (S_5.out.fr r6)
  have A2_6 := Lib.hid (r6.heap A2_5.out (by simp))
  have R6 := Lib.hid (R5.out.trans r6)
  clear R5 S_5 A2_5
  clear r6
  go_wp2_with fail
  have C := text_ok twoL twoL_nm twoL_s ⟨9, 1, [2, -1]⟩ w6 sa4 (some ⟨A2n, 0, none⟩) 2 2 S_6.out (tin_two A2_6.out) (T0.out.fr R6.out)
  rw [tx_two1, ck_two1] at C
  refine C.mono ?_
  clear C
  rintro e w7 ⟨rfl, r7⟩
  have S_7 := Lib.hid (S_6.out.fr r7)
  have A2_7 := Lib.hid (r7.heap A2_6.out (by simp))
  have R7 := Lib.hid (R6.out.trans r7)
  clear R6 S_6 A2_6
  clear r7
  go_wp2_with fail
  have C := promote_ok w7 2
  rw [show promB 2 = 5 from rfl] at C
  refine C.mono ?_
  clear C
  rintro e w' ⟨rfl, rfl⟩
  go_wp2_with fail
  have C := common_ok w7 6 7
  rw [show commB 6 7 = 7 from rfl] at C
  refine C.mono ?_
  clear C
  rintro e w' ⟨rfl, rfl⟩
  go_wp2_with fail
  have C := common_ok w7 1 3
  rw [show commB 1 3 = 5 from rfl] at C
  refine C.mono ?_
  clear C
  rintro e w' ⟨rfl, rfl⟩
  go_wp2_with fail
  have C := convert_ok w7 511 1 (by omega)
  rw [show ((convN 511 1 : Nat) : Int) = 18446744073709551615 from by decide +kernel] at C
  refine C.mono ?_
  clear C
  rintro e w8 ⟨rfl, r8⟩
  have S_8 := Lib.hid (S_7.out.fr r8)
  have R8 := Lib.hid (R7.out.trans r8)
  clear R7 S_7
  clear r8
  go_wp2_with fail
  refine (two_ok _).mono ?_
  rintro e w9 ⟨sa9, rfl, hS, r9⟩
  have R9 := Lib.hid (R8.out.trans r9)
  clear R8 
  have S_9 := Lib.hid hS
  clear hS r9
  go_wp2_with fail
  refine (offset_ok twoL twoL_nm 0 ⟨#[122]⟩ w9 sa9 2 S_9.out).mono ?_
  rintro e w10 ⟨on, ob, os, oms, oa, oc, oe, rfl, -, hoff, r10⟩
  rw [off_two0] at hoff
  simp only [Prod.mk.injEq, Ty.mk.injEq] at hoff
  obtain ⟨rfl, ⟨rfl, rfl, rfl⟩, rfl⟩ := hoff
  have S_10 := Lib.hid (S_9.out.fr r10)
  have R10 := Lib.hid (R9.out.trans r10)
  clear R9 S_9
  clear r10
  have HZ := Lib.hid (heap_new w10 (.cells #[.int .i64 0, .int .i64 0, .slice none 0 0] 25))
  have r11 : Fr no w10 ((w10.alloc (.cells #[.int .i64 0, .int .i64 0, .slice none 0 0] 25)).setRow w10.heap.size #[.int .i64 0, .int .i64 0, .slice oa 0 oc]) := fr_setRow ((Fr.refl no w10).alloc _) (.inr (Nat.le_refl _))
  have S_11 := Lib.hid (S_10.out.fr r11)
  have R11 := Lib.hid (R10.out.trans r11)
  clear R10 S_10
  clear r11
  dsimp only [List.length_nil]
  go_upto_region 5 with (refine wpList_store_row rfl 25 (.tmp 7) (.tmp 43) rfl w10.heap.size #[.int .i64 0, .int .i64 0, .slice oa 0 oc] rfl rfl _ _ HZ.out (by rw [infoTy]; rfl) rfl (by simp [Value.oneCell']) ?_; rw [act_put_none])
  clear HZ
  generalize (w10.alloc (.cells #[.int .i64 0, .int .i64 0, .slice none 0 0] 25)).setRow w10.heap.size #[.int .i64 0, .int .i64 0, .slice oa 0 oc] = w11 at *
  go_wp2_with fail
  refine (mkty_ok _ _ _ _ _ _).mono ?_
  rintro e w12 ⟨rfl, r12⟩
  have S_12 := Lib.hid (S_11.out.fr r12)
  have R12 := Lib.hid (R11.out.trans r12)
  clear R11 S_11
  clear r12
  go_wp2_with fail
  refine (elem_ok w12 ⟨5, 0, []⟩ none 0 (tin_nil _) (by simp)).mono ?_
  rintro e w13 ⟨eb, es, ems, ea, ec, ee, rfl, -, hel, r13⟩
  rw [show elemS ⟨5, 0, []⟩ = (⟨0, 0, []⟩, 11) from rfl] at hel
  simp only [Prod.mk.injEq, Ty.mk.injEq] at hel
  obtain ⟨⟨rfl, rfl, rfl⟩, rfl⟩ := hel
  have S_13 := Lib.hid (S_12.out.fr r13)
  have R13 := Lib.hid (R12.out.trans r13)
  clear R12 S_12
  clear r13
  have HZ := Lib.hid (heap_new w13 (.cells #[.int .i64 0, .int .i64 0, .slice none 0 0] 25))
  have r14 : Fr no w13 ((w13.alloc (.cells #[.int .i64 0, .int .i64 0, .slice none 0 0] 25)).setRow w13.heap.size #[.int .i64 0, .int .i64 0, .slice ea 0 ec]) := fr_setRow ((Fr.refl no w13).alloc _) (.inr (Nat.le_refl _))
  have S_14 := Lib.hid (S_13.out.fr r14)
  have R14 := Lib.hid (R13.out.trans r14)
  clear R13 S_13
  clear r14
  dsimp only [List.length_nil]
  go_upto_region 6 with (refine wpList_store_row rfl 25 (.tmp 9) (.tmp 48) rfl w13.heap.size #[.int .i64 0, .int .i64 0, .slice ea 0 ec] rfl rfl _ _ HZ.out (by rw [infoTy]; rfl) rfl (by simp [Value.oneCell']) ?_; rw [act_put_none])
  clear HZ
  generalize (w13.alloc (.cells #[.int .i64 0, .int .i64 0, .slice none 0 0] 25)).setRow w13.heap.size #[.int .i64 0, .int .i64 0, .slice ea 0 ec] = w14 at *
  go_wp2_with fail
  refine (two_ok _).mono ?_
  rintro e w15 ⟨sa15, rfl, hS, r15⟩
  have R15 := Lib.hid (R14.out.trans r15)
  clear R14 
  have S_15 := Lib.hid hS
  clear hS r15
  go_wp2_with fail
  refine (mkty_ok _ _ _ _ _ _).mono ?_
  rintro e w16 ⟨rfl, r16⟩
  have S_16 := Lib.hid (S_15.out.fr r16)
  have R16 := Lib.hid (R15.out.trans r16)
  clear R15 S_15
  clear r16
  go_wp2_with fail
  have C := check_ok twoL twoL_nm ⟨0, 0, []⟩ w16 sa15 none 2 0 S_16.out (tin_nil _)
  rw [ck_v0] at C
  refine C.mono ?_
  clear C
  rintro e w17 ⟨rfl, r17⟩
  have S_17 := Lib.hid (S_16.out.fr r17)
  have R17 := Lib.hid (R16.out.trans r17)
  clear R16 S_16
  clear r17
  go_wp2_with fail
  refine (two_ok _).mono ?_
  rintro e w18 ⟨sa18, rfl, hS, r18⟩
  have R18 := Lib.hid (R17.out.trans r18)
  clear R17 
  have S_18 := Lib.hid hS
  clear hS r18
  go_wp2_with fail
  have A3_19 := Lib.hid (heap_new w18 (.cells #[.int .i64 (-1)] 3))
  have r19 := (Fr.refl no w18).alloc (.cells #[.int .i64 (-1)] 3)
  have S_19 := Lib.hid (S_18.out.fr r19)
  have R19 := Lib.hid (R18.out.trans r19)
  clear R18 S_18
  clear r19
  generalize w18.alloc (.cells #[.int .i64 (-1)] 3) = w19 at *
  generalize w18.heap.size = A3n at *
  refine (mkty_ok _ _ _ _ _ _).mono ?_
  rintro e w20 ⟨rfl, r20⟩
  have S_20 := Lib.hid (S_19.out.fr r20)
  have A3_20 := Lib.hid (r20.heap A3_19.out (by simp))
  have R20 := Lib.hid (R19.out.trans r20)
  clear R19 S_19 A3_19
  clear r20
  go_wp2_with fail
  have C := check_ok twoL twoL_nm ⟨0, 0, [-1]⟩ w20 sa18 (some ⟨A3n, 0, none⟩) 2 1 S_20.out (tin_one A3_20.out)
  rw [ck_v1] at C
  refine C.mono ?_
  clear C
  rintro e w21 ⟨rfl, r21⟩
  have S_21 := Lib.hid (S_20.out.fr r21)
  have A3_21 := Lib.hid (r21.heap A3_20.out (by simp))
  have R21 := Lib.hid (R20.out.trans r21)
  clear R20 S_20 A3_20
  clear r21
  go_wp2_with fail
  refine (two_ok _).mono ?_
  rintro e w22 ⟨sa22, rfl, hS, r22⟩
  have R22 := Lib.hid (R21.out.trans r22)
  clear R21 
  have S_22 := Lib.hid hS
  clear hS r22
  go_wp2_with fail
  have A4_23 := Lib.hid (heap_new w22 (.cells #[.int .i64 8192] 3))
  have r23 := (Fr.refl no w22).alloc (.cells #[.int .i64 8192] 3)
  have S_23 := Lib.hid (S_22.out.fr r23)
  have R23 := Lib.hid (R22.out.trans r23)
  clear R22 S_22
  clear r23
  generalize w22.alloc (.cells #[.int .i64 8192] 3) = w23 at *
  generalize w22.heap.size = A4n at *
  refine (mkty_ok _ _ _ _ _ _).mono ?_
  rintro e w24 ⟨rfl, r24⟩
  have S_24 := Lib.hid (S_23.out.fr r24)
  have A4_24 := Lib.hid (r24.heap A4_23.out (by simp))
  have R24 := Lib.hid (R23.out.trans r24)
  clear R23 S_23 A4_23
  clear r24
  go_wp2_with fail
  have C := check_ok twoL twoL_nm ⟨3, 0, [8192]⟩ w24 sa22 (some ⟨A4n, 0, none⟩) 2 1 S_24.out (tin_one A4_24.out)
  rw [ck_v2] at C
  refine C.mono ?_
  clear C
  rintro e w25 ⟨rfl, r25⟩
  have S_25 := Lib.hid (S_24.out.fr r25)
  have A4_25 := Lib.hid (r25.heap A4_24.out (by simp))
  have R25 := Lib.hid (R24.out.trans r25)
  clear R24 S_24 A4_24
  clear r25
  go_wp2_with fail
  have A5_26 := Lib.hid (heap_new w25 (.cells #[.string { data := #[120] }, .slice none 0 0] 53))
  have r26 := (Fr.refl no w25).alloc (.cells #[.string { data := #[120] }, .slice none 0 0] 53)
  have S_26 := Lib.hid (S_25.out.fr r26)
  have R26 := Lib.hid (R25.out.trans r26)
  clear R25 S_25
  clear r26
  generalize w25.alloc (.cells #[.string { data := #[120] }, .slice none 0 0] 53) = w26 at *
  generalize w25.heap.size = A5n at *
  have HX : Hid (SlIn w26 (some ⟨A5n, 0, none⟩) [⟨⟨#[120]⟩, []⟩]) := Lib.hid (fun k hk => by
    have : k = 0 := by simpa using hk
    subst this
    exact ⟨A5n, 0, none, 0, rfl, At.sub A5_26.out rfl, fun j hj => by simp at hj⟩)
  have C := structs_ok [⟨⟨#[120]⟩, []⟩] nm_x w26 (some ⟨A5n, 0, none⟩) 1 HX.out
  rw [st_x] at C
  refine C.mono ?_
  clear C
  rintro e w27 ⟨rfl, r27⟩
  have S_27 := Lib.hid (S_26.out.fr r27)
  have A5_27 := Lib.hid (r27.heap A5_26.out (by simp))
  have R27 := Lib.hid (R26.out.trans r27)
  clear R26 S_26 A5_26
  clear r27
  go_wp2_with fail
  refine (awake_ok _).mono ?_
  rintro e w28 ⟨rfl, r28⟩
  have R28 := Lib.hid (R27.out.trans r28)
  clear R27 
  clear r28
  go_wp2_with fail
  go_ret
  exact ⟨rfl, R28.out⟩

end Go.Proofs.YtjpkmaacalelcaaDoor

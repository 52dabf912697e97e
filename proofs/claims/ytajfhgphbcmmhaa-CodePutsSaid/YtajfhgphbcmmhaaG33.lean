import Derived.Test.YtajfhgphbcmmhaaG31
set_option linter.unusedSimpArgs false
set_option linter.unusedVariables false
set_option linter.unusedSectionVars false
set_option linter.unnecessarySimpa false
namespace Go.Proofs.Ytajfhgphbcmmhaa
open Go.RowKit

attribute [local go_sem] Program.isFuncB Program.isSliceB

variable {w w' w'' w0 : World}

theorem bytes_nil (w : World) : Bytes w (.slice none 0 0) [] := ⟨.inl ⟨rfl, rfl, rfl⟩, by simp, by simp, fun k hk => by cases hk⟩
theorem k_f1 : getR [3, 0, 1] 0 = failG 4 3 := by kernel_rfl
theorem k_f2 : getR [33] 0 = failG 16 0 := by kernel_rfl
theorem k_f3 : getR [] 0 = failG 4 0 := by kernel_rfl
theorem k_f4 : getR [28, 3, 5, 9] 0 = failG 3 0 := by kernel_rfl
theorem k_f5 : getR [2, 64, 0] 0 = failG 5 0 := by kernel_rfl
theorem k_c1 : ckOf ⟨1, 1, 0, 0, -2, []⟩ = 0 := by kernel_rfl
theorem k_e1 : encE ⟨1, 1, 0, 0, -2, []⟩ = [1, 1, 254, 255, 255, 255, 255, 255, 255, 255] := by kernel_rfl
theorem k_c2 : ckOf ⟨28, 3, 0, 0, 5, [1, 2]⟩ = 0 := by kernel_rfl
theorem k_e2 : encE ⟨28, 3, 0, 0, 5, [1, 2]⟩ = [28, 3, 5, 2, 1, 2] := by kernel_rfl
theorem getR_nil : getR [] 1 = failG 2 0 := by kernel_rfl
theorem ck_mov : ckOf ⟨2, 64, 0, 0, 0, []⟩ = 5 := by kernel_rfl
theorem splitR_known : splitR [0, 0, 29, 1] 5 [] [] 0 = ⟨[⟨0, 0, 0, 0, 0, []⟩, ⟨0, 0, 0, 0, 0, []⟩, ⟨29, 1, 0, 0, 0, []⟩], [0, 1, 2], 0, 0⟩ := by kernel_rfl

set_option maxRecDepth 100000 in
set_option maxHeartbeats 16000000 in
/-- the chapter's examples -/
theorem known_ok (w0 : World) : Calls Try.prog 6 #[] w0 fun e w' => e = .returned (.bool true) ∧ Fr no w0 w' := by
  have R0 := Lib.hid (Fr.refl no w0)
  have HIS := Lib.hid (fun w1 i u wv want => put_is w1 i u wv want)
  unfold insV at HIS
  have HFL := Lib.hid (fun w1 bv bs er fa => fails_yes w1 bv bs er fa)
  go_enter Try.func6, Try.ntmps6
  have HB := Lib.hid (bytes_lit w0 [1, 1, 254, 255, 255, 255, 255, 255, 255, 255] #[.int .u8 1, .int .u8 1, .int .u8 254, .int .u8 255, .int .u8 255, .int .u8 255, .int .u8 255, .int .u8 255, .int .u8 255, .int .u8 255] rfl (by decide) (by decide))
  have RL := Lib.hid ((Fr.refl no w0).alloc (.cells #[.int .u8 1, .int .u8 1, .int .u8 254, .int .u8 255, .int .u8 255, .int .u8 255, .int .u8 255, .int .u8 255, .int .u8 255, .int .u8 255] 5))
  have C0 := Lib.hid (HIS.out _ ⟨1, 1, 0, 0, -2, []⟩ (.slice none 0 0) _ [1, 1, 254, 255, 255, 255, 255, 255, 255, 255] (.inl ⟨rfl, rfl, rfl⟩) (by simp) HB.out.reads k_c1 k_e1)
  go_wp2_with fail
  refine C0.out.mono ?_
  rintro e w1 ⟨rfl, r1⟩
  have R1 := Lib.hid ((R0.out.trans RL.out).trans r1)
  clear r1 HB RL C0
  have RA := Lib.hid ((Fr.refl no w1).alloc (.cells #[.int .i64 1, .int .i64 2] 3))
  have HA := Lib.hid (owns_reads (owns_row w1 [.int .i64 1, .int .i64 2] 3 (by simp)))
  have hb0 := (bytes_lit (w1.alloc (.cells #[.int .i64 1, .int .i64 2] 3)) [28, 3, 5, 2, 1, 2] #[.int .u8 28, .int .u8 3, .int .u8 5, .int .u8 2, .int .u8 1, .int .u8 2] rfl (by decide) (by decide))
  simp only [World.size_alloc] at hb0
  have HB := Lib.hid hb0
  clear hb0
  have RL := Lib.hid ((Fr.refl no (w1.alloc (.cells #[.int .i64 1, .int .i64 2] 3))).alloc (.cells #[.int .u8 28, .int .u8 3, .int .u8 5, .int .u8 2, .int .u8 1, .int .u8 2] 5))
  have C1 := Lib.hid (HIS.out _ ⟨28, 3, 0, 0, 5, [1, 2]⟩ _ _ [28, 3, 5, 2, 1, 2] (HA.out.fr RL.out (by simp)) (by simp) HB.out.reads k_c2 k_e2)
  go_wp2_with fail
  refine C1.out.mono ?_
  rintro e w2 ⟨rfl, r2⟩
  have R2 := Lib.hid ((R1.out.trans (RA.out.trans RL.out)).trans r2)
  clear r2 HB RL C1
  clear RA HA
  have HB := Lib.hid (bytes_lit w2 [3, 0, 1] #[.int .u8 3, .int .u8 0, .int .u8 1] rfl (by decide) (by decide))
  have RL := Lib.hid ((Fr.refl no w2).alloc (.cells #[.int .u8 3, .int .u8 0, .int .u8 1] 5))
  have C2 := Lib.hid (HFL.out _ _ [3, 0, 1] 4 3 HB.out k_f1)
  go_wp2_with fail
  refine C2.out.mono ?_
  rintro e w3 ⟨rfl, r3⟩
  have R3 := Lib.hid ((R2.out.trans RL.out).trans r3)
  clear r3 HB RL C2
  have HB := Lib.hid (bytes_lit w3 [33] #[.int .u8 33] rfl (by decide) (by decide))
  have RL := Lib.hid ((Fr.refl no w3).alloc (.cells #[.int .u8 33] 5))
  have C3 := Lib.hid (HFL.out _ _ [33] 16 0 HB.out k_f2)
  go_wp2_with fail
  refine C3.out.mono ?_
  rintro e w4 ⟨rfl, r4⟩
  have R4 := Lib.hid ((R3.out.trans RL.out).trans r4)
  clear r4 HB RL C3
  have C4 := Lib.hid (HFL.out w4 (.slice none 0 0) [] 4 0 (bytes_nil w4) k_f3)
  go_wp2_with fail
  refine C4.out.mono ?_
  rintro e w5 ⟨rfl, r5⟩
  have R5 := Lib.hid (R4.out.trans r5)
  clear r5 C4
  have HB := Lib.hid (bytes_lit w5 [28, 3, 5, 9] #[.int .u8 28, .int .u8 3, .int .u8 5, .int .u8 9] rfl (by decide) (by decide))
  have RL := Lib.hid ((Fr.refl no w5).alloc (.cells #[.int .u8 28, .int .u8 3, .int .u8 5, .int .u8 9] 5))
  have C5 := Lib.hid (HFL.out _ _ [28, 3, 5, 9] 3 0 HB.out k_f4)
  go_wp2_with fail
  refine C5.out.mono ?_
  rintro e w6 ⟨rfl, r6⟩
  have R6 := Lib.hid ((R5.out.trans RL.out).trans r6)
  clear r6 HB RL C5
  have HB := Lib.hid (bytes_lit w6 [2, 64, 0] #[.int .u8 2, .int .u8 64, .int .u8 0] rfl (by decide) (by decide))
  have RL := Lib.hid ((Fr.refl no w6).alloc (.cells #[.int .u8 2, .int .u8 64, .int .u8 0] 5))
  have C6 := Lib.hid (HFL.out _ _ [2, 64, 0] 5 0 HB.out k_f5)
  go_wp2_with fail
  refine C6.out.mono ?_
  rintro e w7 ⟨rfl, r7⟩
  have R7 := Lib.hid ((R6.out.trans RL.out).trans r7)
  clear r7 HB RL C6
  have G := Lib.hid (get_any w7 (.slice none 0 0) [] 1 (bytes_nil w7))
  rw [getR_nil] at G
  go_wp2_with fail
  refine G.out.mono ?_
  rintro e w8 ⟨u, rfl, hu, r8⟩
  obtain ⟨ua, uc, rfl⟩ := owns_shape hu
  unfold resV failG
  dsimp only [failG] at hu ⊢
  have R8 := Lib.hid (R7.out.trans r8)
  clear hu r8 G
  have HW0 := Lib.hid (RW.start w8 zeroIns 0 0)
  unfold zeroIns at HW0
  have HW1 := Lib.hid (HW0.out.set1 #[.int .i64 0, .int .i64 0, .int .i64 0, .int .i64 0, .int .i64 0, .slice ua 0 uc])
  have HW2 := Lib.hid (HW1.out.set2 2 0)
  go_upto_region 4 with (first
    | (refine wpList_store_row rfl 35 (.tmp 3) (.tmp 40) rfl w8.heap.size #[.int .i64 0, .int .i64 0, .int .i64 0, .int .i64 0, .int .i64 0, .slice ua 0 uc] rfl rfl _ _ HW0.out.ins (by rw [Try.infoIns]; rfl) rfl (by simp [Value.oneCell']) ?_; rw [act_put_none])
    | (refine wpList_store_row rfl 42 (.tmp 5) (.tmp 42) rfl (w8.heap.size + 1) #[.int .i64 2, .int .i64 0] rfl rfl _ _ HW1.out.fault (by rw [Try.infoFault]; rfl) rfl (by simp [Value.oneCell']) ?_; rw [act_put_none]))
  clear HW0 HW1
  generalize World.setRow _ (w8.heap.size + 1) #[.int .i64 2, .int .i64 0] = w9 at *
  have R9 := Lib.hid (R8.out.trans HW2.out.fr)
  have HF9 := Lib.hid HW2.out.fault
  clear HW2
  have C := Lib.hid (put_any w9 ⟨2, 64, 0, 0, 0, []⟩ (.slice none 0 0) (.inl ⟨rfl, rfl, rfl⟩) (by simp))
  rw [ck_mov] at C
  unfold insV at C
  go_wp2_with fail
  refine C.out.mono ?_
  rintro e w10 ⟨pv, rfl, hp, r10⟩
  obtain ⟨pa, pc, rfl⟩ := owns_shape hp
  have R10 := Lib.hid (R9.out.trans r10)
  have HF10 := Lib.hid (r10.heap HF9.out (by simp))
  clear hp r10 C HF9
  have HB := Lib.hid (bytes_lit w10 [0, 0, 29, 1] #[.int .u8 0, .int .u8 0, .int .u8 29, .int .u8 1] rfl (by decide) (by decide))
  have RL := Lib.hid ((Fr.refl no w10).alloc (.cells #[.int .u8 0, .int .u8 0, .int .u8 29, .int .u8 1] 5))
  have C := Lib.hid (split_v _ _ [0, 0, 29, 1] HB.out (by simp))
  rw [show ([0, 0, 29, 1] : List Nat).length + 1 = 5 from rfl, splitR_known] at C
  go_wp2_with fail
  refine C.out.mono ?_
  rintro e w11 ⟨sa, sc, pv, rfl, hs⟩
  have RS := Lib.hid (RL.out.trans hs.fr)
  have HC := Lib.hid hs.code
  have HP := Lib.hid hs.places
  have R11 := Lib.hid (R10.out.trans RS.out)
  have HF11 := Lib.hid (RS.out.heap HF10.out (by simp))
  clear hs RL HB C RS HF10
  obtain ⟨qa, qc, rfl⟩ := owns_shape HP.out
  have HX0 := Lib.hid (heap_new w11 (.cells #[.int .i64 0, .int .i64 0] 42))
  go_upto_region 6 with (refine wpList_store_row rfl 42 (.tmp 10) (.tmp 53) rfl w11.heap.size #[.int .i64 0, .int .i64 0] rfl rfl _ _ HX0.out (by rw [Try.infoFault]; rfl) rfl (by simp [Value.oneCell']) ?_; rw [act_put_none])
  have HFS := Lib.hid (setRow_heap _ w11.heap.size _ #[.int .i64 0, .int .i64 0] _ _ HX0.out)
  have ra := (Fr.refl no w11).alloc (.cells #[.int .i64 0, .int .i64 0] 42)
  have rb := ra.trans' (fr_setRow (g := w11.heap.size) (cs := #[.int .i64 0, .int .i64 0]) (Fr.refl (only [w11.heap.size]) _) (.inl (by simp))) (fun k hk _ => by simp at hk; omega)
  have HC2 := Lib.hid (HC.out.fr rb)
  have HP2 := Lib.hid ((owns_reads HP.out).fr rb (by simp))
  have R12 := Lib.hid (R11.out.trans rb)
  have HF12 := Lib.hid (rb.heap HF11.out (by simp))
  clear ra rb HX0 HC HP HF11
  generalize World.setRow _ w11.heap.size #[.int .i64 0, .int .i64 0] = w12 at *
  have f0 : w12.cell? ⟨w8.heap.size + 1, 0, none⟩ = some (.int .i64 2) := cell_of_heap HF12.out rfl
  have f1 : w12.cell? ⟨w8.heap.size + 1, 1, none⟩ = some (.int .i64 0) := cell_of_heap HF12.out rfl
  have g0 := cell_of_heap (o := 0) HFS.out rfl
  have g1 := cell_of_heap (o := 1) HFS.out rfl
  have RL := Lib.hid ((Fr.refl no w12).alloc (.cells #[.int .i64 0, .int .i64 1, .int .i64 2] 3))
  have HL := Lib.hid (owns_reads (owns_row w12 [.int .i64 0, .int .i64 1, .int .i64 2] 3 (by simp)))
  have c0 := same_ints _ _ _ [0, 1, 2] [0, 1, 2] (HP2.out.fr RL.out (by simp)) HL.out (by simp)
  rw [show decide (([0, 1, 2] : List Int) = [0, 1, 2]) = true from by decide] at c0
  have C := Lib.hid c0
  clear c0
  go_wp2_with fail
  refine C.out.mono ?_
  rintro e w13 ⟨rfl, q, rfl⟩
  have R13 := Lib.hid ((R12.out.trans RL.out).drewN q)
  have RD := Lib.hid (RL.out.drewN q)
  have HC3 := Lib.hid (HC2.out.fr RD.out)
  generalize World.drewN _ q = w13 at *
  clear C HL RL RD HC2 f0 f1 g0 g1
  have C := Lib.hid (awake_ok w13)
  go_wp2_with fail
  refine C.out.mono ?_
  rintro e w14 ⟨rfl, r14⟩
  have R14 := Lib.hid (R13.out.trans r14)
  have HC4 := Lib.hid (HC3.out.fr r14)
  clear r14 C HC3
  obtain ⟨b, ob, u, rfl, hi⟩ := HC4.out 2 (by simp)
  obtain ⟨ua2, uc2, rfl⟩ := hi.args.shape
  obtain ⟨x0, x1, x2, x3, x4, x5⟩ := hi.six
  dsimp only [List.getElem_cons_succ, List.getElem_cons_zero] at x0 x1 x2 x3 x4 x5
  have c0 := sameins_ok w14 29 1 0 0 0 29 1 0 0 0 _ (.slice none 0 0) [] [] hi.args (.inl ⟨rfl, rfl, rfl⟩) (by simp)
  rw [show decide ((29 : Int) = 29 ∧ (1 : Int) = 1 ∧ (0 : Int) = 0 ∧ (0 : Int) = 0 ∧ (0 : Int) = 0 ∧ ([] : List Int) = []) = true from by decide] at c0
  unfold insV at c0
  have C := Lib.hid c0
  clear c0 hi
  go_wp2_with fail
  refine C.out.mono ?_
  rintro e w15 ⟨rfl, r15⟩
  have R15 := Lib.hid (R14.out.trans r15)
  clear r15 C x0 x1 x2 x3 x4 x5
  go_wp2_with fail
  go_ret
  exact ⟨rfl, R15.out⟩

end Go.Proofs.Ytajfhgphbcmmhaa

/- What is converted stays: the walk (law24). -/
import Derived.Test.YtjpkmaacalelcaaY17
set_option linter.unusedSimpArgs false
set_option linter.unusedVariables false
set_option linter.unusedSectionVars false
set_option linter.unnecessarySimpa false
namespace Go.Proofs.Ytjpkmaacalelcaa
open Go.RowKit Go.Ty Go.Deep

attribute [local go_sem] Program.isFuncB Program.isSliceB

variable {w w' w'' w0 : World}

set_option maxRecDepth 100000 in
set_option maxHeartbeats 4000000 in
theorem numbers_ok (w : World) (x : Nat) (hx : x < 18446744073709551616) (a b : Int) :
    Calls Try.prog 3 #[.int .u64 x, .int .i64 a, .int .i64 b] w fun e w' => e = .returned (.bool true) ∧ Fr no w w' := by
  go_enter Try.func3, Try.ntmps3
  go_wp2_with fail
  refine (awake_ok _).mono ?_
  rintro e w1 ⟨rfl, r1⟩
  have R1 := Lib.hid r1
  clear r1
  have hpa := pkN_lt a 8 (by omega)
  have hpb := pkN_lt b 8 (by omega)
  have HA := Lib.hid (fun w => pick_det w a 8 (by omega) (by omega))
  have HB := Lib.hid (fun w => pick_det w b 8 (by omega) (by omega))
  generalize pkN a 8 = pa at *
  generalize pkN b 8 = pb at *
  have hwa : IntKind.i64.wrap (1 + (pa : Int)) = 1 + pa := by rw [IntKind.wrap_i64]; omega
  have hwb : IntKind.i64.wrap (1 + (pb : Int)) = 1 + pb := by rw [IntKind.wrap_i64]; omega
  go_wp2_with fail
  refine (HA.out w1).mono ?_
  rintro e w' ⟨rfl, rfl⟩
  go_wp2_with fail
  refine (HB.out w1).mono ?_
  rintro e w' ⟨rfl, rfl⟩
  go_upto_region 3 with fail
  have iA : 1 ≤ (1 + (pa : Int)) ∧ (1 + (pa : Int)) ≤ 8 := by omega
  have iB : 1 ≤ (1 + (pb : Int)) ∧ (1 + (pb : Int)) ≤ 8 := by omega
  clear hwa hwb hpa hpb HA HB
  generalize (1 + (pa : Int)) = A at *
  generalize (1 + (pb : Int)) = B at *
  have CF := Lib.hid (comm_facts iA iB)
  have CA := Lib.hid (conv_again hx iA)
  have CP := Lib.hid (conv_prom hx iA)
  have CL := Lib.hid (conv_lt hx iA)
  have CX := Lib.hid (fun w => convert_ok w x A hx)
  have CZ := Lib.hid (fun w => convert_ok w x 0 hx)
  rw [show convN x 0 = x from rfl] at CZ
  generalize hY : convN x A = Y at *
  have CY := Lib.hid (fun w => convert_ok w Y A CL.out)
  rw [CA.out] at CY
  have CQ := Lib.hid (fun w => convert_ok w Y (promB A) CL.out)
  rw [CP.out] at CQ
  clear CA CP hY hx CL iA iB
  go_wp2_with fail
  refine (CX.out _).mono ?_
  rintro e w2 ⟨rfl, r2⟩
  have R2 := Lib.hid (R1.out.trans r2)
  clear r2 R1
  go_wp2_with fail
  refine (common_ok w2 A B).mono ?_
  rintro e w' ⟨rfl, rfl⟩
  go_wp2_with fail
  refine (CY.out w2).mono ?_
  rintro e w3 ⟨rfl, r3⟩
  have R3 := Lib.hid (R2.out.trans r3)
  clear r3 R2
  go_wp2_with fail
  refine (promote_ok w3 A).mono ?_
  rintro e w' ⟨rfl, rfl⟩
  go_wp2_with fail
  refine (CQ.out w3).mono ?_
  rintro e w4 ⟨rfl, r4⟩
  have R4 := Lib.hid (R3.out.trans r4)
  clear r4 R3
  go_wp2_with fail
  refine (common_ok w4 B A).mono ?_
  rintro e w' ⟨rfl, rfl⟩
  have E1 : (commB A B != commB B A) = false := by rw [CF.out.1]; simp
  go_wp2_with fail
  refine (common_ok w4 A A).mono ?_
  rintro e w' ⟨rfl, rfl⟩
  go_wp2_with fail
  refine (promote_ok w4 A).mono ?_
  rintro e w' ⟨rfl, rfl⟩
  have E2 : (commB A A != promB A) = false := by rw [CF.out.2.1]; simp
  go_wp2_with fail
  refine (promote_ok w4 A).mono ?_
  rintro e w' ⟨rfl, rfl⟩
  go_wp2_with fail
  refine (promote_ok w4 (promB A)).mono ?_
  rintro e w' ⟨rfl, rfl⟩
  go_wp2_with fail
  refine (promote_ok w4 A).mono ?_
  rintro e w' ⟨rfl, rfl⟩
  have E3 : (promB (promB A) != promB A) = false := by rw [CF.out.2.2.1]; simp
  go_wp2_with fail
  refine (promote_ok w4 A).mono ?_
  rintro e w' ⟨rfl, rfl⟩
  have CK := Lib.hid (common_ok w4 (commB A B) A)
  rw [CF.out.2.2.2.2] at CK
  have E5 : (commB A B == commB A B) = true := by simp
  have E6 : ((x : Int) == (x : Int)) = true := by simp
  by_cases hc : commB A B = promB A
  · have E4 : (commB A B == promB A) = true := by simp [hc]
    clear hc CF
    go_wp2_with fail
    refine CK.out.mono ?_
    rintro e w' ⟨rfl, rfl⟩
    go_wp2_with fail
    refine (CZ.out _).mono ?_
    rintro e w5 ⟨rfl, r5⟩
    have R5 := Lib.hid (R4.out.trans r5)
    clear r5
    go_wp2_with fail
    go_ret
    exact ⟨rfl, R5.out⟩
  · have E4 : (commB A B == promB A) = false := by simpa using hc
    have hd : commB A B = promB B := CF.out.2.2.2.1.resolve_left hc
    have E7 : (commB A B == promB B) = true := by simp [hd]
    clear hc hd CF
    go_wp2_with fail
    refine (promote_ok w4 B).mono ?_
    rintro e w' ⟨rfl, rfl⟩
    go_wp2_with fail
    refine CK.out.mono ?_
    rintro e w' ⟨rfl, rfl⟩
    go_wp2_with fail
    refine (CZ.out _).mono ?_
    rintro e w5 ⟨rfl, r5⟩
    have R5 := Lib.hid (R4.out.trans r5)
    clear r5
    go_wp2_with fail
    go_ret
    exact ⟨rfl, R5.out⟩

end Go.Proofs.Ytjpkmaacalelcaa

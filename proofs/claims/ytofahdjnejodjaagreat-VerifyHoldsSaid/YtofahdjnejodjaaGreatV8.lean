/- VerifyFinds (law12). -/
import Derived.Test.YtofahdjnejodjaaGreatV7
set_option linter.unusedSimpArgs false
set_option linter.unusedVariables false
set_option linter.unusedSectionVars false
set_option linter.unnecessarySimpa false
namespace Go.Proofs.YtofahdjnejodjaaGreat
open Go.RowKit Go.Flow Go.Sure

attribute [local go_sem] Program.isFuncB Program.isSliceB

variable {w w' w'' w0 : World}

theorem few_small {m : Mx} (hr : m.Raw) (h : ∀ f ∈ m.f, Few f) : ∀ f ∈ m.f, FnSmall f := fun f hf =>
  ⟨by have := (h f hf).1; omega, fun i hi => by have := (h f hf).2 i hi; omega, hr.n f hf⟩

set_option maxRecDepth 100000 in
set_option maxHeartbeats 4000000 in
theorem finds12_ok (w : World) (m : Mx) (da fa : Option Addr) (dc fc : Nat) (hm : ModIn w m da dc fa) (hr : m.Raw) :
    Calls Tryz.prog 4 #[.agg #[.slice da m.d.length dc, .slice fa m.f.length fc]] w fun e w' => e = .returned (.bool true) ∧ Fr no w w' := by
  have HM := Lib.hid (heap_new w (.cells #[.slice da m.d.length dc, .slice fa m.f.length fc] 38))
  have r1 := (Fr.refl no w).alloc (.cells #[.slice da m.d.length dc, .slice fa m.f.length fc] 38)
  have R1 := Lib.hid r1
  have HMI := Lib.hid hm
  have HRW := Lib.hid hr
  have HLO := Lib.hid (longm_ok _ m da dc fa fc (hm.fr r1) hr)
  clear hm hr r1
  go_enter Tryz.func4, Tryz.ntmps4
  obtain ⟨m0, m1⟩ := cells2 HM.out
  go_wp2_with fail
  refine HLO.out.mono ?_
  rintro e w2 ⟨q, rfl, hq, r2⟩
  have R2 := Lib.hid (R1.out.trans r2)
  have HM2 := Lib.hid (r2.heap HM.out (by simp))
  have HQ := Lib.hid hq
  clear hq r2 HLO HM R1 m0 m1
  cases q
  case true =>
    go_wp2_with fail
    refine (awake12_ok _).mono ?_
    rintro e w3 ⟨rfl, r3⟩
    have R3 := Lib.hid (R2.out.trans r3)
    clear r3
    go_wp2_with fail
    go_ret
    exact ⟨rfl, R3.out⟩
  have HS := Lib.hid (LongM.small HRW.out (HQ.out rfl))
  have HF := Lib.hid (few_small HRW.out (HQ.out rfl).2.2)
  obtain ⟨B0, hB0⟩ : ∃ b, b = w.heap.size := ⟨_, rfl⟩
  rw [← hB0] at HM2 ⊢
  clear HQ HRW hB0
  obtain ⟨m0, m1⟩ := cells2 HM2.out
  have HCP := Lib.hid (copymod_ok w2 m da dc fa fc (HMI.out.fr R2.out) HS.out)
  go_wp2_with fail
  refine HCP.out.mono ?_
  rintro e w3 ⟨a, c, a', c', rfl, hown, r3⟩
  have q4 := (Fr.refl no w3).alloc (.cells #[.slice a m.d.length c, .slice a' m.f.length c'] 38)
  have HC4 := Lib.hid (hown.modIn.fr q4)
  have HB4 := Lib.hid (heap_new w3 (.cells #[.slice a m.d.length c, .slice a' m.f.length c'] 38))
  have HM4 := Lib.hid (q4.heap (r3.heap HM2.out (by simp)) (by simp))
  have R4 := Lib.hid ((R2.out.trans r3).trans q4)
  clear hown r3 q4 HCP HM2 R2 m0 m1
  go_upto_region 4 with fail
  generalize w3.alloc (.cells #[.slice a m.d.length c, .slice a' m.f.length c'] 38) = w4 at *
  generalize w3.heap.size = B3 at *
  obtain ⟨n0, n1⟩ := cells2 HB4.out
  have HFD := Lib.hid (find_ok w4 m a a' c c' HC4.out HS.out HF.out)
  have HFR := Lib.hid (fun w5 (r : Fr no w w5) => reffind_ok w5 m da fa dc fc (HMI.out.fr r) HS.out HF.out)
  have HCK := Lib.hid (fun w5 (r : Fr no w4 w5) => vcheck_ok w5 m a a' c c' (HC4.out.fr r) HS.out HF.out)
  generalize modFind m = RES at *
  obtain ⟨x, y, z⟩ := RES
  go_wp2_with fail
  refine HFD.out.mono ?_
  rintro e w5 ⟨rfl, r5⟩
  have F5 := Lib.hid r5
  have R5 := Lib.hid (R4.out.trans r5)
  have HB5 := Lib.hid (r5.heap HB4.out (by simp))
  have HM5 := Lib.hid (r5.heap HM4.out (by simp))
  have HFR5 := Lib.hid (HFR.out w5 R5.out)
  clear r5 n0 n1 HFD HFR HB4 HM4
  obtain ⟨m0, m1⟩ := cells2 HM5.out
  go_wp2_with fail
  refine HFR5.out.mono ?_
  rintro e w6 ⟨rfl, r6⟩
  have F6 := Lib.hid (F5.out.trans r6)
  have R6 := Lib.hid (R5.out.trans r6)
  have HB6 := Lib.hid (r6.heap HB5.out (by simp))
  have HM6 := Lib.hid (r6.heap HM5.out (by simp))
  have HCK6 := Lib.hid (HCK.out w6 F6.out)
  clear r6 m0 m1 HFR5 HCK HB5 HM5
  obtain ⟨n0, n1⟩ := cells2 HB6.out
  have x1 : (x == x) = true := beq_self_eq_true _
  have x2 : (y == y) = true := beq_self_eq_true _
  have x3 : (z == z) = true := beq_self_eq_true _
  go_wp2_with fail
  refine HCK6.out.mono ?_
  rintro e w7 ⟨rfl, r7⟩
  have F7 := Lib.hid (F6.out.trans r7)
  have R7 := Lib.hid (R6.out.trans r7)
  have HB7 := Lib.hid (r7.heap HB6.out (by simp))
  have HM7 := Lib.hid (r7.heap HM6.out (by simp))
  have HSM := Lib.hid (kitsame_ok w7 m m a a' da fa c c' dc fc (HC4.out.fr F7.out) (HMI.out.fr R7.out) HS.out HS.out)
  rw [decide_eq_true rfl] at HSM
  clear r7 n0 n1 HCK6 HB6 HM6
  obtain ⟨n0, n1⟩ := cells2 HB7.out
  obtain ⟨m0, m1⟩ := cells2 HM7.out
  go_wp2_with fail
  refine HSM.out.mono ?_
  rintro e w8 ⟨rfl, r8⟩
  have R8 := Lib.hid (R7.out.trans r8)
  clear r8 n0 n1 m0 m1 HSM HB7 HM7
  go_wp2_with fail
  refine (awake12_ok _).mono ?_
  rintro e w9 ⟨rfl, r9⟩
  have R9 := Lib.hid (R8.out.trans r9)
  clear r9
  go_wp2_with fail
  go_ret
  exact ⟨rfl, R9.out⟩

theorem finds12_rd (w : World) (s0 : Array Value) {n0 : Nat} {d0 : Dt} (h0 : Rd Tryz.prog w n0 38 s0.toList d0) :
    Calls Tryz.prog 4 #[.agg s0] w fun e w' => e = .returned (.bool true) ∧ Fr no w w' := by
  obtain ⟨m, da, dc, fa, fc, hs, hm, hr⟩ := mod_of h0
  obtain rfl : s0 = #[.slice da m.d.length dc, .slice fa m.f.length fc] := Array.ext' hs
  exact finds12_ok w m da fa dc fc hm hr

end Go.Proofs.YtofahdjnejodjaaGreat

/- ModuleBack's walk. -/
import Derived.Test.YtdngflhfhmnipaaM22
set_option linter.unusedSimpArgs false
set_option linter.unusedVariables false
set_option linter.unusedSectionVars false
set_option linter.unnecessarySimpa false
namespace Go.Proofs.Ytdngflhfhmnipaa
open Go.RowKit

attribute [local go_sem] Program.isFuncB Program.isSliceB

variable {w w' w'' w0 : World}

theorem joinB_lt (is : List Ix) : ∀ b ∈ joinB is, b < 256 := by
  intro b hb
  unfold joinB at hb
  split at hb
  · exact bytesOf_lt is b hb
  · cases hb
theorem fnB_lt (f : Fx) : ∀ b ∈ fnB f, b < 256 := by
  intro b hb
  unfold fnB at hb
  simp only [List.mem_append] at hb
  rcases hb with hb | hb | hb | hb | hb
  · exact le_lt _ _ b hb
  · exact le_lt _ _ b hb
  · exact le_lt _ _ b hb
  · exact le_lt _ _ b hb
  · exact joinB_lt _ b hb
theorem modB_lt (m : Mx) (h : ∀ b ∈ m.d, b < 256) : ∀ b ∈ modB m, b < 256 := by
  intro b hb
  unfold modB headB fnsB at hb
  simp only [List.mem_append, List.mem_cons, List.not_mem_nil, or_false, List.mem_flatMap] at hb
  rcases hb with ((hb | hb | hb) | hb | hb | hb) | ⟨f, -, hb⟩
  · omega
  · omega
  · omega
  · exact le_lt _ _ b hb
  · exact h b hb
  · exact le_lt _ _ b hb
  · exact fnB_lt f b hb
theorem modB_len (m : Mx) (hd : m.d.length ≤ 300) (hf : m.f.length ≤ 6) : (modB m).length ≤ 30000 := by
  have := fnsB_len m.f
  unfold modB headB
  simp only [List.length_append, le_len, List.length_cons, List.length_nil]
  omega
theorem getMx_enc (m : Mx) (h : FineM m) : getMx (modB m) = m := by
  have := getE_enc m h []
  rw [List.append_nil] at this
  obtain ⟨h1, h2⟩ := this
  unfold getMx
  rw [h1, h2]
theorem fine_of {m : Mx} (hr : m.Raw) (h : modCk m = 0) : FineM m := ⟨h, hr.n, hr.lt⟩

set_option maxRecDepth 100000 in
set_option maxHeartbeats 16000000 in
theorem back_mod (w : World) (m : Mx) (da : Option Addr) (dc : Nat) (fa : Option Addr) (fc : Nat) (hm : ModIn w m da dc fa) (hr : m.Raw) :
    Calls Try.prog 4 #[.agg #[.slice da m.d.length dc, .slice fa m.f.length fc]] w fun e w' => e = .returned (.bool true) ∧ Fr no w w' := by
  have HI := Lib.hid (modObj w (.slice da m.d.length dc) (.slice fa m.f.length fc))
  have r0 := (Fr.refl no w).alloc (.cells #[.slice da m.d.length dc, .slice fa m.f.length fc] 28)
  have R0 := Lib.hid r0
  have HM := Lib.hid (hm.fr r0)
  have HR := Lib.hid hr
  have dle : m.d.length ≤ 9223372036854775807 := by have := hr.data; unfold maxLen at this; exact this
  have fle : m.f.length ≤ 9223372036854775807 := by have := hr.fns; unfold maxLen at this; exact this
  clear r0 hm hr
  go_enter Try.func4, Try.ntmps4
  go_wp2_with fail
  refine (known_ok _).mono ?_
  rintro e w1 ⟨rfl, r1⟩
  have HI1 := Lib.hid (r1.heap HI.out (by simp))
  have HM1 := Lib.hid (HM.out.fr r1)
  have R1 := Lib.hid (R0.out.trans r1)
  have LG := Lib.hid (longm_ok w1 m da dc fa fc HM1.out HR.out)
  obtain ⟨c0, c1⟩ := cells2 HI1.out
  clear r1 HI HM R0
  go_wp2_with fail
  refine LG.out.mono ?_
  rintro e w2 ⟨q, rfl, hq, r2⟩
  have HI2 := Lib.hid (r2.heap HI1.out (by simp))
  have HM2 := Lib.hid (HM1.out.fr r2)
  have R2 := Lib.hid (R1.out.trans r2)
  have HQ := Lib.hid hq
  clear r2 HI1 HM1 R1 LG c0 c1 hq
  cases q
  rotate_left
  · go_wp2_with fail
    go_ret
    exact ⟨rfl, R2.out⟩
  have QQ := HQ.out rfl
  have SML := Lib.hid (LongM.small HR.out QQ)
  have PM := Lib.hid (putm_ok w2 m da dc fa fc HM2.out SML.out)
  have PP : Hid (putM m = if modCk m = 0 then modB m else []) := Lib.hid rfl
  have CKH := Lib.hid (fun w (h : ModIn w m da dc fa) => check_mod w m da dc fa fc h SML.out)
  have GG : Hid (modCk m = 0 → FineM m ∧ (modB m).length ≤ 30000 ∧ (∀ b ∈ modB m, b < 256)) := Lib.hid (fun h => ⟨fine_of HR.out h, modB_len m QQ.1 QQ.2.1, modB_lt m HR.out.lt⟩)
  generalize modCk m = ck at *
  generalize putM m = pm at *
  obtain ⟨c0, c1⟩ := cells2 HI2.out
  clear HQ QQ
  go_wp2_with fail
  refine PM.out.mono ?_
  rintro e w3 ⟨v, rfl, hv, -, r3⟩
  obtain ⟨va, vc, rfl⟩ := owns_shape hv
  have HV := Lib.hid hv
  have HI3 := Lib.hid (r3.heap HI2.out (by simp))
  have HM3 := Lib.hid (HM2.out.fr r3)
  have R3 := Lib.hid (R2.out.trans r3)
  have CK3 := Lib.hid (CKH.out w3 HM3.out)
  clear r3 HI2 HM2 R2 PM c0 c1 hv CKH
  obtain ⟨c0, c1⟩ := cells2 HI3.out
  go_wp2_with fail
  refine CK3.out.mono ?_
  rintro e w4 ⟨rfl, r4⟩
  have HI4 := Lib.hid (r4.heap HI3.out (by simp))
  have HM4 := Lib.hid (HM3.out.fr r4)
  have R4 := Lib.hid (R3.out.trans r4)
  have HV4 := Lib.hid (owns_fr HV.out r4 (by simp))
  have e1 : (ck != ck) = false := by simp
  clear r4 HI3 HM3 R3 CK3 c0 c1 HV
  by_cases hck : ck = 0
  rotate_left
  · have e2 : (ck != 0) = true := by simpa using hck
    have h0 : pm.length = 0 := by rw [PP.out, if_neg hck]; rfl
    generalize pm.length = pl at *
    subst h0
    clear hck PP
    go_wp2_with fail
    go_ret
    exact ⟨rfl, R4.out⟩
  subst hck
  obtain ⟨g1, g2, g3⟩ := GG.out rfl
  have HPM : Hid (pm = modB m) := Lib.hid (by rw [PP.out, if_pos rfl])
  have hpl : pm.length ≤ 30000 := by rw [HPM.out]; exact g2
  have GT := Lib.hid (modget_ok w4 (.slice va pm.length vc) pm (owns_reads HV4.out) (form_owns HV4.out) (by rw [HPM.out]; exact g3) (by omega) (by rw [HPM.out, getMx_enc m g1]; exact SML.out) (fun k hk => (HV4.out.lt k hk).2))
  have EG := getM_enc m g1
  rw [← HPM.out] at EG
  rw [EG] at GT
  dsimp only at GT
  clear EG g1 g2 g3 GG PP
  go_wp2_with fail
  refine GT.out.mono ?_
  rintro e w5 ⟨xa, xc, ya, yc, rfl, hm5, -, -, r5⟩
  have HX5 := Lib.hid hm5
  have HI5 := Lib.hid (r5.heap HI4.out (by simp))
  have HM5 := Lib.hid (HM4.out.fr r5)
  have R5 := Lib.hid (R4.out.trans r5)
  clear r5 hm5 HI4 HM4 R4 GT HV4
  have rb := ((Fr.refl no w5).alloc (.cells #[.slice xa m.d.length xc, .slice ya m.f.length yc] 28)).alloc (.cells #[.int .i64 0, .int .i64 0] 39)
  have B0 := Lib.hid (heap_keep (heap_new w5 (.cells #[.slice xa m.d.length xc, .slice ya m.f.length yc] 28)) (.cells #[.int .i64 0, .int .i64 0] 39))
  have HX6 := Lib.hid (HX5.out.fr rb)
  have HI6 := Lib.hid (rb.heap HI5.out (by simp))
  have HM6 := Lib.hid (HM5.out.fr rb)
  have R6 := Lib.hid (R5.out.trans rb)
  have SK := kitsame_ok _ m m xa ya da fa xc yc dc fc HX6.out HM6.out SML.out SML.out
  rw [decide_eq_true rfl] at SK
  have SKH := Lib.hid SK
  clear rb SK HX5 HI5 HM5 R5
  obtain ⟨c0, c1⟩ := cells2 HI6.out
  obtain ⟨x0, x1⟩ := cells2 B0.out
  go_wp2_with fail
  refine SKH.out.mono ?_
  rintro e w7 ⟨rfl, r7⟩
  have HX7 := Lib.hid (HX6.out.fr r7)
  have HM7 := Lib.hid (HM6.out.fr r7)
  have R7 := Lib.hid (R6.out.trans r7)
  have HI7 := Lib.hid (r7.heap HI6.out (by simp))
  have B7 := Lib.hid (r7.heap B0.out (by simp))
  have SM := samemod_ok w7 m m xa ya da fa xc yc dc fc HX7.out HM7.out SML.out SML.out
  rw [decide_eq_true rfl] at SM
  have SMH := Lib.hid SM
  clear r7 SM HX6 HM6 R6 HI6 B0 SKH c0 c1 x0 x1
  obtain ⟨c0, c1⟩ := cells2 HI7.out
  obtain ⟨x0, x1⟩ := cells2 B7.out
  go_wp2_with fail
  refine SMH.out.mono ?_
  rintro e w8 ⟨rfl, r8⟩
  have R8 := Lib.hid (R7.out.trans r8)
  clear r8
  go_wp2_with fail
  go_ret
  exact ⟨rfl, R8.out⟩

theorem back_mod_rd (w : World) (s0 : Array Value) {n : Nat} {d : Dt} (h : Rd Try.prog w n 28 s0.toList d) :
    Calls Try.prog 4 #[.agg s0] w fun e w' => e = .returned (.bool true) ∧ Fr no w w' := by
  obtain ⟨m, da, dc, fa, fc, hs, hm, hr⟩ := mod_of h
  obtain rfl : s0 = #[.slice da m.d.length dc, .slice fa m.f.length fc] := Array.ext' hs
  exact back_mod w m da dc fa fc hm hr

end Go.Proofs.Ytdngflhfhmnipaa

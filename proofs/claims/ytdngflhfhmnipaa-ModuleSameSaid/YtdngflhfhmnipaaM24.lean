/- ModuleSame's walk. -/
import Derived.Test.YtdngflhfhmnipaaM23
set_option linter.unusedSimpArgs false
set_option linter.unusedVariables false
set_option linter.unusedSectionVars false
set_option linter.unnecessarySimpa false
namespace Go.Proofs.Ytdngflhfhmnipaa
open Go.RowKit

attribute [local go_sem] Program.isFuncB Program.isSliceB

variable {w w' w'' w0 : World}

theorem modB_inj {m m' : Mx} (h : FineM m) (h' : FineM m') (e : modB m = modB m') : m = m' := by
  have h1 := getM_enc m h
  rw [e, getM_enc m' h'] at h1
  exact (congrArg Prod.fst h1).symm

set_option maxRecDepth 100000 in
set_option maxHeartbeats 16000000 in
theorem same_mod (w : World) (m m' : Mx) (da fa db fb : Option Addr) (dc fc dd fd : Nat) (hm : ModIn w m da dc fa) (hr : m.Raw) (hn : ModIn w m' db dd fb) (hr' : m'.Raw) :
    Calls Try.prog 6 #[.agg #[.slice da m.d.length dc, .slice fa m.f.length fc], .agg #[.slice db m'.d.length dd, .slice fb m'.f.length fd]] w fun e w' => e = .returned (.bool true) ∧ Fr no w w' := by
  have r1 := (Fr.refl no w).alloc (.cells #[.slice da m.d.length dc, .slice fa m.f.length fc] 28)
  have r2 := r1.alloc (.cells #[.slice db m'.d.length dd, .slice fb m'.f.length fd] 28)
  have I1 := Lib.hid (heap_keep (heap_new w (.cells #[.slice da m.d.length dc, .slice fa m.f.length fc] 28)) (.cells #[.slice db m'.d.length dd, .slice fb m'.f.length fd] 28))
  have I2 := Lib.hid (heap_new2' w (.cells #[.slice da m.d.length dc, .slice fa m.f.length fc] 28) (.cells #[.slice db m'.d.length dd, .slice fb m'.f.length fd] 28))
  have M1 := Lib.hid (hm.fr r2)
  have M2 := Lib.hid (hn.fr r2)
  have R2 := Lib.hid r2
  have HR := Lib.hid hr
  have HR' := Lib.hid hr'
  clear r1 r2 hm hn hr hr'
  generalize hwz : (w.alloc (.cells #[.slice da m.d.length dc, .slice fa m.f.length fc] 28)).alloc (.cells #[.slice db m'.d.length dd, .slice fb m'.f.length fd] 28) = wz at *
  go_enter Try.func6, Try.ntmps6
  go_wp2_with fail
  try rw [hwz]
  clear hwz
  refine (awake_ok _).mono ?_
  rintro e w3 ⟨rfl, r⟩
  have I1a := Lib.hid (r.heap I1.out (by simp))
  have I2a := Lib.hid (r.heap I2.out (by simp))
  have M1a := Lib.hid (M1.out.fr r)
  have M2a := Lib.hid (M2.out.fr r)
  have R3 := Lib.hid (R2.out.trans r)
  have LG := Lib.hid (longm_ok w3 m da dc fa fc M1a.out HR.out)
  obtain ⟨c0, c1⟩ := cells2 I1a.out
  obtain ⟨d0, d1⟩ := cells2 I2a.out
  clear r I1 I2 M1 M2 R2
  go_wp2_with fail
  refine LG.out.mono ?_
  rintro e w4 ⟨q, rfl, hq, r⟩
  have I1b := Lib.hid (r.heap I1a.out (by simp))
  have I2b := Lib.hid (r.heap I2a.out (by simp))
  have M1b := Lib.hid (M1a.out.fr r)
  have M2b := Lib.hid (M2a.out.fr r)
  have R4 := Lib.hid (R3.out.trans r)
  have HQ := Lib.hid hq
  clear r I1a I2a M1a M2a R3 LG c0 c1 d0 d1 hq
  cases q
  rotate_left
  · go_wp2_with fail
    go_ret
    exact ⟨rfl, R4.out⟩
  have SML := Lib.hid (LongM.small HR.out (HQ.out rfl))
  have LG2 := Lib.hid (longm_ok w4 m' db dd fb fd M2b.out HR'.out)
  obtain ⟨c0, c1⟩ := cells2 I1b.out
  obtain ⟨d0, d1⟩ := cells2 I2b.out
  clear HQ
  go_wp2_with fail
  refine LG2.out.mono ?_
  rintro e w5 ⟨q, rfl, hq, r⟩
  have I1c := Lib.hid (r.heap I1b.out (by simp))
  have I2c := Lib.hid (r.heap I2b.out (by simp))
  have M1c := Lib.hid (M1b.out.fr r)
  have M2c := Lib.hid (M2b.out.fr r)
  have R5 := Lib.hid (R4.out.trans r)
  have HQ := Lib.hid hq
  clear r I1b I2b M1b M2b R4 LG2 c0 c1 d0 d1 hq
  cases q
  rotate_left
  · go_wp2_with fail
    go_ret
    exact ⟨rfl, R5.out⟩
  have SML' := Lib.hid (LongM.small HR'.out (HQ.out rfl))
  have PM := Lib.hid (putm_ok w5 m da dc fa fc M1c.out SML.out)
  have PM' := Lib.hid (fun w h => putm_ok w m' db dd fb fd h SML'.out)
  have SQ : Hid (modCk m = 0 → modCk m' = 0 → decide (putM m = putM m') = decide (m = m')) := Lib.hid (fun h h' => by
    have e1 : putM m = modB m := by unfold putM; rw [if_pos h]
    have e2 : putM m' = modB m' := by unfold putM; rw [if_pos h']
    rw [e1, e2]
    exact decide_eq_decide.2 ⟨fun e => modB_inj (fine_of HR.out h) (fine_of HR'.out h') e, fun e => by rw [e]⟩)
  have SN : Hid (decide (m' = m) = decide (m = m')) := Lib.hid (decide_eq_decide.2 eq_comm)
  have PL1 : ∀ (x : Mx), x.Raw → ∀ b ∈ putM x, b < 256 := by
    intro x hx b hb
    unfold putM at hb
    split at hb
    · exact modB_lt x hx.lt b hb
    · cases hb
  have PL := Lib.hid (And.intro (PL1 m HR.out) (PL1 m' HR'.out))
  clear PL1
  generalize modCk m = ck at *
  generalize modCk m' = ck' at *
  generalize putM m = pm at *
  generalize putM m' = pm' at *
  obtain ⟨c0, c1⟩ := cells2 I1c.out
  obtain ⟨d0, d1⟩ := cells2 I2c.out
  clear HQ
  go_wp2_with fail
  refine PM.out.mono ?_
  rintro e w6 ⟨v, rfl, hv, -, r⟩
  obtain ⟨va, vc, rfl⟩ := owns_shape hv
  have V6 := Lib.hid (owns_reads hv)
  have I1d := Lib.hid (r.heap I1c.out (by simp))
  have I2d := Lib.hid (r.heap I2c.out (by simp))
  have M1d := Lib.hid (M1c.out.fr r)
  have M2d := Lib.hid (M2c.out.fr r)
  have R6 := Lib.hid (R5.out.trans r)
  have PM2 := Lib.hid (PM'.out w6 M2d.out)
  clear r hv I1c I2c M1c M2c R5 PM PM' c0 c1 d0 d1
  obtain ⟨c0, c1⟩ := cells2 I1d.out
  obtain ⟨d0, d1⟩ := cells2 I2d.out
  go_wp2_with fail
  refine PM2.out.mono ?_
  rintro e w7 ⟨v, rfl, hv, -, r⟩
  obtain ⟨vb, vd, rfl⟩ := owns_shape hv
  have V7 := Lib.hid (V6.out.fr r (by simp))
  have U7 := Lib.hid (owns_reads hv)
  have I1e := Lib.hid (r.heap I1d.out (by simp))
  have I2e := Lib.hid (r.heap I2d.out (by simp))
  have M1e := Lib.hid (M1d.out.fr r)
  have M2e := Lib.hid (M2d.out.fr r)
  have R7 := Lib.hid (R6.out.trans r)
  have S1 := Lib.hid (samemod_ok w7 m m' da fa db fb dc fc dd fd M1e.out M2e.out SML.out SML'.out)
  clear r hv I1d I2d M1d M2d R6 PM2 V6 c0 c1 d0 d1
  obtain ⟨c0, c1⟩ := cells2 I1e.out
  obtain ⟨d0, d1⟩ := cells2 I2e.out
  go_wp2_with fail
  refine S1.out.mono ?_
  rintro e w8 ⟨rfl, r⟩
  have V8 := Lib.hid (V7.out.fr r (by simp))
  have U8 := Lib.hid (U7.out.fr r (by simp))
  have I1f := Lib.hid (r.heap I1e.out (by simp))
  have I2f := Lib.hid (r.heap I2e.out (by simp))
  have M1f := Lib.hid (M1e.out.fr r)
  have M2f := Lib.hid (M2e.out.fr r)
  have R8 := Lib.hid (R7.out.trans r)
  have S2 := samemod_ok w8 m' m db fb da fa dd fd dc fc M2f.out M1f.out SML'.out SML.out
  rw [SN.out] at S2
  have S2H := Lib.hid S2
  clear r I1e I2e M1e M2e R7 V7 U7 S1 S2 SN c0 c1 d0 d1
  generalize decide (m = m') = sm at *
  obtain ⟨c0, c1⟩ := cells2 I1f.out
  obtain ⟨d0, d1⟩ := cells2 I2f.out
  have e1 : (sm != sm) = false := by simp
  go_wp2_with fail
  refine S2H.out.mono ?_
  rintro e w9 ⟨rfl, r⟩
  have V9 := Lib.hid (V8.out.fr r (by simp))
  have U9 := Lib.hid (U8.out.fr r (by simp))
  have I1g := Lib.hid (r.heap I1f.out (by simp))
  have M1g := Lib.hid (M1f.out.fr r)
  have R9 := Lib.hid (R8.out.trans r)
  have S3 := samemod_ok w9 m m da fa da fa dc fc dc fc M1g.out M1g.out SML.out SML.out
  rw [decide_eq_true rfl] at S3
  have S3H := Lib.hid S3
  clear r I1f I2f M1f M2f R8 V8 U8 S2H S3 c0 c1 d0 d1
  obtain ⟨c0, c1⟩ := cells2 I1g.out
  go_wp2_with fail
  refine S3H.out.mono ?_
  rintro e w10 ⟨rfl, r⟩
  have V10 := Lib.hid (V9.out.fr r (by simp))
  have U10 := Lib.hid (U9.out.fr r (by simp))
  have R10 := Lib.hid (R9.out.trans r)
  clear r I1g M1g R9 V9 U9 S3H c0 c1
  by_cases hck : ck = 0
  rotate_left
  · have e2 : (ck != 0) = true := by simpa using hck
    go_wp2_with fail
    go_ret
    exact ⟨rfl, R10.out⟩
  have e2 : (ck != 0) = false := by simpa using hck
  by_cases hck' : ck' = 0
  rotate_left
  · have e3 : (ck' != 0) = true := by simpa using hck'
    go_wp2_with fail
    go_ret
    exact ⟨rfl, R10.out⟩
  have e3 : (ck' != 0) = false := by simpa using hck'
  have SB := samebytes_ok w10 _ _ pm pm' V10.out U10.out PL.out.1 PL.out.2
  rw [SQ.out hck hck'] at SB
  have SBH := Lib.hid SB
  clear SB SQ hck hck'
  have e4 : (sm == sm) = true := by simp
  go_wp2_with fail
  refine SBH.out.mono ?_
  rintro e w11 ⟨rfl, rfl⟩
  go_wp2_with fail
  go_ret
  exact ⟨by simp, R10.out⟩

theorem same_mod_rd (w : World) (s0 s1 : Array Value) {n0 n1 : Nat} {d0 d1 : Dt} (h0 : Rd Try.prog w n0 28 s0.toList d0) (h1 : Rd Try.prog w n1 28 s1.toList d1) :
    Calls Try.prog 6 #[.agg s0, .agg s1] w fun e w' => e = .returned (.bool true) ∧ Fr no w w' := by
  obtain ⟨m, da, dc, fa, fc, hs, hm, hr⟩ := mod_of h0
  obtain rfl : s0 = #[.slice da m.d.length dc, .slice fa m.f.length fc] := Array.ext' hs
  obtain ⟨m', db, dd, fb, fd, hs', hm', hr'⟩ := mod_of h1
  obtain rfl : s1 = #[.slice db m'.d.length dd, .slice fb m'.f.length fd] := Array.ext' hs'
  exact same_mod w m m' da fa db fb dc fc dd fd hm hr hm' hr'

end Go.Proofs.Ytdngflhfhmnipaa

import Derived.Test.YtajfhgphbcmmhaaG38
import Derived.Test.YtajfhgphbcmmhaaG35
set_option linter.unusedSimpArgs false
set_option linter.unusedVariables false
set_option linter.unusedSectionVars false
set_option linter.unnecessarySimpa false
namespace Go.Proofs.Ytajfhgphbcmmhaa
open Go.RowKit

attribute [local go_sem] Program.isFuncB Program.isSliceB

variable {w w' w'' w0 : World}

theorem joinB_lt (is : List Ix) : ∀ b ∈ joinB is, b < 256 := by
  unfold joinB
  split
  · exact bytesOf_lt is
  · intro b hb; cases hb

set_option maxRecDepth 100000 in
set_option maxHeartbeats 16000000 in
theorem puts_ok (w : World) (sa : Option Addr) (c : Nat) (is : List Ix) (hin : CodeIn w sa is) (hlen : is.length ≤ maxLen) (hargs : ∀ i ∈ is, i.l.length ≤ maxLen) :
    Calls Try.prog 3 #[.slice sa is.length c] w fun e w' => e = .returned (.bool true) ∧ Fr no w w' := by
  have HIN := Lib.hid hin
  have hlo : Calls Try.prog 9 #[.slice sa is.length c, .int .i64 60] w (LongR w 60 is) := long_ok w sa c 60 is hin hlen (by omega) hargs
  have HLO := Lib.hid hlo
  unfold maxLen at hlen
  clear hin hargs hlo
  go_enter Try.func3, Try.ntmps3
  go_wp2_with fail
  refine HLO.out.mono ?_
  rintro e w4 ⟨q, rfl, hq, r4⟩
  have R4 := Lib.hid r4
  have HQ := Lib.hid hq
  clear hq r4 HLO
  cases q
  case true =>
    have AW := Lib.hid (awake_ok w4)
    go_wp2_with fail
    refine AW.out.mono ?_
    rintro e w5 ⟨rfl, r5⟩
    have R5 := Lib.hid (R4.out.trans r5)
    clear r5
    go_wp2_with fail
    go_ret
    exact ⟨rfl, R5.out⟩
  have hl60 := (HQ.out rfl).1
  have HA20 := Lib.hid (HQ.out rfl).2
  have HCC := Lib.hid (copycode_ok w4 sa c is (HIN.out.fr R4.out) (by omega) (fun i hi => by have := HA20.out i hi; omega))
  clear HQ
  go_wp2_with fail
  refine HCC.out.mono ?_
  rintro e w5 ⟨na, nc, rfl, hn5, r5⟩
  have R5 := Lib.hid (R4.out.trans r5)
  have HN5 := Lib.hid hn5
  have HI5 := Lib.hid (HIN.out.fr R5.out)
  have HJ := Lib.hid (join_okN w5 na nc is hn5 (by omega) (fun i hi => by have := HA20.out i hi; omega))
  clear hn5 r5 HCC R4 HIN
  go_wp2_with fail
  refine HJ.out.mono ?_
  rintro e w6 ⟨av, rfl, hav, r6, hnu⟩
  obtain ⟨aa, ac, rfl⟩ := owns_shape hav
  have R6 := Lib.hid r6
  have HA6 := Lib.hid hav
  have HU6 := Lib.hid hnu
  have HK := Lib.hid (refjoin_ok w6 sa c is (HI5.out.fr r6) (by omega) (fun i hi => by have := HA20.out i hi; omega))
  clear hav hnu r6 HJ
  go_wp2_with fail
  refine HK.out.mono ?_
  rintro e w7 ⟨bv, rfl, hbv, r7⟩
  obtain ⟨ba, bc, rfl⟩ := owns_shape hbv
  have R7 := Lib.hid (R6.out.trans r7)
  have HA7 := Lib.hid (owns_fr HA6.out r7 (by simp))
  have HU7 := Lib.hid (HU6.out.fr r7 (fun k hk => (HA6.out.lt k hk).2))
  have sb := samebytes_ok w7 _ _ (joinB is) (joinB is) (owns_reads HA7.out) (owns_reads hbv) (joinB_lt is) (joinB_lt is)
  rw [show decide (joinB is = joinB is) = true from decide_eq_true rfl] at sb
  have SB := Lib.hid sb
  clear sb hbv r7 HK HA6 HU6 R6
  generalize joinB is = jb at *
  generalize joinCk is = jc at *
  have HOV := Lib.hid (overbytes_ok w7 _ _ _ _ HA7.out HU7.out)
  have HLT := Lib.hid (fun k (hk : (Value.slice aa jb.length ac).ownBlock = some k) => (HA7.out.lt k hk).1)
  go_wp2_with fail
  refine SB.out.mono ?_
  rintro e w8 ⟨rfl, rfl⟩
  go_wp2_with fail
  refine HOV.out.mono ?_
  rintro e w8 ⟨rfl, r8⟩
  have R8 := Lib.hid (R7.out.trans' r8 (fun k hk _ => HLT.out k hk))
  clear r8 HOV HLT HA7 HU7 SB R7
  go_wp2_with fail
  go_loopw [8, 9] (fun x y wr => ∃ k : Nat, k ≤ is.length ∧ y = .int .i64 k ∧ x = .bool true ∧ Hid (Fr no w5 wr)) (fun _ y _ => (is.length - intOf y).toNat)
  case atStart => exact ⟨0, by omega, rfl, by simp, R8⟩
  case round =>
    obtain ⟨k, hk, rfl, rfl, hfr⟩ := hrel
    by_cases hks : k < is.length
    · have hks' : (k : Int) < is.length := by omega
      obtain ⟨b1, o1, u1, rfl, h1⟩ := (HN5.out.fr hfr.out) k hks
      obtain ⟨b2, o2, u2, rfl, h2⟩ := (HI5.out.fr hfr.out) k hks
      obtain ⟨ix, hix⟩ : ∃ i, i = is[k] := ⟨_, rfl⟩
      have hal := HA20.out is[k] (List.getElem_mem hks)
      rw [← hix] at h1 h2 hal
      have H1 := Lib.hid h1
      have H2 := Lib.hid h2
      obtain ⟨ua, uc, rfl⟩ := h1.args.shape
      obtain ⟨va, vc, rfl⟩ := h2.args.shape
      have HP1 := Lib.hid (put_anyN wr ix _ h1.args (by omega))
      have HP2 := Lib.hid (fun w9 (r : Fr no wr w9) => refput_any w9 ix _ (h2.args.fr r (by simp)) (by omega))
      have HL1 := Lib.hid (fun w9 (r : Fr no wr w9) => length_ok w9 ix _ (h1.args.fr r (by simp)) (by omega))
      have HL2 := Lib.hid (fun w9 (r : Fr no wr w9) => reflength_ok w9 ix _ (h2.args.fr r (by simp)) (by omega))
      have HLB := Lib.hid (encE_lt ix)
      clear hix h1 h2
      obtain ⟨io, iA, iB, iC, iN, il⟩ := ix
      unfold insV at HP1 HP2 HL1 HL2
      dsimp only at HP1 HP2 HL1 HL2
      generalize encE ⟨io, iA, iB, iC, iN, il⟩ = en at *
      generalize ckOf ⟨io, iA, iB, iC, iN, il⟩ = ck at *
      obtain ⟨c0, c1, c2, c3, c4, c5⟩ := H1.out.six
      dsimp only at c0 c1 c2 c3 c4 c5
      go_wp2_with fail
      refine HP1.out.mono ?_
      rintro e w9 ⟨xv, rfl, hxv, r9, hnu⟩
      obtain ⟨xa, xc, rfl⟩ := owns_shape hxv
      have R9 := Lib.hid r9
      have HX9 := Lib.hid hxv
      have HU9 := Lib.hid hnu
      clear hxv hnu r9 HP1 c0 c1 c2 c3 c4 c5
      have HP3 := Lib.hid (HP2.out w9 R9.out)
      have H1b := Lib.hid (H1.out.fr R9.out)
      have H2b := Lib.hid (H2.out.fr R9.out)
      obtain ⟨d0, d1, d2, d3, d4, d5⟩ := H2b.out.six
      dsimp only at d0 d1 d2 d3 d4 d5
      clear HP2 H1 H2
      go_wp2_with fail
      refine HP3.out.mono ?_
      rintro e w10 ⟨yv, rfl, hyv, r10⟩
      obtain ⟨ya, yc, rfl⟩ := owns_shape hyv
      have rd := (Fr.refl no w10).drew
      have Q := Lib.hid (r10.trans rd)
      have R10 := Lib.hid (R9.out.trans Q.out)
      have HX10 := Lib.hid (owns_fr HX9.out Q.out (by simp))
      have HY10 := Lib.hid (owns_fr hyv rd (by simp))
      have HU10 := Lib.hid (HU9.out.fr Q.out (fun k hk => (HX9.out.lt k hk).2))
      have A1 := Lib.hid ((H1b.out.fr Q.out).at_)
      have A2 := Lib.hid ((H2b.out.fr Q.out).at_)
      unfold Ix.cells at A1 A2
      dsimp only at A1 A2
      clear hyv r10 rd HP3 d0 d1 d2 d3 d4 d5 H1b H2b HX9 HU9 Q
      go_wp2_with fail
      have sb := samebytes_ok w10.drew _ _ en en (owns_reads HX10.out) (owns_reads HY10.out) HLB.out HLB.out
      rw [show decide (en = en) = true from decide_eq_true rfl] at sb
      have SB := Lib.hid sb
      clear sb
      refine Lex.region [4, 16, 21] [25] (by kernel_rfl) (by kernel_rfl) ?_
      refine Lex.opens (fun w' => At w' b1 (o1 + k * 6) [.int .i64 io, .int .i64 iA, .int .i64 iB, .int .i64 iC, .int .i64 iN, .slice ua il.length uc] ∧ At w' b2 (o2 + k * 6) [.int .i64 io, .int .i64 iA, .int .i64 iB, .int .i64 iC, .int .i64 iN, .slice va il.length vc]) (⟨A1.out, A2.out⟩) ?_
      repeat (first
        | (refine Lex.skips (by rfl) ?_; (try simp only [Act.put, List.setIfInBounds_toArray, List.set_cons_zero, List.set_cons_succ]))
        | (refine Lex.into (by rfl) (by rfl) _ _ rfl _ _ rfl _ _ (fun w' h => h.1) Try.underlying35 rfl (by rw [Try.infoIns]; rfl) ?_; (try simp only [Act.put, List.setIfInBounds_toArray, List.set_cons_zero, List.set_cons_succ]))
        | (refine Lex.into (by rfl) (by rfl) _ _ rfl _ _ rfl _ _ (fun w' h => h.2) Try.underlying35 rfl (by rw [Try.infoIns]; rfl) ?_; (try simp only [Act.put, List.setIfInBounds_toArray, List.set_cons_zero, List.set_cons_succ]))
        | (refine Lex.quiet (v := ?_) (by rfl) (by rfl) ?_ ?_; rotate_left; (focus (intro w' hS'; go_simp; try rfl)); (try simp only [Act.put, List.setIfInBounds_toArray, List.set_cons_zero, List.set_cons_succ])))
      refine Lex.loud (by rfl) (by rfl) ?_
      intro K' hK'
      go_simp
      refine SB.out.mono ?_
      rintro e w11 ⟨rfl, rfl⟩
      refine hK' _ _ (⟨A1.out, A2.out⟩) ?_
      clear hK'
      try simp only [Act.put, List.setIfInBounds_toArray, List.set_cons_zero, List.set_cons_succ]
      repeat (first
        | (refine Lex.skips (by rfl) ?_; (try simp only [Act.put, List.setIfInBounds_toArray, List.set_cons_zero, List.set_cons_succ]))
        | (refine Lex.into (by rfl) (by rfl) _ _ rfl _ _ rfl _ _ (fun w' h => h.1) Try.underlying35 rfl (by rw [Try.infoIns]; rfl) ?_; (try simp only [Act.put, List.setIfInBounds_toArray, List.set_cons_zero, List.set_cons_succ]))
        | (refine Lex.into (by rfl) (by rfl) _ _ rfl _ _ rfl _ _ (fun w' h => h.2) Try.underlying35 rfl (by rw [Try.infoIns]; rfl) ?_; (try simp only [Act.put, List.setIfInBounds_toArray, List.set_cons_zero, List.set_cons_succ]))
        | (refine Lex.quiet (v := ?_) (by rfl) (by rfl) ?_ ?_; rotate_left; (focus (intro w' hS'; go_simp; try rfl)); (try simp only [Act.put, List.setIfInBounds_toArray, List.set_cons_zero, List.set_cons_succ])))
      refine Lex.loud (by rfl) (by rfl) ?_
      intro K' hK'
      go_simp
      refine (HL1.out _ R10.out).mono ?_
      rintro e w11 ⟨rfl, r11⟩
      have Q11 := Lib.hid r11
      clear r11
      refine hK' _ _ (⟨A1.out.fr Q11.out, A2.out.fr Q11.out⟩) ?_
      clear hK'
      try simp only [Act.put, List.setIfInBounds_toArray, List.set_cons_zero, List.set_cons_succ]
      repeat (first
        | (refine Lex.skips (by rfl) ?_; (try simp only [Act.put, List.setIfInBounds_toArray, List.set_cons_zero, List.set_cons_succ]))
        | (refine Lex.into (by rfl) (by rfl) _ _ rfl _ _ rfl _ _ (fun w' h => h.1) Try.underlying35 rfl (by rw [Try.infoIns]; rfl) ?_; (try simp only [Act.put, List.setIfInBounds_toArray, List.set_cons_zero, List.set_cons_succ]))
        | (refine Lex.into (by rfl) (by rfl) _ _ rfl _ _ rfl _ _ (fun w' h => h.2) Try.underlying35 rfl (by rw [Try.infoIns]; rfl) ?_; (try simp only [Act.put, List.setIfInBounds_toArray, List.set_cons_zero, List.set_cons_succ]))
        | (refine Lex.quiet (v := ?_) (by rfl) (by rfl) ?_ ?_; rotate_left; (focus (intro w' hS'; go_simp; try rfl)); (try simp only [Act.put, List.setIfInBounds_toArray, List.set_cons_zero, List.set_cons_succ])))
      refine Lex.loud (by rfl) (by rfl) ?_
      intro K' hK'
      go_simp
      refine (HL2.out _ (R10.out.trans Q11.out)).mono ?_
      rintro e w12 ⟨rfl, r12⟩
      have Q12 := Lib.hid (Q11.out.trans r12)
      clear r12
      refine hK' _ _ (⟨A1.out.fr Q12.out, A2.out.fr Q12.out⟩) ?_
      clear hK'
      try simp only [Act.put, List.setIfInBounds_toArray, List.set_cons_zero, List.set_cons_succ]
      repeat (first
        | (refine Lex.skips (by rfl) ?_; (try simp only [Act.put, List.setIfInBounds_toArray, List.set_cons_zero, List.set_cons_succ]))
        | (refine Lex.quiet (v := ?_) (by rfl) (by rfl) ?_ ?_; rotate_left; (focus (intro w' hS'; go_simp; try rfl)); (try simp only [Act.put, List.setIfInBounds_toArray, List.set_cons_zero, List.set_cons_succ])))
      refine Lex.done ?_
      refine Lex.ends ?_
      have HOV := Lib.hid (overbytes_ok w12 _ _ _ _ (owns_fr HX10.out Q12.out (by simp)) (HU10.out.fr Q12.out (fun k hk => (HX10.out.lt k hk).2)))
      have HLT := Lib.hid (fun k (hk : (Value.slice xa en.length xc).ownBlock = some k) => (HX10.out.lt k hk).1)
      go_wp2_with fail
      refine HOV.out.mono ?_
      rintro e w13 ⟨rfl, r13⟩
      have F13 := Lib.hid ((hfr.out.trans (R10.out.trans Q12.out)).trans' r13 (fun i hi _ => by have := HLT.out i hi; have := hfr.out.size; omega))
      clear r13 HOV HLT
      go_wp2_with fail
      go_roundw
      case rel => exact ⟨k + 1, by omega, by go_num, by simp, F13⟩
      case measure => first | (simp [intOf]; done) | (simp [intOf]; omega)
    · obtain rfl : k = is.length := by omega
      have FR := Lib.hid (R5.out.trans hfr.out)
      have sc := samecode_ok wr na sa nc c is is (HN5.out.fr hfr.out) (HI5.out.fr hfr.out) (by omega) (fun i hi => by have := HA20.out i hi; omega) (by omega)
      rw [show decide (is = is) = true from decide_eq_true rfl] at sc
      have SC := Lib.hid sc
      clear sc
      go_wp2_with fail
      refine SC.out.mono ?_
      rintro e w14 ⟨rfl, r14⟩
      have F14 := Lib.hid (FR.out.trans r14)
      have AW := Lib.hid (awake_ok w14)
      clear r14
      go_wp2_with fail
      refine AW.out.mono ?_
      rintro e w15 ⟨rfl, r15⟩
      have F15 := Lib.hid (F14.out.trans r15)
      clear r15
      go_wp2_with fail
      go_ret
      exact ⟨rfl, F15.out⟩

theorem puts_rd (w : World) (v : Value) {n : Nat} {d : Dt} (h : Rd Try.prog w n 22 [v] d) :
    Calls Try.prog 3 #[v] w fun e w' => e = .returned (.bool true) ∧ Fr no w w' := by
  obtain ⟨sa, c, is, rfl, h1, h2, h3, -⟩ := code_of h
  exact puts_ok w sa c is h1 h2 h3

end Go.Proofs.Ytajfhgphbcmmhaa

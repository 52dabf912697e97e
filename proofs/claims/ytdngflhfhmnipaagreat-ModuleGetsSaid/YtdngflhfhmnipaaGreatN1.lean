/- twinshaftref08: function, Check. -/
import Derived.Test.YtdngflhfhmnipaaGreatM2
import Derived.Test.YtdngflhfhmnipaaGreatLE
set_option linter.unusedSimpArgs false
set_option linter.unusedVariables false
set_option linter.unusedSectionVars false
set_option linter.unnecessarySimpa false
namespace Go.Proofs.YtdngflhfhmnipaaGreat
open Go.RowKit

attribute [local go_sem] Program.isFuncB Program.isSliceB

variable {w w' w'' w0 : World}

set_option maxHeartbeats 8000000 in
theorem reffn_ok (w : World) (f : Fx) (ca : Option Addr) (cc : Nat) (hc : CodeIn w ca f.c) (hs : f.Small) :
    Calls Tryz.prog 31 #[.agg #[.int .i64 f.p, .int .i64 f.r, .int .i64 f.a, .slice ca f.c.length cc]] w fun e w' => e = .returned (.int .i64 (fnCk f)) ∧ Fr no w w' := by
  obtain ⟨p, r, a, is⟩ := f
  obtain ⟨hs1, hs2⟩ := hs
  dsimp only at hc hs1 hs2 ⊢
  have HC := Lib.hid hc
  have HI := Lib.hid (fnObj w p r a (.slice ca is.length cc))
  have r0 := (Fr.refl no w).alloc (.cells #[.int .i64 p, .int .i64 r, .int .i64 a, .slice ca is.length cc] 44)
  have R0 := Lib.hid r0
  have HJ := Lib.hid (refjoin_ok (w.alloc (.cells #[.int .i64 p, .int .i64 r, .int .i64 a, .slice ca is.length cc] 44)) ca cc is (hc.fr r0) hs1 hs2)
  have HAR := Lib.hid hs2
  have HCK : Hid (fnCk ⟨p, r, a, is⟩ = if numBad p r a then 2 else if joinCk is ≠ 0 then joinCk is else opsCk is r a) := Lib.hid rfl
  have HNB : Hid (numBad p r a = decide (p < 0 ∨ 8 < p ∨ r < p ∨ 64 < r ∨ a < 0 ∨ 4096 < a)) := Lib.hid rfl
  generalize numBad p r a = nb at *
  generalize fnCk ⟨p, r, a, is⟩ = ck at *
  clear r0 hc hs2
  go_enter Tryz.func31, Tryz.ntmps31
  obtain ⟨c0, c1, c2, c3⟩ := cells4 HI.out
  by_cases h1 : p < 0
  · have HB : Hid (ck = 2) := Lib.hid (by rw [HCK.out, HNB.out, decide_eq_true (by omega)]; rfl)
    go_wp2_with fail
    go_ret
    exact ⟨by rw [HB.out]; rfl, R0.out⟩
  by_cases h2 : 8 < p
  · have HB : Hid (ck = 2) := Lib.hid (by rw [HCK.out, HNB.out, decide_eq_true (by omega)]; rfl)
    go_wp2_with fail
    go_ret
    exact ⟨by rw [HB.out]; rfl, R0.out⟩
  by_cases h3 : r < p
  · have HB : Hid (ck = 2) := Lib.hid (by rw [HCK.out, HNB.out, decide_eq_true (by omega)]; rfl)
    go_wp2_with fail
    go_ret
    exact ⟨by rw [HB.out]; rfl, R0.out⟩
  have h3' : p ≤ r := by omega
  have h3d : decide (r < p) = false := decide_eq_false h3
  by_cases h4 : 64 < r
  · have HB : Hid (ck = 2) := Lib.hid (by rw [HCK.out, HNB.out, decide_eq_true (by omega)]; rfl)
    go_wp2_with fail
    go_ret
    exact ⟨by rw [HB.out]; rfl, R0.out⟩
  by_cases h5 : a < 0
  · have HB : Hid (ck = 2) := Lib.hid (by rw [HCK.out, HNB.out, decide_eq_true (by omega)]; rfl)
    go_wp2_with fail
    go_ret
    exact ⟨by rw [HB.out]; rfl, R0.out⟩
  by_cases h6 : 4096 < a
  · have HB : Hid (ck = 2) := Lib.hid (by rw [HCK.out, HNB.out, decide_eq_true (by omega)]; rfl)
    go_wp2_with fail
    go_ret
    exact ⟨by rw [HB.out]; rfl, R0.out⟩
  have HN : Hid (ck = if joinCk is ≠ 0 then joinCk is else opsCk is r a) := Lib.hid (by
    rw [HCK.out, HNB.out, decide_eq_false (by omega)]; rfl)
  clear HCK HNB
  generalize joinCk is = jc at *
  go_wp2_with fail
  refine HJ.out.mono ?_
  rintro e w2 ⟨v, rfl, hv, r2⟩
  obtain ⟨va, vc, rfl⟩ := owns_shape hv
  have R2 := Lib.hid (R0.out.trans r2)
  have HI2 := Lib.hid (r2.heap HI.out (by simp))
  have HC2 := Lib.hid (HC.out.fr R2.out)
  clear r2 hv c0 c1 c2 c3 HI HJ HC R0 h1 h2 h3 h3' h3d h4 h5 h6
  obtain ⟨c0, c1, c2, c3⟩ := cells4 HI2.out
  by_cases hj : jc = 0
  case neg =>
    have e1 : (jc != 0) = true := by simpa using hj
    have HB : Hid (ck = jc) := Lib.hid (by rw [HN.out, if_pos hj])
    clear hj
    go_wp2_with fail
    go_ret
    exact ⟨by rw [HB.out] <;> rfl, R2.out⟩
  have e1 : (jc != 0) = false := by simpa using hj
  have HN2 : Hid (ck = opsCk is r a) := Lib.hid (by rw [HN.out, if_neg (by simpa using hj)])
  clear hj HN
  go_wp2_with fail
  go_loopw [5] (fun x wr => ∃ k : Nat, k ≤ is.length ∧ x = .int .i64 k ∧ Hid (∀ j (_ : j < k) (h : j < is.length), ckIn is[j] r a = 0) ∧ Hid (Fr no w2 wr)) (fun x _ => (is.length - intOf x).toNat)
  case atStart => exact ⟨0, by omega, rfl, Lib.hid (fun j h _ => by omega), Lib.hid (Fr.refl _ _)⟩
  case round =>
    obtain ⟨k, hk, rfl, hpre, hfr⟩ := hrel
    have HI3 := Lib.hid (hfr.out.heap HI2.out (by simp))
    clear c0 c1 c2 c3
    obtain ⟨c0, c1, c2, c3⟩ := cells4 HI3.out
    by_cases hks : k < is.length
    · have hks' : (k : Int) < is.length := by omega
      obtain ⟨b, of, u, rfl, hi⟩ := HC2.out.fr hfr.out k hks
      obtain ⟨ua, uc, rfl⟩ := hi.args.shape
      obtain ⟨d0, d1, d2, d3, d4, d5⟩ := hi.six
      have hal := HAR.out is[k] (List.getElem_mem _)
      have HPP := Lib.hid (fun w1 (h : Fr no wr w1) => refcheck_ok w1 is[k].o is[k].A is[k].B is[k].C is[k].N r a _ is[k].l (hi.args.fr h (by simp)) (by omega))
      have A1 := Lib.hid (At.fr hi.cell (Fr.refl no wr).drew)
      have HBAD : Hid (ckIn is[k] r a ≠ 0 → opsCk is r a = ckIn is[k] r a) := Lib.hid (fun h => find_bad (fun i => ckIn i r a) is k hks hpre.out h)
      have HPRE : Hid (ckIn is[k] r a = 0 → ∀ j (_ : j < k + 1) (h : j < is.length), ckIn is[j] r a = 0) := Lib.hid (fun h0 j hj h => by
        by_cases he : j = k
        · subst he; exact h0
        · exact hpre.out j (by omega) h)
      have HEQ : Hid (checkOf is[k].o is[k].A is[k].B is[k].C is[k].N is[k].l r a = ckIn is[k] r a) := Lib.hid rfl
      rw [HEQ.out] at HPP
      clear HEQ
      generalize ckIn is[k] r a = qk at *
      generalize is[k] = ix at *
      clear hi
      obtain ⟨io, iA, iB, iC, iN, il⟩ := ix
      unfold Ix.cells at A1
      dsimp only at A1 hal HPP
      unfold insV at HPP
      have HP5 := Lib.hid (HPP.out _ (Fr.refl no wr).drew)
      have e3 := (Fr.refl no wr).drew.cell c3 (by simp)
      have e1' := (Fr.refl no wr).drew.cell c1 (by simp)
      have e2' := (Fr.refl no wr).drew.cell c2 (by simp)
      clear HPP d0 d1 d2 d3 d4 d5
      go_upto_region 9 with fail
      refine Lex.region [9] [11] (by kernel_rfl) (by kernel_rfl) ?_
      refine Lex.opens (fun w' => At w' b (of + k * 6) [.int .i64 io, .int .i64 iA, .int .i64 iB, .int .i64 iC, .int .i64 iN, .slice ua il.length uc] ∧ w'.cell? ⟨w.heap.size, 1, none⟩ = some (.int .i64 r) ∧ w'.cell? ⟨w.heap.size, 2, none⟩ = some (.int .i64 a) ∧ w'.cell? ⟨w.heap.size, 3, none⟩ = some (.slice (some ⟨b, of, none⟩) is.length cc)) (⟨A1.out, e1', e2', e3⟩) ?_
      repeat (first
        | (refine Lex.skips (by rfl) ?_; (try simp only [Act.put, List.setIfInBounds_toArray, List.set_cons_zero, List.set_cons_succ]))
        | (refine Lex.into (by rfl) (by rfl) _ _ rfl _ _ rfl _ _ (fun w' h => h.1) Tryz.underlying47 rfl (by rw [Tryz.infoIns]; rfl) ?_; (try simp only [Act.put, List.setIfInBounds_toArray, List.set_cons_zero, List.set_cons_succ]))
        | (refine Lex.quiet (v := ?_) (by rfl) (by rfl) ?_ ?_; rotate_left; (focus (intro w' hS'; go_simp; try rfl)); (try simp only [Act.put, List.setIfInBounds_toArray, List.set_cons_zero, List.set_cons_succ])))
      refine Lex.loud (by rfl) (by rfl) ?_
      intro K' hK'
      go_simp
      refine HP5.out.mono ?_
      rintro e w6 ⟨rfl, r6⟩
      have R6 := Lib.hid (hfr.out.trans ((Fr.refl no wr).drew.trans r6))
      have A2 := Lib.hid (A1.out.fr r6)
      have f1 := r6.cell e1' (by simp)
      have f2 := r6.cell e2' (by simp)
      have f3 := r6.cell e3 (by simp)
      clear r6 c0 c1 c2 c3 e1' e2' e3
      refine hK' _ _ (⟨A2.out, f1, f2, f3⟩) ?_
      clear hK'
      try simp only [Act.put, List.setIfInBounds_toArray, List.set_cons_zero, List.set_cons_succ]
      repeat (first
        | (refine Lex.skips (by rfl) ?_; (try simp only [Act.put, List.setIfInBounds_toArray, List.set_cons_zero, List.set_cons_succ]))
        | (refine Lex.quiet (v := ?_) (by rfl) (by rfl) ?_ ?_; rotate_left; (focus (intro w' hS'; go_simp; try rfl)); (try simp only [Act.put, List.setIfInBounds_toArray, List.set_cons_zero, List.set_cons_succ])))
      refine Lex.done ?_
      refine Lex.ends ?_
      clear f1 f2 f3
      by_cases hq : qk = 0
      · have e2 : (qk != 0) = false := by simpa using hq
        have HP := Lib.hid (HPRE.out hq)
        clear hq
        go_wp2_with fail
        go_roundw
        case rel => exact ⟨k + 1, by omega, by go_num, HP, R6⟩
        case measure => first | (simp [intOf]; done) | (simp [intOf]; omega)
      · have e2 : (qk != 0) = true := by simpa using hq
        have HB := Lib.hid (HBAD.out hq)
        clear hq
        go_wp2_with fail
        go_ret
        exact ⟨by rw [HN2.out, HB.out] <;> rfl, R2.out.trans R6.out⟩
    · obtain rfl : k = is.length := by omega
      have HG : Hid (opsCk is r a = 0) := Lib.hid (find_good (fun i => ckIn i r a) is (fun j h => hpre.out j h h))
      go_wp2_with fail
      go_ret
      exact ⟨by rw [HN2.out, HG.out] <;> rfl, R2.out.trans hfr.out⟩

set_option maxHeartbeats 4000000 in
theorem refcheck_mod (w : World) (m : Mx) (da : Option Addr) (dc : Nat) (fa : Option Addr) (fc : Nat) (hm : ModIn w m da dc fa) (hs : m.Small) :
    Calls Tryz.prog 12 #[.agg #[.slice da m.d.length dc, .slice fa m.f.length fc]] w fun e w' => e = .returned (.int .i64 (modCk m)) ∧ Fr no w w' := by
  obtain ⟨ds, fs⟩ := m
  obtain ⟨hs1, hs2, hs3, -⟩ := hs
  dsimp only at hs1 hs2 hs3 ⊢
  have HF := Lib.hid hm.fns
  have HS := Lib.hid hs3
  have HI := Lib.hid (modObj w (.slice da ds.length dc) (.slice fa fs.length fc))
  have r0 := (Fr.refl no w).alloc (.cells #[.slice da ds.length dc, .slice fa fs.length fc] 25)
  have R0 := Lib.hid r0
  have HCK : Hid (modCk ⟨ds, fs⟩ = if 8192 < ds.length then 3 else if fs.length < 1 ∨ 64 < fs.length then 2 else fnsCk fs) := Lib.hid rfl
  generalize modCk ⟨ds, fs⟩ = ck at *
  clear r0 hm hs3
  go_enter Tryz.func12, Tryz.ntmps12
  obtain ⟨c0, c1⟩ := cells2 HI.out
  have h8' : ¬ (8192 : Int) < ds.length := by omega
  by_cases h1 : fs.length < 1
  · have h1' : (fs.length : Int) < 1 := by omega
    have HB : Hid (ck = 2) := Lib.hid (by rw [HCK.out, if_neg (by omega), if_pos (.inl h1)])
    go_wp2_with fail
    go_ret
    exact ⟨by rw [HB.out]; rfl, R0.out⟩
  have h1' : ¬ (fs.length : Int) < 1 := by omega
  by_cases h2 : 64 < fs.length
  · have h2' : (64 : Int) < fs.length := by omega
    have HB : Hid (ck = 2) := Lib.hid (by rw [HCK.out, if_neg (by omega), if_pos (.inr h2)])
    go_wp2_with fail
    go_ret
    exact ⟨by rw [HB.out]; rfl, R0.out⟩
  have h2' : ¬ (64 : Int) < fs.length := by omega
  have HN2 : Hid (ck = fnsCk fs) := Lib.hid (by rw [HCK.out, if_neg (by omega), if_neg (by omega)])
  clear HCK
  go_wp2_with fail
  go_loopw [3] (fun x wr => ∃ k : Nat, k ≤ fs.length ∧ x = .int .i64 k ∧ Hid (∀ j (_ : j < k) (h : j < fs.length), fnCk fs[j] = 0) ∧ Hid (Fr no (w.alloc (.cells #[.slice da ds.length dc, .slice fa fs.length fc] 25)) wr)) (fun x _ => (fs.length - intOf x).toNat)
  case atStart => exact ⟨0, by omega, rfl, Lib.hid (fun j h _ => by omega), Lib.hid (Fr.refl _ _)⟩
  case round =>
    obtain ⟨k, hk, rfl, hpre, hfr⟩ := hrel
    have HI3 := Lib.hid (hfr.out.heap HI.out (by simp))
    clear c0 c1
    obtain ⟨c0, c1⟩ := cells2 HI3.out
    by_cases hks : k < fs.length
    · have hks' : (k : Int) < fs.length := by omega
      obtain ⟨b, of, ca, cc, rfl, hi⟩ := HF.out.fr (R0.out.trans hfr.out) k hks
      obtain ⟨d0, d1, d2, d3⟩ := hi.four
      have HPP := Lib.hid (reffn_ok wr fs[k] ca cc hi.code (HS.out _ (List.getElem_mem hks)))
      have HBAD : Hid (fnCk fs[k] ≠ 0 → fnsCk fs = fnCk fs[k]) := Lib.hid (fun h => find_bad fnCk fs k hks hpre.out h)
      have HPRE : Hid (fnCk fs[k] = 0 → ∀ j (_ : j < k + 1) (h : j < fs.length), fnCk fs[j] = 0) := Lib.hid (fun h0 j hj h => by
        by_cases he : j = k
        · subst he; exact h0
        · exact hpre.out j (by omega) h)
      have AT := Lib.hid hi.cell
      generalize fnCk fs[k] = qk at *
      generalize fs[k] = fx at *
      clear hi
      obtain ⟨fp, fr, far, fcode⟩ := fx
      unfold Fx.cells at AT
      dsimp only at d0 d1 d2 d3 HPP AT
      go_wp2_with fail
      refine HPP.out.mono ?_
      rintro e w6 ⟨rfl, r6⟩
      have R6 := Lib.hid (hfr.out.trans r6)
      clear r6 d0 d1 d2 d3 c0 c1
      by_cases hq : qk = 0
      · have e2 : (qk != 0) = false := by simpa using hq
        have HP := Lib.hid (HPRE.out hq)
        clear hq
        go_wp2_with fail
        go_roundw
        case rel => exact ⟨k + 1, by omega, by go_num, HP, R6⟩
        case measure => first | (simp [intOf]; done) | (simp [intOf]; omega)
      · have e2 : (qk != 0) = true := by simpa using hq
        have HB := Lib.hid (HBAD.out hq)
        clear hq
        go_wp2_with fail
        go_ret
        exact ⟨by rw [HN2.out, HB.out] <;> rfl, R0.out.trans R6.out⟩
    · obtain rfl : k = fs.length := by omega
      have HG : Hid (fnsCk fs = 0) := Lib.hid (find_good fnCk fs (fun j h => hpre.out j h h))
      go_wp2_with fail
      go_ret
      exact ⟨by rw [HN2.out, HG.out] <;> rfl, R0.out.trans hfr.out⟩

end Go.Proofs.YtdngflhfhmnipaaGreat

/- slices.EqualFunc over instructions and shells; shells; module.Same. -/
import Derived.Test.YtdngflhfhmnipaaGreatM2
set_option linter.unusedSimpArgs false
set_option linter.unusedVariables false
set_option linter.unusedSectionVars false
set_option linter.unnecessarySimpa false
namespace Go.Proofs.YtdngflhfhmnipaaGreat
open Go.RowKit

attribute [local go_sem] Program.isFuncB Program.isSliceB

variable {w w' w'' w0 : World}

set_option maxHeartbeats 4000000 in
/-- slices.EqualFunc, op.Same -/
theorem eqins_ok (w : World) (sa sb : Option Addr) (ca cb : Nat) (is js : List Ix) (hin : CodeIn w sa is) (hjn : CodeIn w sb js) (hlen : is.length ≤ 100000) (hargs : ∀ i ∈ is, i.l.length ≤ 100000) (hjl : js.length ≤ 100000) (hargs2 : ∀ i ∈ js, i.l.length ≤ 100000) :
    Calls Tryz.prog 55 #[.slice sa is.length ca, .slice sb js.length cb, .func (.func 56) #[] #[]] w fun e w' => e = .returned (.bool (decide (is = js))) ∧ Fr no w w' := by
  by_cases hl : is.length = js.length
  case neg =>
    have HN : Hid (decide (is = js) = false) := Lib.hid (decide_eq_false (fun e => hl (by rw [e])))
    have e1 : ((is.length : Int) != (js.length : Int)) = true := by rw [bne_iff_ne]; omega
    clear hl hin hjn hargs hargs2
    go_enter Tryz.func55, Tryz.ntmps55
    go_wp2_with fail
    go_ret
    exact ⟨by rw [HN.out]; rfl, Fr.refl _ _⟩
  have HIN := Lib.hid hin
  have HJN := Lib.hid hjn
  have HAR := Lib.hid hargs
  have HAR2 := Lib.hid hargs2
  have hl0 := hl
  clear hin hjn hargs hargs2 hl
  generalize hmm : js.length = mm at *
  obtain rfl : mm = is.length := by omega
  have HJL := Lib.hid hmm
  clear hmm hl0
  go_enter Tryz.func55, Tryz.ntmps55
  go_wp2_with fail
  go_loopw [17] (fun x wr => ∃ k : Nat, k ≤ is.length ∧ x = .int .i64 k ∧ Hid (is.take k = js.take k) ∧ Hid (Fr no w wr)) (fun x _ => (is.length - intOf x).toNat)
  case atStart => exact ⟨0, by omega, rfl, Lib.hid rfl, Lib.hid (Fr.refl _ _)⟩
  case round =>
    obtain ⟨k, hk, rfl, hpre, hfr⟩ := hrel
    by_cases hks : k < is.length
    · have hks' : (k : Int) < is.length := by omega
      have hkj : k < js.length := by have := HJL.out; omega
      obtain ⟨b1, o1, u1, rfl, h1⟩ := HIN.out.fr hfr.out k hks
      obtain ⟨b2, o2, u2, rfl, h2⟩ := HJN.out.fr hfr.out k hkj
      obtain ⟨i1, hi1⟩ : ∃ i, i = is[k] := ⟨_, rfl⟩
      obtain ⟨i2, hi2⟩ : ∃ i, i = js[k] := ⟨_, rfl⟩
      have HS := Lib.hid (fun w1 (r : Fr no wr w1) => same_ok w1 i1.o i1.A i1.B i1.C i1.N i2.o i2.A i2.B i2.C i2.N u1 u2 i1.l i2.l (by rw [hi1]; exact h1.args.fr r (by simp)) (by rw [hi2]; exact h2.args.fr r (by simp)) (by have := HAR.out _ (List.getElem_mem hks); rw [hi1]; omega) (by have := HAR2.out _ (List.getElem_mem hkj); rw [hi2]; omega))
      have HD : Hid (decide (i1.o = i2.o ∧ i1.A = i2.A ∧ i1.B = i2.B ∧ i1.C = i2.C ∧ i1.N = i2.N ∧ i1.l = i2.l) = decide (is.take (k + 1) = js.take (k + 1))) := Lib.hid (by
        rw [List.take_succ_eq_append_getElem hks, List.take_succ_eq_append_getElem hkj, hpre.out, ← hi1, ← hi2]
        obtain ⟨a1, a2, a3, a4, a5, a6⟩ := i1
        obtain ⟨b1, b2, b3, b4, b5, b6⟩ := i2
        simp)
      have HB : Hid (decide (is.take (k + 1) = js.take (k + 1)) = false → decide (is = js) = false) := Lib.hid (fun h => decide_eq_false (fun e => by rw [e] at h; simp at h))
      have HT : Hid (decide (is.take (k + 1) = js.take (k + 1)) = true → is.take (k + 1) = js.take (k + 1)) := Lib.hid (fun h => by simpa using h)
      obtain ⟨p0, p1, p2, p3, p4, p5⟩ := h1.six
      obtain ⟨ua1, uc1, rfl⟩ := h1.args.shape
      obtain ⟨ua2, uc2, rfl⟩ := h2.args.shape
      have H2 := Lib.hid h2
      rw [← hi1] at p0 p1 p2 p3 p4 p5 HS
      rw [← hi2] at H2 HS
      clear h1 h2 hi1 hi2
      obtain ⟨a1, a2, a3, a4, a5, a6⟩ := i1
      obtain ⟨d1, d2, d3, d4, d5, d6⟩ := i2
      unfold insV at HS
      dsimp only at p0 p1 p2 p3 p4 p5 HS HD H2
      generalize decide (a1 = d1 ∧ a2 = d2 ∧ a3 = d3 ∧ a4 = d4 ∧ a5 = d5 ∧ a6 = d6) = q at *
      have r1 := (Fr.refl no wr).alloc (.cells #[.int .i64 a1, .int .i64 a2, .int .i64 a3, .int .i64 a4, .int .i64 a5, .slice ua1 a6.length uc1] 47)
      have r2 := r1.alloc (.cells #[.int .i64 d1, .int .i64 d2, .int .i64 d3, .int .i64 d4, .int .i64 d5, .slice ua2 d6.length uc2] 47)
      have HS1 := Lib.hid (HS.out _ r2)
      have R2 := Lib.hid (hfr.out.trans r2)
      obtain ⟨q0, q1, q2, q3, q4, q5⟩ := (H2.out.fr r1).six
      clear r1 r2 HS
      dsimp only at q0 q1 q2 q3 q4 q5
      go_wp2_with fail
      refine HS1.out.mono ?_
      rintro e w2 ⟨rfl, r2⟩
      have R3 := Lib.hid (R2.out.trans r2)
      clear r2 p0 p1 p2 p3 p4 p5 q0 q1 q2 q3 q4 q5
      cases q
      · have HF := Lib.hid (HB.out HD.out.symm)
        go_wp2_with fail
        go_ret
        exact ⟨by rw [HF.out]; rfl, R3.out⟩
      · have HF := Lib.hid (HT.out HD.out.symm)
        go_wp2_with fail
        go_roundw
        case rel => exact ⟨k + 1, by omega, by go_num, HF, R3⟩
        case measure => first | (simp [intOf]; done) | (simp [intOf]; omega)
    · obtain rfl : k = is.length := by omega
      have HE : Hid (decide (is = js) = true) := Lib.hid (decide_eq_true (by
        have := hpre.out
        rwa [List.take_length, ← HJL.out, List.take_length] at this))
      go_wp2_with fail
      go_ret
      exact ⟨by rw [HE.out]; rfl, hfr.out⟩

end Go.Proofs.YtdngflhfhmnipaaGreat

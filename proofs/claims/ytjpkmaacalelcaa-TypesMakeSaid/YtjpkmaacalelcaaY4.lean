/- The document's Promote, Common, Convert; Integer of both (law24). -/
import Derived.Test.YtjpkmaacalelcaaY3
import Derived.Test.YtjpkmaacalelcaaY2
set_option linter.unusedSimpArgs false
set_option linter.unusedVariables false
set_option linter.unusedSectionVars false
set_option linter.unnecessarySimpa false
namespace Go.Proofs.Ytjpkmaacalelcaa
open Go.RowKit Go.Ty

attribute [local go_sem] Program.isFuncB Program.isSliceB

variable {w w' w'' w0 : World}

theorem bytesN_pos (b : Int) : (((bytesN b : Nat) : Int) == 0) = (!isInt b) := by
  cases h : isInt b
  · simp [(bytesN_zero b).2 h]
  · have : bytesN b ≠ 0 := fun e => by rw [(bytesN_zero b).1 e] at h; cases h
    simp [this]
theorem rpromote_ok (w : World) (b : Int) : Calls Try.prog 21 #[.int .i64 b] w fun e w' => e = .returned (.int .i64 (promB b)) ∧ w = w' := by
  have HB := Lib.hid (bytes_ok w b)
  have e0 := bytesN_pos b
  have HP : Hid (promB b = if isInt b = true then (if b < 5 then 5 else b) else 0) := Lib.hid rfl
  generalize isInt b = q at *
  generalize promB b = r at *
  generalize bytesN b = n at *
  cases q
  · have HR : Hid (r = 0) := Lib.hid (by rw [HP.out]; rfl)
    rw [Bool.not_false] at e0
    go_enter Try.func21, Try.ntmps21
    go_wp2_with fail
    refine HB.out.mono ?_
    rintro e w1 ⟨rfl, rfl⟩
    go_wp2_with fail
    go_ret
    exact ⟨by rw [HR.out]; rfl, rfl⟩
  · rw [Bool.not_true] at e0
    have HR : Hid (r = max b 5) := Lib.hid (by rw [HP.out, if_pos rfl]; split <;> omega)
    go_enter Try.func21, Try.ntmps21
    go_wp2_with fail
    refine HB.out.mono ?_
    rintro e w1 ⟨rfl, rfl⟩
    go_wp2_with fail
    go_ret
    exact ⟨by rw [HR.out]; rfl, rfl⟩

theorem rcommon_ok (w : World) (a b : Int) : Calls Try.prog 22 #[.int .i64 a, .int .i64 b] w fun e w' => e = .returned (.int .i64 (commB a b)) ∧ w = w' := by
  have HA := Lib.hid (bytes_ok w a)
  have HB := Lib.hid (bytes_ok w b)
  have PA := Lib.hid (rpromote_ok w a)
  have PB := Lib.hid (rpromote_ok w b)
  have ea := bytesN_pos a
  have eb := bytesN_pos b
  have HC : Hid (commB a b = if isInt a = true ∧ isInt b = true then (if promB a < promB b then promB b else promB a) else 0) := Lib.hid rfl
  generalize isInt a = qa at *
  generalize isInt b = qb at *
  generalize promB a = pa at *
  generalize promB b = pb at *
  generalize bytesN a = na at *
  generalize bytesN b = nb at *
  generalize commB a b = r at *
  cases qa
  · have HR : Hid (r = 0) := Lib.hid (by rw [HC.out]; rfl)
    rw [Bool.not_false] at ea
    clear eb
    go_enter Try.func22, Try.ntmps22
    go_wp2_with fail
    refine HA.out.mono ?_
    rintro e w1 ⟨rfl, rfl⟩
    go_wp2_with fail
    go_ret
    exact ⟨by rw [HR.out]; rfl, rfl⟩
  · rw [Bool.not_true] at ea
    cases qb
    · have HR : Hid (r = 0) := Lib.hid (by rw [HC.out]; rfl)
      rw [Bool.not_false] at eb
      go_enter Try.func22, Try.ntmps22
      go_wp2_with fail
      refine HA.out.mono ?_
      rintro e w1 ⟨rfl, rfl⟩
      go_wp2_with fail
      refine HB.out.mono ?_
      rintro e w1 ⟨rfl, rfl⟩
      go_wp2_with fail
      go_ret
      exact ⟨by rw [HR.out]; rfl, rfl⟩
    · rw [Bool.not_true] at eb
      have HR : Hid (r = max pa pb) := Lib.hid (by rw [HC.out, if_pos ⟨rfl, rfl⟩]; split <;> omega)
      go_enter Try.func22, Try.ntmps22
      go_wp2_with fail
      refine HA.out.mono ?_
      rintro e w1 ⟨rfl, rfl⟩
      go_wp2_with fail
      refine HB.out.mono ?_
      rintro e w1 ⟨rfl, rfl⟩
      go_wp2_with fail
      refine PA.out.mono ?_
      rintro e w1 ⟨rfl, rfl⟩
      go_wp2_with fail
      refine PB.out.mono ?_
      rintro e w1 ⟨rfl, rfl⟩
      go_wp2_with fail
      go_ret
      exact ⟨by rw [HR.out]; rfl, rfl⟩

theorem rconvert_ok (w : World) (x : Nat) (b : Int) (hx : x < 18446744073709551616) : Calls Try.prog 23 #[.int .u64 x, .int .i64 b] w fun e w' => e = .returned (.int .u64 (convN x b : Nat)) ∧ w = w' := by
  have HB := Lib.hid (bytes_ok w b)
  by_cases hb : 1 ≤ b ∧ b ≤ 8
  · rcases isInt_cases hb with rfl | rfl | rfl | rfl | rfl | rfl | rfl | rfl
    · obtain ⟨res, hres⟩ : ∃ r, r = convN x 1 := ⟨_, rfl⟩
      have hc := rsext_ok w x 1 hx (by omega)
      rw [← convE1, ← hres] at hc
      have HC := Lib.hid hc
      have hbn : bytesN 1 = 1 := rfl
      rw [hbn] at HB
      rw [← hres]
      clear hres hb hbn hc hx
      go_enter Try.func23, Try.ntmps23
      go_wp2_with fail
      refine HB.out.mono ?_
      rintro e w1 ⟨rfl, rfl⟩
      go_wp2_with fail
      refine HC.out.mono ?_
      rintro e w1 ⟨rfl, rfl⟩
      go_wp2_with fail
      go_ret
      exact ⟨rfl, rfl⟩
    · obtain ⟨res, hres⟩ : ∃ r, r = convN x 2 := ⟨_, rfl⟩
      have hc := rzext_ok w x 1 hx (by omega)
      rw [← convE2, ← hres] at hc
      have HC := Lib.hid hc
      have hbn : bytesN 2 = 1 := rfl
      rw [hbn] at HB
      rw [← hres]
      clear hres hb hbn hc hx
      go_enter Try.func23, Try.ntmps23
      go_wp2_with fail
      refine HB.out.mono ?_
      rintro e w1 ⟨rfl, rfl⟩
      go_wp2_with fail
      refine HC.out.mono ?_
      rintro e w1 ⟨rfl, rfl⟩
      go_wp2_with fail
      go_ret
      exact ⟨rfl, rfl⟩
    · obtain ⟨res, hres⟩ : ∃ r, r = convN x 3 := ⟨_, rfl⟩
      have hc := rsext_ok w x 2 hx (by omega)
      rw [← convE3, ← hres] at hc
      have HC := Lib.hid hc
      have hbn : bytesN 3 = 2 := rfl
      rw [hbn] at HB
      rw [← hres]
      clear hres hb hbn hc hx
      go_enter Try.func23, Try.ntmps23
      go_wp2_with fail
      refine HB.out.mono ?_
      rintro e w1 ⟨rfl, rfl⟩
      go_wp2_with fail
      refine HC.out.mono ?_
      rintro e w1 ⟨rfl, rfl⟩
      go_wp2_with fail
      go_ret
      exact ⟨rfl, rfl⟩
    · obtain ⟨res, hres⟩ : ∃ r, r = convN x 4 := ⟨_, rfl⟩
      have hc := rzext_ok w x 2 hx (by omega)
      rw [← convE4, ← hres] at hc
      have HC := Lib.hid hc
      have hbn : bytesN 4 = 2 := rfl
      rw [hbn] at HB
      rw [← hres]
      clear hres hb hbn hc hx
      go_enter Try.func23, Try.ntmps23
      go_wp2_with fail
      refine HB.out.mono ?_
      rintro e w1 ⟨rfl, rfl⟩
      go_wp2_with fail
      refine HC.out.mono ?_
      rintro e w1 ⟨rfl, rfl⟩
      go_wp2_with fail
      go_ret
      exact ⟨rfl, rfl⟩
    · obtain ⟨res, hres⟩ : ∃ r, r = convN x 5 := ⟨_, rfl⟩
      have hc := rsext_ok w x 4 hx (by omega)
      rw [← convE5, ← hres] at hc
      have HC := Lib.hid hc
      have hbn : bytesN 5 = 4 := rfl
      rw [hbn] at HB
      rw [← hres]
      clear hres hb hbn hc hx
      go_enter Try.func23, Try.ntmps23
      go_wp2_with fail
      refine HB.out.mono ?_
      rintro e w1 ⟨rfl, rfl⟩
      go_wp2_with fail
      refine HC.out.mono ?_
      rintro e w1 ⟨rfl, rfl⟩
      go_wp2_with fail
      go_ret
      exact ⟨rfl, rfl⟩
    · obtain ⟨res, hres⟩ : ∃ r, r = convN x 6 := ⟨_, rfl⟩
      have hc := rzext_ok w x 4 hx (by omega)
      rw [← convE6, ← hres] at hc
      have HC := Lib.hid hc
      have hbn : bytesN 6 = 4 := rfl
      rw [hbn] at HB
      rw [← hres]
      clear hres hb hbn hc hx
      go_enter Try.func23, Try.ntmps23
      go_wp2_with fail
      refine HB.out.mono ?_
      rintro e w1 ⟨rfl, rfl⟩
      go_wp2_with fail
      refine HC.out.mono ?_
      rintro e w1 ⟨rfl, rfl⟩
      go_wp2_with fail
      go_ret
      exact ⟨rfl, rfl⟩
    · obtain ⟨res, hres⟩ : ∃ r, r = convN x 7 := ⟨_, rfl⟩
      have hc := rsext_ok w x 8 hx (by omega)
      rw [← convE7, ← hres] at hc
      have HC := Lib.hid hc
      have hbn : bytesN 7 = 8 := rfl
      rw [hbn] at HB
      rw [← hres]
      clear hres hb hbn hc hx
      go_enter Try.func23, Try.ntmps23
      go_wp2_with fail
      refine HB.out.mono ?_
      rintro e w1 ⟨rfl, rfl⟩
      go_wp2_with fail
      refine HC.out.mono ?_
      rintro e w1 ⟨rfl, rfl⟩
      go_wp2_with fail
      go_ret
      exact ⟨rfl, rfl⟩
    · obtain ⟨res, hres⟩ : ∃ r, r = convN x 8 := ⟨_, rfl⟩
      have hc := rzext_ok w x 8 hx (by omega)
      rw [← convE8, ← hres] at hc
      have HC := Lib.hid hc
      have hbn : bytesN 8 = 8 := rfl
      rw [hbn] at HB
      rw [← hres]
      clear hres hb hbn hc hx
      go_enter Try.func23, Try.ntmps23
      go_wp2_with fail
      refine HB.out.mono ?_
      rintro e w1 ⟨rfl, rfl⟩
      go_wp2_with fail
      refine HC.out.mono ?_
      rintro e w1 ⟨rfl, rfl⟩
      go_wp2_with fail
      go_ret
      exact ⟨rfl, rfl⟩
  · have hi : isInt b = false := by unfold isInt; by_cases h1 : 1 ≤ b <;> simp [h1]; omega
    have HC : Hid (convN x b = x) := Lib.hid (by unfold convN; rw [hi]; rfl)
    rw [(bytesN_zero b).2 hi] at HB
    generalize convN x b = res at *
    clear hi hb
    go_enter Try.func23, Try.ntmps23
    go_wp2_with fail
    refine HB.out.mono ?_
    rintro e w1 ⟨rfl, rfl⟩
    go_wp2_with fail
    go_ret
    exact ⟨by rw [HC.out]; rfl, rfl⟩

theorem integert_ok (w : World) (b s : Int) (ma : Option Addr) (n mc : Nat) : Calls Try.prog 19 #[.agg #[.int .i64 b, .int .i64 s, .slice ma n mc]] w fun e w' => e = .returned (.bool (isInt b && n == 0)) ∧ Fr no w w' := by
  have R := Lib.hid ((Fr.refl no w).alloc (.cells #[.int .i64 b, .int .i64 s, .slice ma n mc] 30))
  have HI := Lib.hid (fun w => integer_ok w b)
  generalize isInt b = q at *
  cases q
  · go_enter Try.func19, Try.ntmps19
    go_wp2_with fail
    refine (HI.out _).mono ?_
    rintro e w1 ⟨rfl, rfl⟩
    go_wp2_with fail
    go_ret
    exact ⟨rfl, R.out⟩
  · by_cases hn : n = 0
    · have en : ((n : Int) == 0) = true := by rw [beq_iff_eq]; omega
      have HR : Hid ((n == 0) = true) := Lib.hid (by simp [hn])
      rw [HR.out]
      clear hn
      go_enter Try.func19, Try.ntmps19
      go_wp2_with fail
      refine (HI.out _).mono ?_
      rintro e w1 ⟨rfl, rfl⟩
      go_wp2_with fail
      go_ret
      exact ⟨rfl, R.out⟩
    · have en : ((n : Int) == 0) = false := by rw [beq_eq_false_iff_ne]; omega
      have HR : Hid ((n == 0) = false) := Lib.hid (by simp [hn])
      rw [HR.out]
      clear hn
      go_enter Try.func19, Try.ntmps19
      go_wp2_with fail
      refine (HI.out _).mono ?_
      rintro e w1 ⟨rfl, rfl⟩
      go_wp2_with fail
      go_ret
      exact ⟨rfl, R.out⟩

end Go.Proofs.Ytjpkmaacalelcaa

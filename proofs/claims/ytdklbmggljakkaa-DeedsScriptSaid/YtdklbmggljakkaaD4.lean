import Derived.Test.YtdklbmggljakkaaD3
set_option linter.unusedSimpArgs false
set_option linter.unusedVariables false
set_option linter.unusedSectionVars false
set_option linter.unnecessarySimpa false
namespace Go.Proofs.Ytdklbmggljakkaa
open Go.RowKit

attribute [local go_sem] Program.isFuncB Program.isSliceB

variable {w w' w'' w0 : World}

/-! ### which deeds and endings may be -/
def mayD (d : Dd) (over : Bool) : Bool := if d.1 = 1 then !(over && decide (0 ≤ d.2)) && decide (-1 ≤ d.2 ∧ d.2 < 256) else if d.1 = 2 then decide (0 ≤ d.2 ∧ d.2 < 256) else false
def mayE (e : Dd) : Bool := if e.1 = 1 then decide (0 ≤ e.2 ∧ e.2 < 256) else if e.1 = 2 then e.2 == 1 || e.2 == 2 else if e.1 = 3 ∨ e.1 = 4 then e.2 == 0 else false
def overD (over : Bool) (d : Dd) : Bool := over || (d.1 == 1 && decide (d.2 < 0))

set_option maxHeartbeats 4000000 in
theorem may_ok (w : World) (k b : Int) (over : Bool) : Calls Try.prog 48 #[.agg #[.int .i64 k, .int .i64 b], .bool over] w fun e w' => e = .returned (.bool (mayD (k, b) over)) ∧ Fr no w w' := by
  have R := Lib.hid ((Fr.refl no w).alloc (.cells #[.int .i64 k, .int .i64 b] 75))
  have HM : Hid (∀ q, mayD (k, b) over = q → Ending.returned (.bool q) = Ending.returned (.bool (mayD (k, b) over))) := Lib.hid (fun q h => by rw [h])
  by_cases h1 : k = 1
  · subst h1
    cases over
    all_goals
      go_enter Try.func48, Try.ntmps48
      go_wp2_with fail
    all_goals
      go_ret
      refine ⟨HM.out _ ?_, R.out⟩
      first | (simp [mayD]; done) | (simp [mayD]; omega) | (rw [Bool.eq_iff_iff]; simp [mayD]; omega)
  by_cases h2 : k = 2
  · subst h2
    go_enter Try.func48, Try.ntmps48
    go_wp2_with fail
    all_goals
      go_ret
      refine ⟨HM.out _ ?_, R.out⟩
      first | (simp [mayD]; done) | (simp [mayD]; omega) | (rw [Bool.eq_iff_iff]; simp [mayD]; omega)
  · have e1 : (k == 1) = false := by simpa using h1
    have e2 : (k == 2) = false := by simpa using h2
    have HQ : Hid (mayD (k, b) over = false) := Lib.hid (by unfold mayD; rw [if_neg h1, if_neg h2])
    clear h1 h2
    go_enter Try.func48, Try.ntmps48
    go_wp2_with fail
    go_ret
    exact ⟨by rw [HQ.out]; rfl, R.out⟩


set_option maxHeartbeats 4000000 in
theorem refdeed_ok (w : World) (k b : Int) : Calls Try.prog 50 #[.agg #[.int .i64 k, .int .i64 b]] w fun e w' => e = .returned (.bool (mayD (k, b) false)) ∧ Fr no w w' := by
  have R := Lib.hid ((Fr.refl no w).alloc (.cells #[.int .i64 k, .int .i64 b] 59))
  have HM : Hid (∀ q, mayD (k, b) false = q → Ending.returned (.bool q) = Ending.returned (.bool (mayD (k, b) false))) := Lib.hid (fun q h => by rw [h])
  by_cases h1 : k = 1
  · subst h1
    by_cases h3 : -1 ≤ b
    · by_cases h4 : b ≤ 255
      all_goals
        go_enter Try.func50, Try.ntmps50
        go_wp2_with fail
        go_ret
        refine ⟨HM.out _ ?_, R.out⟩
        first | (simp [mayD]; done) | (simp [mayD]; omega) | (rw [Bool.eq_iff_iff]; simp [mayD]; omega)
    · go_enter Try.func50, Try.ntmps50
      go_wp2_with fail
      go_ret
      refine ⟨HM.out _ ?_, R.out⟩
      first | (simp [mayD]; done) | (simp [mayD]; omega) | (rw [Bool.eq_iff_iff]; simp [mayD]; omega)
  by_cases h2 : k = 2
  · subst h2
    by_cases h3 : 0 ≤ b
    · by_cases h4 : b ≤ 255
      all_goals
        go_enter Try.func50, Try.ntmps50
        go_wp2_with fail
        go_ret
        refine ⟨HM.out _ ?_, R.out⟩
        first | (simp [mayD]; done) | (simp [mayD]; omega) | (rw [Bool.eq_iff_iff]; simp [mayD]; omega)
    · go_enter Try.func50, Try.ntmps50
      go_wp2_with fail
      go_ret
      refine ⟨HM.out _ ?_, R.out⟩
      first | (simp [mayD]; done) | (simp [mayD]; omega) | (rw [Bool.eq_iff_iff]; simp [mayD]; omega)
  · have e1 : (k == 1) = false := by simpa using h1
    have e2 : (k == 2) = false := by simpa using h2
    have HQ : Hid (mayD (k, b) false = false) := Lib.hid (by unfold mayD; rw [if_neg h1, if_neg h2])
    clear h1 h2
    go_enter Try.func50, Try.ntmps50
    go_wp2_with fail
    go_ret
    exact ⟨by rw [HQ.out]; rfl, R.out⟩

theorem mayE_else (k c : Int) (h1 : k ≠ 1) (h2 : k ≠ 2) (h3 : k ≠ 3) (h4 : k ≠ 4) : mayE (k, c) = false := by
  unfold mayE; rw [if_neg h1, if_neg h2, if_neg (by rintro (h | h) <;> contradiction)]

set_option maxHeartbeats 4000000 in
theorem ending_ok (w : World) (k c : Int) : Calls Try.prog 47 #[.agg #[.int .i64 k, .int .i64 c]] w fun e w' => e = .returned (.bool (mayE (k, c))) ∧ Fr no w w' := by
  have R := Lib.hid ((Fr.refl no w).alloc (.cells #[.int .i64 k, .int .i64 c] 81))
  have HM : Hid (∀ q, mayE (k, c) = q → Ending.returned (.bool q) = Ending.returned (.bool (mayE (k, c)))) := Lib.hid (fun q h => by rw [h])
  by_cases h1 : k = 1
  · subst h1
    by_cases h3 : 0 ≤ c
    all_goals
      go_enter Try.func47, Try.ntmps47
      go_wp2_with fail
      go_ret
      refine ⟨HM.out _ ?_, R.out⟩
      first | (simp [mayE]; done) | (simp [mayE]; omega) | (rw [Bool.eq_iff_iff]; simp [mayE]; omega)
  by_cases h2 : k = 2
  · subst h2
    by_cases h3 : c = 1
    · subst h3
      go_enter Try.func47, Try.ntmps47
      go_wp2_with fail
      go_ret
      exact ⟨HM.out _ (by decide), R.out⟩
    · have e3 : (c == 1) = false := by simpa using h3
      have HQ : Hid (mayE (2, c) = (c == 2)) := Lib.hid (by simp [mayE, h3])
      clear h3
      go_enter Try.func47, Try.ntmps47
      go_wp2_with fail
      go_ret
      exact ⟨HM.out _ HQ.out, R.out⟩
  by_cases h3 : k = 3
  · subst h3
    go_enter Try.func47, Try.ntmps47
    go_wp2_with fail
    go_ret
    exact ⟨HM.out _ rfl, R.out⟩
  by_cases h4 : k = 4
  · subst h4
    go_enter Try.func47, Try.ntmps47
    go_wp2_with fail
    go_ret
    exact ⟨HM.out _ rfl, R.out⟩
  · have HQ := Lib.hid (mayE_else k c h1 h2 h3 h4)
    have e1 : (k == 1) = false := by simpa using h1
    have e2 : (k == 2) = false := by simpa using h2
    have e3 : (k == 3) = false := by simpa using h3
    have e4 : (k == 4) = false := by simpa using h4
    clear h1 h2 h3 h4
    go_enter Try.func47, Try.ntmps47
    go_wp2_with fail
    go_ret
    exact ⟨HM.out _ HQ.out, R.out⟩

set_option maxHeartbeats 4000000 in
theorem refending_ok (w : World) (k c : Int) : Calls Try.prog 49 #[.agg #[.int .i64 k, .int .i64 c]] w fun e w' => e = .returned (.bool (mayE (k, c))) ∧ Fr no w w' := by
  have R := Lib.hid ((Fr.refl no w).alloc (.cells #[.int .i64 k, .int .i64 c] 50))
  have HM : Hid (∀ q, mayE (k, c) = q → Ending.returned (.bool q) = Ending.returned (.bool (mayE (k, c)))) := Lib.hid (fun q h => by rw [h])
  by_cases h1 : k = 1
  · subst h1
    by_cases h3 : 0 ≤ c
    all_goals
      go_enter Try.func49, Try.ntmps49
      go_wp2_with fail
      go_ret
      refine ⟨HM.out _ ?_, R.out⟩
      first | (simp [mayE]; done) | (simp [mayE]; omega) | (rw [Bool.eq_iff_iff]; simp [mayE]; omega)
  by_cases h2 : k = 2
  · subst h2
    by_cases h3 : c = 1
    · subst h3
      go_enter Try.func49, Try.ntmps49
      go_wp2_with fail
      go_ret
      exact ⟨HM.out _ (by decide), R.out⟩
    · have e3 : (c == 1) = false := by simpa using h3
      have HQ : Hid (mayE (2, c) = (c == 2)) := Lib.hid (by simp [mayE, h3])
      clear h3
      go_enter Try.func49, Try.ntmps49
      go_wp2_with fail
      go_ret
      exact ⟨HM.out _ HQ.out, R.out⟩
  by_cases h3 : k = 3
  · subst h3
    go_enter Try.func49, Try.ntmps49
    go_wp2_with fail
    go_ret
    exact ⟨HM.out _ rfl, R.out⟩
  by_cases h4 : k = 4
  · subst h4
    go_enter Try.func49, Try.ntmps49
    go_wp2_with fail
    go_ret
    exact ⟨HM.out _ rfl, R.out⟩
  · have HQ := Lib.hid (mayE_else k c h1 h2 h3 h4)
    have e1 : (k == 1) = false := by simpa using h1
    have e2 : (k == 2) = false := by simpa using h2
    have e3 : (k == 3) = false := by simpa using h3
    have e4 : (k == 4) = false := by simpa using h4
    clear h1 h2 h3 h4
    go_enter Try.func49, Try.ntmps49
    go_wp2_with fail
    go_ret
    exact ⟨HM.out _ HQ.out, R.out⟩

/-- which outcomes may be -/
def scanD : List Dd → Bool → Bool
  | [], _ => true
  | d :: l, o => mayD d o && scanD l (overD o d)
def overL (l : List Dd) : Bool := l.foldl overD false
theorem scanD_app (l m : List Dd) : ∀ o, scanD (l ++ m) o = (scanD l o && scanD m (l.foldl overD o)) := by
  induction l with
  | nil => intro o; simp [scanD]
  | cons d l ih => intro o; simp [scanD, ih, Bool.and_assoc]
theorem overL_snoc (l : List Dd) (d : Dd) : overL (l ++ [d]) = overD (overL l) d := by simp [overL]
def chkO (l : List Dd) (e : Dd) : Int := if 100000 < l.length ∨ mayE e = false then 2 else if scanD l false = true then 0 else 2

end Go.Proofs.Ytdklbmggljakkaa

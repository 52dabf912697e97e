/- Does a type hold a struct; the comparison of measures (law24). -/
import Derived.Test.YtjpkmaacalelcaaDoorY5
set_option linter.unusedSimpArgs false
set_option linter.unusedVariables false
set_option linter.unusedSectionVars false
set_option linter.unnecessarySimpa false
namespace Go.Proofs.YtjpkmaacalelcaaDoor
open Go.RowKit Go.Ty

attribute [local go_sem] Program.isFuncB Program.isSliceB

variable {w w' w'' w0 : World}

theorem contains_ok (w : World) (ms : List Int) (ma : Option Addr) (mc : Nat) (hm : Reads w (.slice ma ms.length mc) 1 ms.length (ints ms)) (hl : ms.length ≤ 1000000) :
    Calls Tryd.prog 63 #[.slice ma ms.length mc, .int .i64 (-1)] w fun e w' => e = .returned (.bool (ms.contains (-1))) ∧ w' = w := by
  by_cases h0 : ms.length = 0
  · have e : ms = [] := List.length_eq_zero_iff.1 h0
    subst e
    exact Tryd.slices_Contains_int_empty ma mc (-1) w
  · have hp : 0 < ms.length := by omega
    obtain ⟨b, o, rfl, -⟩ := hm.at1 (k := 0) (u := .int .i64 ms[0]) (by simp [ints, hp])
    have := Tryd.slices_Contains_int b o ms.length mc ms (-1) w (Nat.le_refl _) (by omega) (fun j hj => by
      obtain ⟨b', o', e0, e1⟩ := hm.at1 (k := j) (u := .int .i64 ms[j]) (by simp [ints, hj])
      cases e0
      rw [List.getD_eq_getElem?_getD, List.getElem?_eq_getElem hj]
      exact e1)
    rwa [List.take_length] at this

theorem inside_ok (w : World) (b s : Int) (ms : List Int) (ma : Option Addr) (mc : Nat) (hm : Reads w (.slice ma ms.length mc) 1 ms.length (ints ms)) (hl : ms.length ≤ 1000000) :
    Calls Tryd.prog 41 #[.agg #[.int .i64 b, .int .i64 s, .slice ma ms.length mc]] w fun e w' => e = .returned (.bool (insideB ⟨b, s, ms⟩)) ∧ Fr no w w' := by
  have r1 := (Fr.refl no w).alloc (.cells #[.int .i64 b, .int .i64 s, .slice ma ms.length mc] 25)
  have R := Lib.hid r1
  have HC := Lib.hid (contains_ok _ ms ma mc (hm.fr r1 (by simp)) hl)
  have HR : Hid (insideB ⟨b, s, ms⟩ = (b == 9 && !ms.contains (-1))) := Lib.hid rfl
  generalize insideB ⟨b, s, ms⟩ = res at *
  generalize ms.contains (-1) = q at *
  clear hm r1
  by_cases h9 : b = 9
  · have e9 : (b == 9) = true := by simpa using h9
    have HV : Hid (res = !q) := Lib.hid (by rw [HR.out, e9]; rfl)
    clear h9
    go_enter Tryd.func41, Tryd.ntmps41
    go_wp2_with fail
    refine HC.out.mono ?_
    rintro e w2 ⟨rfl, rfl⟩
    go_wp2_with fail
    go_ret
    exact ⟨by rw [HV.out]; rfl, R.out⟩
  · have e9 : (b == 9) = false := by simpa using h9
    have HV : Hid (res = false) := Lib.hid (by rw [HR.out, e9]; rfl)
    clear h9
    go_enter Tryd.func41, Tryd.ntmps41
    go_wp2_with fail
    go_ret
    exact ⟨by rw [HV.out]; rfl, R.out⟩

theorem cmp_ok (w : World) (a b c d : Nat) (h1 : a ≤ 100000 ∧ b ≤ 100000 ∧ c ≤ 100000 ∧ d ≤ 100000) :
    Calls Tryd.prog 68 #[.agg #[.int .i64 a, .int .i64 b], .agg #[.int .i64 c, .int .i64 d]] w fun e w' => e = .returned (.int .i64 ((b : Int) - d)) ∧ Fr no w w' := by
  have R := Lib.hid (((Fr.refl no w).alloc (.cells #[.int .i64 a, .int .i64 b] 60)).alloc (.cells #[.int .i64 c, .int .i64 d] 60))
  go_enter Tryd.func68, Tryd.ntmps68
  go_wp2_with fail
  go_ret
  refine ⟨?_, R.out⟩
  show Ending.returned (Value.int .i64 _) = Ending.returned (Value.int .i64 _)
  congr 2

end Go.Proofs.YtjpkmaacalelcaaDoor

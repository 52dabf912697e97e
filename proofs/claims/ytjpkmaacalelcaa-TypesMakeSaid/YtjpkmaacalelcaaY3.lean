/- The document's numbers of a base (law24). -/
import Derived.Test.YtjpkmaacalelcaaY1
import Derived.Deep.CutBlock
set_option linter.unusedSimpArgs false
set_option linter.unusedVariables false
set_option linter.unusedSectionVars false
set_option linter.unnecessarySimpa false
namespace Go.Proofs.Ytjpkmaacalelcaa
open Go.RowKit Go.Ty

attribute [local go_sem] Program.isFuncB Program.isSliceB

variable {w w' w'' w0 : World}

theorem rsized_ok (w : World) (k : Int) : Calls Try.prog 48 #[.int .i64 k] w fun e w' => e = .returned (.bool (decide (k = 1 ∨ k = 2 ∨ k = 4 ∨ k = 8))) ∧ w = w' := by
  by_cases h1 : k = 1
  · subst h1
    go_enter Try.func48, Try.ntmps48
    go_wp2_with fail
    go_ret
    exact ⟨rfl, rfl⟩
  have e1 : (k == 1) = false := by simpa using h1
  by_cases h2 : k = 2
  · subst h2
    go_enter Try.func48, Try.ntmps48
    go_wp2_with fail
    go_ret
    exact ⟨rfl, rfl⟩
  have e2 : (k == 2) = false := by simpa using h2
  by_cases h4 : k = 4
  · subst h4
    go_enter Try.func48, Try.ntmps48
    go_wp2_with fail
    go_ret
    exact ⟨rfl, rfl⟩
  have e4 : (k == 4) = false := by simpa using h4
  by_cases h8 : k = 8
  · subst h8
    go_enter Try.func48, Try.ntmps48
    go_wp2_with fail
    go_ret
    exact ⟨rfl, rfl⟩
  have e8 : (k == 8) = false := by simpa using h8
  rw [decide_eq_false (by omega)]
  clear h1 h2 h4 h8
  go_enter Try.func48, Try.ntmps48
  go_wp2_with fail
  go_ret
  exact ⟨rfl, rfl⟩


def bytesN (b : Int) : Nat := if isInt b = true then sizeN b else 0
theorem bytes_ok (w : World) (b : Int) : Calls Try.prog 37 #[.int .i64 b] w fun e w' => e = .returned (.int .i64 (bytesN b : Nat)) ∧ w = w' := by
  by_cases hb : 1 ≤ b ∧ b ≤ 8
  · rcases isInt_cases hb with rfl | rfl | rfl | rfl | rfl | rfl | rfl | rfl
    all_goals
      clear hb
      go_enter Try.func37, Try.ntmps37
      go_wp2_with fail
      go_ret
      exact ⟨rfl, rfl⟩
  · have hi : isInt b = false := by unfold isInt; by_cases h1 : 1 ≤ b <;> simp [h1]; omega
    have HR : Hid (bytesN b = 0) := Lib.hid (by unfold bytesN; rw [hi]; rfl)
    generalize bytesN b = r at *
    clear hi
    by_cases h1 : b < 1
    · go_enter Try.func37, Try.ntmps37
      go_wp2_with fail
      go_ret
      exact ⟨by rw [HR.out]; rfl, rfl⟩
    · have h8 : 8 < b := by omega
      clear hb
      go_enter Try.func37, Try.ntmps37
      go_wp2_with fail
      go_ret
      exact ⟨by rw [HR.out]; rfl, rfl⟩
theorem bytesN_zero (b : Int) : bytesN b = 0 ↔ isInt b = false := by
  unfold bytesN
  cases h : isInt b
  · simp
  · have hb : 1 ≤ b ∧ b ≤ 8 := by unfold isInt at h; simpa using h
    rcases isInt_cases hb with rfl | rfl | rfl | rfl | rfl | rfl | rfl | rfl <;> simp [sizeN]

theorem rzext_ok (w : World) (x k : Nat) (hx : x < 18446744073709551616) (hk : k = 1 ∨ k = 2 ∨ k = 4 ∨ k = 8) : Calls Try.prog 39 #[.int .u64 x, .int .i64 k] w fun e w' => e = .returned (.int .u64 (zextN x k : Nat)) ∧ w = w' := by
  have HS := Lib.hid (rsized_ok w k)
  rcases hk with rfl | rfl | rfl | rfl
  all_goals
    go_enter Try.func39, Try.ntmps39
    go_wp2_with fail
    refine HS.out.mono ?_
    rintro e w1 ⟨rfl, rfl⟩
    go_wp2_with fail
    go_ret
    refine ⟨?_, rfl⟩
    show Ending.returned (Value.int .u64 _) = Ending.returned (Value.int .u64 _)
    congr 2 <;> (unfold zextN; try simp only [IntKind.wrap_u64]) <;> (try simp) <;> (try omega)
set_option maxRecDepth 100000 in
theorem rsext_ok (w : World) (x k : Nat) (hx : x < 18446744073709551616) (hk : k = 1 ∨ k = 2 ∨ k = 4 ∨ k = 8) : Calls Try.prog 38 #[.int .u64 x, .int .i64 k] w fun e w' => e = .returned (.int .u64 (sextN x k : Nat)) ∧ w = w' := by
  have HS := Lib.hid (rsized_ok w k)
  have HZ := Lib.hid (rzext_ok w x k hx hk)
  rcases hk with rfl | rfl | rfl | rfl
  · have hz : zextN x 1 = x % 256 := by simp [zextN]
    have HX : Hid (sextN x 1 = if x % 256 < 128 then x % 256 else x % 256 + 18446744073709551360) := Lib.hid (by simp [sextN])
    rw [hz] at HZ
    have hm : x % 256 < 256 := Nat.mod_lt _ (by omega)
    generalize x % 256 = y at *
    clear hz
    generalize sextN x 1 = res at *
    by_cases hy : y < 128
    · have HR : Hid (res = y) := Lib.hid (by rw [HX.out, if_pos hy])
      have HY : Hid (¬ (y : Int) ≥ 128) := Lib.hid (by omega)
      clear hy hm HX
      go_enter Try.func38, Try.ntmps38
      go_wp2_with fail
      refine HZ.out.mono ?_
      rintro e w1 ⟨rfl, rfl⟩
      go_wp2_with fail
      refine HS.out.mono ?_
      rintro e w1 ⟨rfl, rfl⟩
      go_upto_region 5 with (fail)
      generalize (128 : Int) = T at HY ⊢
      have hy' := HY.out
      go_wp2_with fail
      go_ret
      exact ⟨by rw [HR.out]; rfl, rfl⟩
    · have HR : Hid ((res : Int) = IntKind.u64.wrap ((y : Int) - IntKind.u64.wrap (2 * 128))) := Lib.hid (by rw [HX.out, if_neg hy, IntKind.wrap_u64, IntKind.wrap_u64]; omega)
      have HY : Hid ((y : Int) ≥ 128) := Lib.hid (by omega)
      clear hy hm HX
      go_enter Try.func38, Try.ntmps38
      go_wp2_with fail
      refine HZ.out.mono ?_
      rintro e w1 ⟨rfl, rfl⟩
      go_wp2_with fail
      refine HS.out.mono ?_
      rintro e w1 ⟨rfl, rfl⟩
      go_upto_region 5 with (fail)
      generalize (128 : Int) = T at HY HR ⊢
      have hy' := HY.out
      go_wp2_with fail
      go_ret
      exact ⟨by rw [HR.out]; rfl, rfl⟩
  · have hz : zextN x 2 = x % 65536 := by simp [zextN]
    have HX : Hid (sextN x 2 = if x % 65536 < 32768 then x % 65536 else x % 65536 + 18446744073709486080) := Lib.hid (by simp [sextN])
    rw [hz] at HZ
    have hm : x % 65536 < 65536 := Nat.mod_lt _ (by omega)
    generalize x % 65536 = y at *
    clear hz
    generalize sextN x 2 = res at *
    by_cases hy : y < 32768
    · have HR : Hid (res = y) := Lib.hid (by rw [HX.out, if_pos hy])
      have HY : Hid (¬ (y : Int) ≥ 32768) := Lib.hid (by omega)
      clear hy hm HX
      go_enter Try.func38, Try.ntmps38
      go_wp2_with fail
      refine HZ.out.mono ?_
      rintro e w1 ⟨rfl, rfl⟩
      go_wp2_with fail
      refine HS.out.mono ?_
      rintro e w1 ⟨rfl, rfl⟩
      go_upto_region 5 with (fail)
      generalize (32768 : Int) = T at HY ⊢
      have hy' := HY.out
      go_wp2_with fail
      go_ret
      exact ⟨by rw [HR.out]; rfl, rfl⟩
    · have HR : Hid ((res : Int) = IntKind.u64.wrap ((y : Int) - IntKind.u64.wrap (2 * 32768))) := Lib.hid (by rw [HX.out, if_neg hy, IntKind.wrap_u64, IntKind.wrap_u64]; omega)
      have HY : Hid ((y : Int) ≥ 32768) := Lib.hid (by omega)
      clear hy hm HX
      go_enter Try.func38, Try.ntmps38
      go_wp2_with fail
      refine HZ.out.mono ?_
      rintro e w1 ⟨rfl, rfl⟩
      go_wp2_with fail
      refine HS.out.mono ?_
      rintro e w1 ⟨rfl, rfl⟩
      go_upto_region 5 with (fail)
      generalize (32768 : Int) = T at HY HR ⊢
      have hy' := HY.out
      go_wp2_with fail
      go_ret
      exact ⟨by rw [HR.out]; rfl, rfl⟩
  · have hz : zextN x 4 = x % 4294967296 := by simp [zextN]
    have HX : Hid (sextN x 4 = if x % 4294967296 < 2147483648 then x % 4294967296 else x % 4294967296 + 18446744069414584320) := Lib.hid (by simp [sextN])
    rw [hz] at HZ
    have hm : x % 4294967296 < 4294967296 := Nat.mod_lt _ (by omega)
    generalize x % 4294967296 = y at *
    clear hz
    generalize sextN x 4 = res at *
    by_cases hy : y < 2147483648
    · have HR : Hid (res = y) := Lib.hid (by rw [HX.out, if_pos hy])
      have HY : Hid (¬ (y : Int) ≥ 2147483648) := Lib.hid (by omega)
      clear hy hm HX
      go_enter Try.func38, Try.ntmps38
      go_wp2_with fail
      refine HZ.out.mono ?_
      rintro e w1 ⟨rfl, rfl⟩
      go_wp2_with fail
      refine HS.out.mono ?_
      rintro e w1 ⟨rfl, rfl⟩
      go_upto_region 5 with (fail)
      generalize (2147483648 : Int) = T at HY ⊢
      have hy' := HY.out
      go_wp2_with fail
      go_ret
      exact ⟨by rw [HR.out]; rfl, rfl⟩
    · have HR : Hid ((res : Int) = IntKind.u64.wrap ((y : Int) - IntKind.u64.wrap (2 * 2147483648))) := Lib.hid (by rw [HX.out, if_neg hy, IntKind.wrap_u64, IntKind.wrap_u64]; omega)
      have HY : Hid ((y : Int) ≥ 2147483648) := Lib.hid (by omega)
      clear hy hm HX
      go_enter Try.func38, Try.ntmps38
      go_wp2_with fail
      refine HZ.out.mono ?_
      rintro e w1 ⟨rfl, rfl⟩
      go_wp2_with fail
      refine HS.out.mono ?_
      rintro e w1 ⟨rfl, rfl⟩
      go_upto_region 5 with (fail)
      generalize (2147483648 : Int) = T at HY HR ⊢
      have hy' := HY.out
      go_wp2_with fail
      go_ret
      exact ⟨by rw [HR.out]; rfl, rfl⟩
  · have hz : zextN x 8 = x := by simp [zextN]
    have HR : Hid (sextN x 8 = x) := Lib.hid (by simp [sextN])
    rw [hz] at HZ
    generalize sextN x 8 = res at *
    go_enter Try.func38, Try.ntmps38
    go_wp2_with fail
    refine HZ.out.mono ?_
    rintro e w1 ⟨rfl, rfl⟩
    go_wp2_with fail
    go_ret
    exact ⟨by rw [HR.out]; rfl, rfl⟩

end Go.Proofs.Ytjpkmaacalelcaa

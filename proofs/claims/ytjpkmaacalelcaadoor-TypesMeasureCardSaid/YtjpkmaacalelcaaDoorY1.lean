/- Numbers of a base (law24). -/
import Derived.Test.YtjpkmaacalelcaaDoorLA
import Derived.Deep.WholeRow
import Derived.Test.YtjpkmaacalelcaaDoorYb
set_option linter.unusedSimpArgs false
set_option linter.unusedVariables false
set_option linter.unusedSectionVars false
set_option linter.unnecessarySimpa false
namespace Go.Proofs.YtjpkmaacalelcaaDoor
open Go.RowKit Go.Ty Go.Deep

attribute [local go_sem] Program.isFuncB Program.isSliceB

variable {w w' w'' w0 : World}

theorem sized_ok (w : World) (k : Int) : Calls Tryd.prog 65 #[.int .i64 k] w fun e w' => e = .returned (.bool (decide (k = 1 ∨ k = 2 ∨ k = 4 ∨ k = 8))) ∧ w = w' := by
  by_cases h1 : k = 1
  · subst h1
    go_enter Tryd.func65, Tryd.ntmps65
    go_wp2_with fail
    go_ret
    exact ⟨rfl, rfl⟩
  have e1 : (k == 1) = false := by simpa using h1
  by_cases h2 : k = 2
  · subst h2
    go_enter Tryd.func65, Tryd.ntmps65
    go_wp2_with fail
    go_ret
    exact ⟨rfl, rfl⟩
  have e2 : (k == 2) = false := by simpa using h2
  by_cases h4 : k = 4
  · subst h4
    go_enter Tryd.func65, Tryd.ntmps65
    go_wp2_with fail
    go_ret
    exact ⟨rfl, rfl⟩
  have e4 : (k == 4) = false := by simpa using h4
  by_cases h8 : k = 8
  · subst h8
    go_enter Tryd.func65, Tryd.ntmps65
    go_wp2_with fail
    go_ret
    exact ⟨rfl, rfl⟩
  have e8 : (k == 8) = false := by simpa using h8
  rw [decide_eq_false (by omega)]
  clear h1 h2 h4 h8
  go_enter Tryd.func65, Tryd.ntmps65
  go_wp2_with fail
  go_ret
  exact ⟨rfl, rfl⟩

theorem integer_ok (w : World) (b : Int) : Calls Tryd.prog 46 #[.int .i64 b] w fun e w' => e = .returned (.bool (isInt b)) ∧ w = w' := by
  unfold isInt
  by_cases h1 : 1 ≤ b
  · have h1' : b ≥ 1 := h1
    by_cases h2 : b ≤ 8
    · rw [decide_eq_true h1, decide_eq_true h2]
      go_enter Tryd.func46, Tryd.ntmps46
      go_wp2_with fail
      go_ret
      exact ⟨rfl, rfl⟩
    · rw [decide_eq_true h1, decide_eq_false h2]
      go_enter Tryd.func46, Tryd.ntmps46
      go_wp2_with fail
      go_ret
      exact ⟨rfl, rfl⟩
  · have h1' : ¬ b ≥ 1 := h1
    rw [decide_eq_false h1]
    go_enter Tryd.func46, Tryd.ntmps46
    go_wp2_with fail
    go_ret
    exact ⟨rfl, rfl⟩

theorem promote_ok (w : World) (b : Int) : Calls Tryd.prog 26 #[.int .i64 b] w fun e w' => e = .returned (.int .i64 (promB b)) ∧ w = w' := by
  have HI := Lib.hid (integer_ok w b)
  have HP : Hid (promB b = if isInt b = true then (if b < 5 then 5 else b) else 0) := Lib.hid rfl
  generalize isInt b = q at *
  generalize promB b = r at *
  cases q
  · have HR : Hid (r = 0) := Lib.hid (by rw [HP.out]; rfl)
    go_enter Tryd.func26, Tryd.ntmps26
    go_wp2_with fail
    refine HI.out.mono ?_
    rintro e w1 ⟨rfl, rfl⟩
    go_wp2_with fail
    go_ret
    exact ⟨by rw [HR.out]; rfl, rfl⟩
  · by_cases h5 : b < 5
    · have HR : Hid (r = 5) := Lib.hid (by rw [HP.out, if_pos rfl, if_pos h5])
      go_enter Tryd.func26, Tryd.ntmps26
      go_wp2_with fail
      refine HI.out.mono ?_
      rintro e w1 ⟨rfl, rfl⟩
      go_wp2_with fail
      go_ret
      exact ⟨by rw [HR.out]; rfl, rfl⟩
    · have HR : Hid (r = b) := Lib.hid (by rw [HP.out, if_pos rfl, if_neg h5])
      go_enter Tryd.func26, Tryd.ntmps26
      go_wp2_with fail
      refine HI.out.mono ?_
      rintro e w1 ⟨rfl, rfl⟩
      go_wp2_with fail
      go_ret
      exact ⟨by rw [HR.out]; rfl, rfl⟩

theorem common_ok (w : World) (a b : Int) : Calls Tryd.prog 27 #[.int .i64 a, .int .i64 b] w fun e w' => e = .returned (.int .i64 (commB a b)) ∧ w = w' := by
  have HA := Lib.hid (integer_ok w a)
  have HB := Lib.hid (integer_ok w b)
  have PA := Lib.hid (promote_ok w a)
  have PB := Lib.hid (promote_ok w b)
  have HC : Hid (commB a b = if isInt a = true ∧ isInt b = true then (if promB a < promB b then promB b else promB a) else 0) := Lib.hid rfl
  generalize isInt a = qa at *
  generalize isInt b = qb at *
  generalize promB a = pa at *
  generalize promB b = pb at *
  generalize commB a b = r at *
  cases qa
  · have HR : Hid (r = 0) := Lib.hid (by rw [HC.out]; rfl)
    go_enter Tryd.func27, Tryd.ntmps27
    go_wp2_with fail
    refine HA.out.mono ?_
    rintro e w1 ⟨rfl, rfl⟩
    go_wp2_with fail
    go_ret
    exact ⟨by rw [HR.out]; rfl, rfl⟩
  · cases qb
    · have HR : Hid (r = 0) := Lib.hid (by rw [HC.out]; rfl)
      go_enter Tryd.func27, Tryd.ntmps27
      go_wp2_with fail
      refine HA.out.mono ?_
      rintro e w1 ⟨rfl, rfl⟩
      go_wp2_with fail
      refine HB.out.mono ?_
      rintro e w1 ⟨rfl, rfl⟩
      go_wp2_with fail
      go_ret
      exact ⟨by rw [HR.out]; rfl, rfl⟩
    · by_cases hlt : pa < pb
      · have HR : Hid (r = pb) := Lib.hid (by rw [HC.out, if_pos ⟨rfl, rfl⟩, if_pos hlt])
        go_enter Tryd.func27, Tryd.ntmps27
        go_wp2_with fail
        refine HA.out.mono ?_
        rintro e w1 ⟨rfl, rfl⟩
        go_wp2_with fail
        refine HB.out.mono ?_
        rintro e w1 ⟨rfl, rfl⟩
        go_wp2_with fail
        refine PA.out.mono ?_
        rintro e w1 ⟨rfl, rfl⟩
        go_wp2_with fail
        refine PB.out.mono ?_
        rintro e w1 ⟨rfl, rfl⟩
        go_wp2_with fail
        go_ret
        exact ⟨by rw [HR.out]; rfl, rfl⟩
      · have HR : Hid (r = pa) := Lib.hid (by rw [HC.out, if_pos ⟨rfl, rfl⟩, if_neg hlt])
        go_enter Tryd.func27, Tryd.ntmps27
        go_wp2_with fail
        refine HA.out.mono ?_
        rintro e w1 ⟨rfl, rfl⟩
        go_wp2_with fail
        refine HB.out.mono ?_
        rintro e w1 ⟨rfl, rfl⟩
        go_wp2_with fail
        refine PA.out.mono ?_
        rintro e w1 ⟨rfl, rfl⟩
        go_wp2_with fail
        refine PB.out.mono ?_
        rintro e w1 ⟨rfl, rfl⟩
        go_wp2_with fail
        go_ret
        exact ⟨by rw [HR.out]; rfl, rfl⟩

def sizesC : Array Value := #[.int .i64 0, .int .i64 1, .int .i64 1, .int .i64 2, .int .i64 2, .int .i64 4, .int .i64 4, .int .i64 8, .int .i64 8]
theorem infoSizes : (Tryd.prog.info? 74).map (·.size) = some sizesC.size := by kernel_rfl
theorem sizes_ok (w : World) : Calls Tryd.prog 48 #[] w fun e w' => e = .returned (.agg sizesC) ∧ Fr no w w' := by
  have hld := run_loadVar_new (P := Tryd.prog) w 74 sizesC 9 3 Tryd.underlying74 infoSizes
  go_enter Tryd.func48, Tryd.ntmps48
  go_wp2_with fail
  exact bodyPost_ret (results_cell rfl rfl hld) rfl ⟨rfl, (Fr.refl no w).alloc _⟩

theorem zext_ok (w : World) (x k : Nat) (hx : x < 18446744073709551616) : Calls Tryd.prog 49 #[.int .u64 x, .int .i64 k] w fun e w' => e = .returned (.int .u64 (zextN x k : Nat)) ∧ w = w' := by
  have HS := Lib.hid (sized_ok w k)
  by_cases hk : k = 1 ∨ k = 2 ∨ k = 4 ∨ k = 8
  · rcases hk with rfl | rfl | rfl | rfl
    all_goals
      go_enter Tryd.func49, Tryd.ntmps49
      go_wp2_with fail
      refine HS.out.mono ?_
      rintro e w1 ⟨rfl, rfl⟩
      go_wp2_with fail
      go_ret
      refine ⟨?_, rfl⟩
      show Ending.returned (Value.int .u64 _) = Ending.returned (Value.int .u64 _)
      congr 2 <;> (unfold zextN; try simp only [IntKind.wrap_u64]) <;> (try simp) <;> (try omega)
  · have HZ : Hid (zextN x k = 0) := Lib.hid (by unfold zextN; rw [if_neg (by omega), if_neg (by omega), if_neg (by omega), if_neg (by omega)])
    have hd : decide ((k : Int) = 1 ∨ (k : Int) = 2 ∨ (k : Int) = 4 ∨ (k : Int) = 8) = false := decide_eq_false (by omega)
    rw [hd] at HS
    clear hk hd
    go_enter Tryd.func49, Tryd.ntmps49
    go_wp2_with fail
    refine HS.out.mono ?_
    rintro e w1 ⟨rfl, rfl⟩
    go_wp2_with fail
    go_ret
    exact ⟨by rw [HZ.out]; rfl, rfl⟩

theorem sext_ok (w : World) (x k : Nat) (hx : x < 18446744073709551616) : Calls Tryd.prog 47 #[.int .u64 x, .int .i64 k] w fun e w' => e = .returned (.int .u64 (sextN x k : Nat)) ∧ w = w' := by
  have HS := Lib.hid (sized_ok w k)
  by_cases hk : k = 1 ∨ k = 2 ∨ k = 4 ∨ k = 8
  · rcases hk with rfl | rfl | rfl | rfl
    all_goals
      go_enter Tryd.func47, Tryd.ntmps47
      go_wp2_with fail
      refine HS.out.mono ?_
      rintro e w1 ⟨rfl, rfl⟩
      go_wp2_with fail
      go_ret
      refine ⟨?_, rfl⟩
      show Ending.returned (Value.int .u64 _) = Ending.returned (Value.int .u64 _)
      congr 2
      unfold sextN
      simp only [IntKind.wrap_u64, IntKind.wrap_i64]
      simp [wrap64]
      try (split <;> omega)
      try omega
  · have HZ : Hid (sextN x k = 0) := Lib.hid (by unfold sextN; rw [if_neg (by omega), if_neg (by omega), if_neg (by omega), if_neg (by omega)])
    have hd : decide ((k : Int) = 1 ∨ (k : Int) = 2 ∨ (k : Int) = 4 ∨ (k : Int) = 8) = false := decide_eq_false (by omega)
    rw [hd] at HS
    clear hk hd
    go_enter Tryd.func47, Tryd.ntmps47
    go_wp2_with fail
    refine HS.out.mono ?_
    rintro e w1 ⟨rfl, rfl⟩
    go_wp2_with fail
    go_ret
    exact ⟨by rw [HZ.out]; rfl, rfl⟩

theorem convE1 (x : Nat) : convN x 1 = sextN x 1 := by simp [convN, isInt, sizeN]
theorem convE2 (x : Nat) : convN x 2 = zextN x 1 := by simp [convN, isInt, sizeN]
theorem convE3 (x : Nat) : convN x 3 = sextN x 2 := by simp [convN, isInt, sizeN]
theorem convE4 (x : Nat) : convN x 4 = zextN x 2 := by simp [convN, isInt, sizeN]
theorem convE5 (x : Nat) : convN x 5 = sextN x 4 := by simp [convN, isInt, sizeN]
theorem convE6 (x : Nat) : convN x 6 = zextN x 4 := by simp [convN, isInt, sizeN]
theorem convE7 (x : Nat) : convN x 7 = sextN x 8 := by simp [convN, isInt, sizeN]
theorem convE8 (x : Nat) : convN x 8 = zextN x 8 := by simp [convN, isInt, sizeN]
set_option maxRecDepth 100000 in
theorem convert_ok (w : World) (x : Nat) (b : Int) (hx : x < 18446744073709551616) : Calls Tryd.prog 28 #[.int .u64 x, .int .i64 b] w fun e w' => e = .returned (.int .u64 (convN x b : Nat)) ∧ Fr no w w' := by
  have HI := Lib.hid (integer_ok w b)
  have SZ := Lib.hid sizes_ok
  have SX := Lib.hid sext_ok
  have ZX := Lib.hid zext_ok
  by_cases hb : 1 ≤ b ∧ b ≤ 8
  · have hi : isInt b = true := by unfold isInt; simp [hb.1, hb.2]
    rw [hi] at HI
    clear hi
    rcases isInt_cases hb with rfl | rfl | rfl | rfl | rfl | rfl | rfl | rfl
    · clear hb
      obtain ⟨res, hres⟩ : ∃ r, r = convN x 1 := ⟨_, rfl⟩
      have HRES := Lib.hid hres
      rw [← hres]
      clear hres
      go_enter Tryd.func28, Tryd.ntmps28
      go_wp2_with fail
      refine HI.out.mono ?_
      rintro e w1 ⟨rfl, rfl⟩
      go_wp2_with fail
      refine (SZ.out _).mono ?_
      rintro e w2 ⟨rfl, r2⟩
      unfold sizesC
      have ix : Sem.run Tryd.prog (Instr.index 74 (.agg #[.int .i64 0, .int .i64 1, .int .i64 1, .int .i64 2, .int .i64 2, .int .i64 4, .int .i64 4, .int .i64 8, .int .i64 8]) (.int .i64 1)) w2 = .ok (.int .i64 1) w2 := by kernel_rfl
      go_wp2_with fail
      have hc := SX.out w2 x 1 hx
      rw [← convE1, ← HRES.out] at hc
      refine hc.mono ?_
      rintro e w3 ⟨rfl, rfl⟩
      go_wp2_with fail
      go_ret
      exact ⟨rfl, r2⟩
    · clear hb
      obtain ⟨res, hres⟩ : ∃ r, r = convN x 2 := ⟨_, rfl⟩
      have HRES := Lib.hid hres
      rw [← hres]
      clear hres
      go_enter Tryd.func28, Tryd.ntmps28
      go_wp2_with fail
      refine HI.out.mono ?_
      rintro e w1 ⟨rfl, rfl⟩
      go_wp2_with fail
      refine (SZ.out _).mono ?_
      rintro e w2 ⟨rfl, r2⟩
      unfold sizesC
      have ix : Sem.run Tryd.prog (Instr.index 74 (.agg #[.int .i64 0, .int .i64 1, .int .i64 1, .int .i64 2, .int .i64 2, .int .i64 4, .int .i64 4, .int .i64 8, .int .i64 8]) (.int .i64 2)) w2 = .ok (.int .i64 1) w2 := by kernel_rfl
      go_wp2_with fail
      have hc := ZX.out w2 x 1 hx
      rw [← convE2, ← HRES.out] at hc
      refine hc.mono ?_
      rintro e w3 ⟨rfl, rfl⟩
      go_wp2_with fail
      go_ret
      exact ⟨rfl, r2⟩
    · clear hb
      obtain ⟨res, hres⟩ : ∃ r, r = convN x 3 := ⟨_, rfl⟩
      have HRES := Lib.hid hres
      rw [← hres]
      clear hres
      go_enter Tryd.func28, Tryd.ntmps28
      go_wp2_with fail
      refine HI.out.mono ?_
      rintro e w1 ⟨rfl, rfl⟩
      go_wp2_with fail
      refine (SZ.out _).mono ?_
      rintro e w2 ⟨rfl, r2⟩
      unfold sizesC
      have ix : Sem.run Tryd.prog (Instr.index 74 (.agg #[.int .i64 0, .int .i64 1, .int .i64 1, .int .i64 2, .int .i64 2, .int .i64 4, .int .i64 4, .int .i64 8, .int .i64 8]) (.int .i64 3)) w2 = .ok (.int .i64 2) w2 := by kernel_rfl
      go_wp2_with fail
      have hc := SX.out w2 x 2 hx
      rw [← convE3, ← HRES.out] at hc
      refine hc.mono ?_
      rintro e w3 ⟨rfl, rfl⟩
      go_wp2_with fail
      go_ret
      exact ⟨rfl, r2⟩
    · clear hb
      obtain ⟨res, hres⟩ : ∃ r, r = convN x 4 := ⟨_, rfl⟩
      have HRES := Lib.hid hres
      rw [← hres]
      clear hres
      go_enter Tryd.func28, Tryd.ntmps28
      go_wp2_with fail
      refine HI.out.mono ?_
      rintro e w1 ⟨rfl, rfl⟩
      go_wp2_with fail
      refine (SZ.out _).mono ?_
      rintro e w2 ⟨rfl, r2⟩
      unfold sizesC
      have ix : Sem.run Tryd.prog (Instr.index 74 (.agg #[.int .i64 0, .int .i64 1, .int .i64 1, .int .i64 2, .int .i64 2, .int .i64 4, .int .i64 4, .int .i64 8, .int .i64 8]) (.int .i64 4)) w2 = .ok (.int .i64 2) w2 := by kernel_rfl
      go_wp2_with fail
      have hc := ZX.out w2 x 2 hx
      rw [← convE4, ← HRES.out] at hc
      refine hc.mono ?_
      rintro e w3 ⟨rfl, rfl⟩
      go_wp2_with fail
      go_ret
      exact ⟨rfl, r2⟩
    · clear hb
      obtain ⟨res, hres⟩ : ∃ r, r = convN x 5 := ⟨_, rfl⟩
      have HRES := Lib.hid hres
      rw [← hres]
      clear hres
      go_enter Tryd.func28, Tryd.ntmps28
      go_wp2_with fail
      refine HI.out.mono ?_
      rintro e w1 ⟨rfl, rfl⟩
      go_wp2_with fail
      refine (SZ.out _).mono ?_
      rintro e w2 ⟨rfl, r2⟩
      unfold sizesC
      have ix : Sem.run Tryd.prog (Instr.index 74 (.agg #[.int .i64 0, .int .i64 1, .int .i64 1, .int .i64 2, .int .i64 2, .int .i64 4, .int .i64 4, .int .i64 8, .int .i64 8]) (.int .i64 5)) w2 = .ok (.int .i64 4) w2 := by kernel_rfl
      go_wp2_with fail
      have hc := SX.out w2 x 4 hx
      rw [← convE5, ← HRES.out] at hc
      refine hc.mono ?_
      rintro e w3 ⟨rfl, rfl⟩
      go_wp2_with fail
      go_ret
      exact ⟨rfl, r2⟩
    · clear hb
      obtain ⟨res, hres⟩ : ∃ r, r = convN x 6 := ⟨_, rfl⟩
      have HRES := Lib.hid hres
      rw [← hres]
      clear hres
      go_enter Tryd.func28, Tryd.ntmps28
      go_wp2_with fail
      refine HI.out.mono ?_
      rintro e w1 ⟨rfl, rfl⟩
      go_wp2_with fail
      refine (SZ.out _).mono ?_
      rintro e w2 ⟨rfl, r2⟩
      unfold sizesC
      have ix : Sem.run Tryd.prog (Instr.index 74 (.agg #[.int .i64 0, .int .i64 1, .int .i64 1, .int .i64 2, .int .i64 2, .int .i64 4, .int .i64 4, .int .i64 8, .int .i64 8]) (.int .i64 6)) w2 = .ok (.int .i64 4) w2 := by kernel_rfl
      go_wp2_with fail
      have hc := ZX.out w2 x 4 hx
      rw [← convE6, ← HRES.out] at hc
      refine hc.mono ?_
      rintro e w3 ⟨rfl, rfl⟩
      go_wp2_with fail
      go_ret
      exact ⟨rfl, r2⟩
    · clear hb
      obtain ⟨res, hres⟩ : ∃ r, r = convN x 7 := ⟨_, rfl⟩
      have HRES := Lib.hid hres
      rw [← hres]
      clear hres
      go_enter Tryd.func28, Tryd.ntmps28
      go_wp2_with fail
      refine HI.out.mono ?_
      rintro e w1 ⟨rfl, rfl⟩
      go_wp2_with fail
      refine (SZ.out _).mono ?_
      rintro e w2 ⟨rfl, r2⟩
      unfold sizesC
      have ix : Sem.run Tryd.prog (Instr.index 74 (.agg #[.int .i64 0, .int .i64 1, .int .i64 1, .int .i64 2, .int .i64 2, .int .i64 4, .int .i64 4, .int .i64 8, .int .i64 8]) (.int .i64 7)) w2 = .ok (.int .i64 8) w2 := by kernel_rfl
      go_wp2_with fail
      have hc := SX.out w2 x 8 hx
      rw [← convE7, ← HRES.out] at hc
      refine hc.mono ?_
      rintro e w3 ⟨rfl, rfl⟩
      go_wp2_with fail
      go_ret
      exact ⟨rfl, r2⟩
    · clear hb
      obtain ⟨res, hres⟩ : ∃ r, r = convN x 8 := ⟨_, rfl⟩
      have HRES := Lib.hid hres
      rw [← hres]
      clear hres
      go_enter Tryd.func28, Tryd.ntmps28
      go_wp2_with fail
      refine HI.out.mono ?_
      rintro e w1 ⟨rfl, rfl⟩
      go_wp2_with fail
      refine (SZ.out _).mono ?_
      rintro e w2 ⟨rfl, r2⟩
      unfold sizesC
      have ix : Sem.run Tryd.prog (Instr.index 74 (.agg #[.int .i64 0, .int .i64 1, .int .i64 1, .int .i64 2, .int .i64 2, .int .i64 4, .int .i64 4, .int .i64 8, .int .i64 8]) (.int .i64 8)) w2 = .ok (.int .i64 8) w2 := by kernel_rfl
      go_wp2_with fail
      have hc := ZX.out w2 x 8 hx
      rw [← convE8, ← HRES.out] at hc
      refine hc.mono ?_
      rintro e w3 ⟨rfl, rfl⟩
      go_wp2_with fail
      go_ret
      exact ⟨rfl, r2⟩
  · have hi : isInt b = false := by unfold isInt; by_cases h1 : 1 ≤ b <;> simp [h1]; omega
    have HC : Hid (convN x b = x) := Lib.hid (by unfold convN; rw [hi]; rfl)
    rw [hi] at HI
    clear hi hb
    go_enter Tryd.func28, Tryd.ntmps28
    go_wp2_with fail
    refine HI.out.mono ?_
    rintro e w1 ⟨rfl, rfl⟩
    go_wp2_with fail
    go_ret
    exact ⟨by rw [HC.out]; rfl, Fr.refl _ _⟩

end Go.Proofs.YtjpkmaacalelcaaDoor

import Derived.Test.YtihnkijeefkefaaGreatQ1
import Derived.Scope
set_option linter.unusedSimpArgs false
set_option linter.unusedVariables false
set_option linter.unusedSectionVars false
set_option linter.unnecessarySimpa false
set_option maxRecDepth 100000
/- Frames: the program's and the document's. -/
namespace Go.Proofs.YtihnkijeefkefaaGreat
open Go.RowKit

attribute [local go_sem] Program.isFuncB Program.isSliceB

variable {w w' w'' w0 : World}

def r16 (n : Nat) : Nat := (n + 15) / 16 * 16
theorem fsz_r16 {g : Fx} (h : 0 ≤ g.r) (h2 : 0 ≤ g.a) : fsz g = r16 (8 * g.r.toNat + g.a.toNat) := by unfold fsz r16; omega
theorem flr_r16 (m : Mx) : flr m = r16 (16 + m.d.length) := by unfold flr r16; omega
theorem down_i64 (w : World) (n : Nat) (h : n ≤ 1000000) : Calls Tryz.prog 127 #[.int .i64 n] w fun e w' => e = .returned (.int .i64 (n / 16 * 16 : Nat)) ∧ w = w' := by
  have h1 : Int.tdiv (n : Int) 16 = ((n / 16 : Nat) : Int) := by rw [Int.tdiv_eq_ediv_of_nonneg (by omega)]; omega
  have h2 : IntKind.i64.wrap ((n / 16 : Nat) : Int) = ((n / 16 : Nat) : Int) := by rw [IntKind.wrap_i64]; omega
  have h3 : IntKind.i64.wrap (((n / 16 : Nat) : Int) * 16) = ((n / 16 * 16 : Nat) : Int) := by rw [IntKind.wrap_i64]; omega
  go_enter Tryz.func127, Tryz.ntmps127
  go_wp2_with fail
  go_ret
  exact ⟨rfl, rfl⟩
theorem up_i64 (w : World) (n : Nat) (h : n ≤ 100000) : Calls Tryz.prog 59 #[.int .i64 n] w fun e w' => e = .returned (.int .i64 (r16 n)) ∧ w = w' := by
  have h1 : IntKind.i64.wrap ((n : Int) + 16) = n + 16 := by rw [IntKind.wrap_i64]; omega
  have h2 : IntKind.i64.wrap ((n : Int) + 16 - 1) = ((n + 15 : Nat) : Int) := by rw [IntKind.wrap_i64]; omega
  go_enter Tryz.func59, Tryz.ntmps59
  go_wp2_with fail
  refine (down_i64 _ (n + 15) (by omega)).mono ?_
  rintro e w' ⟨rfl, rfl⟩
  go_wp2_with fail
  go_ret
  exact ⟨rfl, rfl⟩
theorem down_u64 (w : World) (n : Nat) (h : n ≤ 1000000) : Calls Tryz.prog 126 #[.int .u64 n] w fun e w' => e = .returned (.int .u64 (n / 16 * 16 : Nat)) ∧ w = w' := by
  have h1 : Int.tdiv (n : Int) 16 = ((n / 16 : Nat) : Int) := by rw [Int.tdiv_eq_ediv_of_nonneg (by omega)]; omega
  have h2 : IntKind.u64.wrap ((n / 16 : Nat) : Int) = ((n / 16 : Nat) : Int) := by rw [IntKind.wrap_u64]; omega
  have h3 : IntKind.u64.wrap (((n / 16 : Nat) : Int) * 16) = ((n / 16 * 16 : Nat) : Int) := by rw [IntKind.wrap_u64]; omega
  go_enter Tryz.func126, Tryz.ntmps126
  go_wp2_with fail
  go_ret
  exact ⟨rfl, rfl⟩
theorem up_u64 (w : World) (n : Nat) (h : n ≤ 100000) : Calls Tryz.prog 58 #[.int .u64 n] w fun e w' => e = .returned (.int .u64 (r16 n)) ∧ w = w' := by
  have h1 : IntKind.u64.wrap ((n : Int) + 16) = n + 16 := by rw [IntKind.wrap_u64]; omega
  have h2 : IntKind.u64.wrap ((n : Int) + 16 - 1) = ((n + 15 : Nat) : Int) := by rw [IntKind.wrap_u64]; omega
  go_enter Tryz.func58, Tryz.ntmps58
  go_wp2_with fail
  refine (down_u64 _ (n + 15) (by omega)).mono ?_
  rintro e w' ⟨rfl, rfl⟩
  go_wp2_with fail
  go_ret
  exact ⟨rfl, rfl⟩
theorem refup_ok (w : World) (n : Nat) (h : n ≤ 100000) : Calls Tryz.prog 136 #[.int .i64 n] w fun e w' => e = .returned (.int .i64 (r16 n)) ∧ w = w' := by
  have h1 : IntKind.i64.wrap ((n : Int) + 15) = ((n + 15 : Nat) : Int) := by rw [IntKind.wrap_i64]; omega
  have h2 : Int.tdiv ((n + 15 : Nat) : Int) 16 = (((n + 15) / 16 : Nat) : Int) := by rw [Int.tdiv_eq_ediv_of_nonneg (by omega)]; omega
  have h3 : IntKind.i64.wrap (((n + 15) / 16 : Nat) : Int) = (((n + 15) / 16 : Nat) : Int) := by rw [IntKind.wrap_i64]; omega
  have h4 : IntKind.i64.wrap ((((n + 15) / 16 : Nat) : Int) * 16) = ((r16 n : Nat) : Int) := by rw [IntKind.wrap_i64]; unfold r16; omega
  go_enter Tryz.func136, Tryz.ntmps136
  go_wp2_with fail
  go_ret
  exact ⟨rfl, rfl⟩
theorem size_ok (w : World) (r a : Nat) (hr : r ≤ 64) (ha : a ≤ 4096) : Calls Tryz.prog 15 #[.int .i64 r, .int .i64 a] w fun e w' => e = .returned (.tuple #[.int .i64 (r16 (8 * r + a)), .int .i64 0]) ∧ w = w' := by
  have h1 : IntKind.i64.wrap (8 * (r : Int)) = ((8 * r : Nat) : Int) := by rw [IntKind.wrap_i64]; omega
  have h2 : IntKind.i64.wrap (((8 * r : Nat) : Int) + a) = ((8 * r + a : Nat) : Int) := by rw [IntKind.wrap_i64]; omega
  have e1 : ¬ (r : Int) < 0 := by omega
  have e2 : ¬ (r : Int) > 64 := by omega
  have e3 : ¬ (a : Int) < 0 := by omega
  have e4 : ¬ (a : Int) > 4096 := by omega
  go_enter Tryz.func15, Tryz.ntmps15
  go_wp2_with fail
  refine (up_i64 _ (8 * r + a) (by omega)).mono ?_
  rintro e w' ⟨rfl, rfl⟩
  go_wp2_with fail
  go_ret2
  exact ⟨rfl, rfl⟩
theorem floor_ok (w : World) (n : Nat) (hn : n ≤ 8192) : Calls Tryz.prog 14 #[.int .i64 n] w fun e w' => e = .returned (.tuple #[.int .u64 (r16 (16 + n)), .int .i64 0]) ∧ w = w' := by
  have h1 : IntKind.i64.wrap (16 + (n : Int)) = ((16 + n : Nat) : Int) := by rw [IntKind.wrap_i64]; omega
  have h2 : IntKind.u64.wrap ((16 + n : Nat) : Int) = ((16 + n : Nat) : Int) := by rw [IntKind.wrap_u64]; omega
  have h3 : IntKind.u64.wrap ((r16 (16 + n) : Nat) : Int) = ((r16 (16 + n) : Nat) : Int) := by rw [IntKind.wrap_u64]; unfold r16; omega
  have e1 : ¬ (n : Int) < 0 := by omega
  have e2 : ¬ (n : Int) > 8192 := by omega
  go_enter Tryz.func14, Tryz.ntmps14
  go_wp2_with fail
  refine (up_u64 _ (16 + n) (by omega)).mono ?_
  rintro e w' ⟨rfl, rfl⟩
  go_wp2_with fail
  go_ret2
  exact ⟨rfl, rfl⟩
theorem slot_ok (w : World) (a r : Nat) (ha : a ≤ 100000) (hr : r ≤ 100) : Calls Tryz.prog 67 #[.int .u64 a, .int .i64 r] w fun e w' => e = .returned (.int .u64 (a + 8 * r : Nat)) ∧ w = w' := by
  have h1 : IntKind.u64.wrap (r : Int) = r := by rw [IntKind.wrap_u64]; omega
  have h2 : IntKind.u64.wrap (8 * (r : Int)) = ((8 * r : Nat) : Int) := by rw [IntKind.wrap_u64]; omega
  have h2' : IntKind.u64.wrap ((r : Int) * 8) = ((8 * r : Nat) : Int) := by rw [IntKind.wrap_u64]; omega
  have h3 : IntKind.u64.wrap ((a : Int) + ((8 * r : Nat) : Int)) = ((a + 8 * r : Nat) : Int) := by rw [IntKind.wrap_u64]; omega
  go_enter Tryz.func67, Tryz.ntmps67
  go_wp2_with fail
  go_ret
  exact ⟨rfl, rfl⟩
theorem odd_ok (w : World) (a : Nat) (h1 : a % 16 = 0) (h2 : a ≤ 65536) : Calls Tryz.prog 129 #[.int .u64 a] w fun e w' => e = .returned (.bool false) ∧ w = w' := by
  have e1 : Int.tmod (a : Int) 16 = 0 := by rw [Int.tmod_eq_emod_of_nonneg (by omega)]; omega
  have e2 : ¬ (a : Int) > 65536 := by omega
  have e3 : (a : Int) ≤ 65536 := by omega
  go_enter Tryz.func129, Tryz.ntmps129
  go_wp2_with fail
  go_ret
  exact ⟨rfl, rfl⟩
theorem push_full (w : World) (t fl r a : Nat) (hr : r ≤ 64) (ha : a ≤ 4096) (t1 : t % 16 = 0) (t2 : t ≤ 65536) (f1 : fl % 16 = 0) (f2 : fl ≤ 65536) (hc :  t < fl + r16 (8 * r + a)) :
    Calls Tryz.prog 66 #[.int .u64 t, .int .i64 r, .int .i64 a, .int .u64 fl] w fun e w' => e = .returned (.tuple #[.int .u64 0, .int .i64 8]) ∧ w = w' := by
  have hz : r16 (8 * r + a) ≤ 10000 := by unfold r16; omega
  have HS := Lib.hid (fun w => size_ok w r a hr ha)
  have HT := Lib.hid (fun w => odd_ok w t t1 t2)
  have HF := Lib.hid (fun w => odd_ok w fl f1 f2)
  clear t1 f1
  generalize r16 (8 * r + a) = z at *
  have h1 : IntKind.u64.wrap (z : Int) = z := by rw [IntKind.wrap_u64]; omega
  have h2 : IntKind.u64.wrap ((fl : Int) + z) = ((fl + z : Nat) : Int) := by rw [IntKind.wrap_u64]; omega
  have h3 :  (t : Int) < ((fl + z : Nat) : Int) := by omega
  go_enter Tryz.func66, Tryz.ntmps66
  go_wp2_with fail
  refine wp_scope_straight ?_
  go_wp2_with fail
  refine (HS.out _).mono ?_
  rintro e w' ⟨rfl, rfl⟩
  go_wp2_with fail
  refine wp_label ?_
  go_wp2_with fail
  refine (HT.out _).mono ?_
  rintro e w' ⟨rfl, rfl⟩
  go_wp2_with fail
  refine (HF.out _).mono ?_
  rintro e w' ⟨rfl, rfl⟩
  go_wp2_with fail
  simp only [Exit.noGoto]
  go_ret2
  exact ⟨rfl, rfl⟩
theorem push_room (w : World) (t fl r a : Nat) (hr : r ≤ 64) (ha : a ≤ 4096) (t1 : t % 16 = 0) (t2 : t ≤ 65536) (f1 : fl % 16 = 0) (f2 : fl ≤ 65536) (hc : ¬ t < fl + r16 (8 * r + a)) :
    Calls Tryz.prog 66 #[.int .u64 t, .int .i64 r, .int .i64 a, .int .u64 fl] w fun e w' => e = .returned (.tuple #[.int .u64 (t - r16 (8 * r + a) : Nat), .int .i64 0]) ∧ w = w' := by
  have hz : r16 (8 * r + a) ≤ 10000 := by unfold r16; omega
  have HS := Lib.hid (fun w => size_ok w r a hr ha)
  have HT := Lib.hid (fun w => odd_ok w t t1 t2)
  have HF := Lib.hid (fun w => odd_ok w fl f1 f2)
  clear t1 f1
  generalize r16 (8 * r + a) = z at *
  have h1 : IntKind.u64.wrap (z : Int) = z := by rw [IntKind.wrap_u64]; omega
  have h2 : IntKind.u64.wrap ((fl : Int) + z) = ((fl + z : Nat) : Int) := by rw [IntKind.wrap_u64]; omega
  have h3 : ¬ (t : Int) < ((fl + z : Nat) : Int) := by omega
  have h4 : IntKind.u64.wrap ((t : Int) - z) = ((t - z : Nat) : Int) := by rw [IntKind.wrap_u64]; omega
  go_enter Tryz.func66, Tryz.ntmps66
  go_wp2_with fail
  refine wp_scope_straight ?_
  go_wp2_with fail
  refine (HS.out _).mono ?_
  rintro e w' ⟨rfl, rfl⟩
  go_wp2_with fail
  refine wp_label ?_
  go_wp2_with fail
  refine (HT.out _).mono ?_
  rintro e w' ⟨rfl, rfl⟩
  go_wp2_with fail
  refine (HF.out _).mono ?_
  rintro e w' ⟨rfl, rfl⟩
  go_wp2_with fail
  simp only [Exit.noGoto]
  go_ret2
  exact ⟨rfl, rfl⟩
theorem refsize_ok (w : World) (r a : Nat) (hr : r ≤ 64) (ha : a ≤ 4096) : Calls Tryz.prog 138 #[.int .i64 r, .int .i64 a] w fun e w' => e = .returned (.tuple #[.int .i64 (r16 (8 * r + a)), .int .i64 0]) ∧ w = w' := by
  have h1 : IntKind.i64.wrap (8 * (r : Int)) = ((8 * r : Nat) : Int) := by rw [IntKind.wrap_i64]; omega
  have h2 : IntKind.i64.wrap (((8 * r : Nat) : Int) + a) = ((8 * r + a : Nat) : Int) := by rw [IntKind.wrap_i64]; omega
  have e1 : ¬ (r : Int) < 0 := by omega
  have e2 : ¬ (r : Int) > 64 := by omega
  have e3 : ¬ (a : Int) < 0 := by omega
  have e4 : ¬ (a : Int) > 4096 := by omega
  go_enter Tryz.func138, Tryz.ntmps138
  go_wp2_with fail
  refine (refup_ok _ (8 * r + a) (by omega)).mono ?_
  rintro e w' ⟨rfl, rfl⟩
  go_wp2_with fail
  go_ret2
  exact ⟨rfl, rfl⟩
theorem reffloor_ok (w : World) (n : Nat) (hn : n ≤ 8192) : Calls Tryz.prog 77 #[.int .i64 n] w fun e w' => e = .returned (.tuple #[.int .u64 (r16 (16 + n)), .int .i64 0]) ∧ w = w' := by
  have h1 : IntKind.i64.wrap (16 + (n : Int)) = ((16 + n : Nat) : Int) := by rw [IntKind.wrap_i64]; omega
  have h2 : IntKind.u64.wrap ((16 + n : Nat) : Int) = ((16 + n : Nat) : Int) := by rw [IntKind.wrap_u64]; omega
  have h3 : IntKind.u64.wrap ((r16 (16 + n) : Nat) : Int) = ((r16 (16 + n) : Nat) : Int) := by rw [IntKind.wrap_u64]; unfold r16; omega
  have e1 : ¬ (n : Int) < 0 := by omega
  have e2 : ¬ (n : Int) > 8192 := by omega
  go_enter Tryz.func77, Tryz.ntmps77
  go_wp2_with fail
  refine (refup_ok _ (16 + n) (by omega)).mono ?_
  rintro e w' ⟨rfl, rfl⟩
  go_wp2_with fail
  go_ret2
  exact ⟨rfl, rfl⟩
theorem refslot_ok (w : World) (a r : Nat) (ha : a ≤ 100000) (hr : r ≤ 100) : Calls Tryz.prog 141 #[.int .u64 a, .int .i64 r] w fun e w' => e = .returned (.int .u64 (a + 8 * r : Nat)) ∧ w = w' := by
  have h1 : IntKind.u64.wrap (r : Int) = r := by rw [IntKind.wrap_u64]; omega
  have h2 : IntKind.u64.wrap (8 * (r : Int)) = ((8 * r : Nat) : Int) := by rw [IntKind.wrap_u64]; omega
  have h2' : IntKind.u64.wrap ((r : Int) * 8) = ((8 * r : Nat) : Int) := by rw [IntKind.wrap_u64]; omega
  have h3 : IntKind.u64.wrap ((a : Int) + ((8 * r : Nat) : Int)) = ((a + 8 * r : Nat) : Int) := by rw [IntKind.wrap_u64]; omega
  go_enter Tryz.func141, Tryz.ntmps141
  go_wp2_with fail
  go_ret
  exact ⟨rfl, rfl⟩
theorem refodd_ok (w : World) (a : Nat) (h1 : a % 16 = 0) (h2 : a ≤ 65536) : Calls Tryz.prog 139 #[.int .u64 a] w fun e w' => e = .returned (.bool true) ∧ w = w' := by
  have e1 : Int.tmod (a : Int) 16 = 0 := by rw [Int.tmod_eq_emod_of_nonneg (by omega)]; omega
  have e2 : ¬ (a : Int) > 65536 := by omega
  have e3 : (a : Int) ≤ 65536 := by omega
  go_enter Tryz.func139, Tryz.ntmps139
  go_wp2_with fail
  go_ret
  exact ⟨rfl, rfl⟩
theorem refpush_full (w : World) (t fl r a : Nat) (hr : r ≤ 64) (ha : a ≤ 4096) (t1 : t % 16 = 0) (t2 : t ≤ 65536) (f1 : fl % 16 = 0) (f2 : fl ≤ 65536) (hc :  t < fl + r16 (8 * r + a)) :
    Calls Tryz.prog 80 #[.int .u64 t, .int .i64 r, .int .i64 a, .int .u64 fl] w fun e w' => e = .returned (.tuple #[.int .u64 0, .int .i64 8]) ∧ w = w' := by
  have hz : r16 (8 * r + a) ≤ 10000 := by unfold r16; omega
  have HS := Lib.hid (fun w => refsize_ok w r a hr ha)
  have HT := Lib.hid (fun w => refodd_ok w t t1 t2)
  have HF := Lib.hid (fun w => refodd_ok w fl f1 f2)
  clear t1 f1
  generalize r16 (8 * r + a) = z at *
  have h1 : IntKind.u64.wrap (z : Int) = z := by rw [IntKind.wrap_u64]; omega
  have h2 : IntKind.u64.wrap ((fl : Int) + z) = ((fl + z : Nat) : Int) := by rw [IntKind.wrap_u64]; omega
  have h3 :  (t : Int) < ((fl + z : Nat) : Int) := by omega
  go_enter Tryz.func80, Tryz.ntmps80
  go_wp2_with fail
  refine (HS.out _).mono ?_
  rintro e w' ⟨rfl, rfl⟩
  go_wp2_with fail
  refine (HT.out _).mono ?_
  rintro e w' ⟨rfl, rfl⟩
  go_wp2_with fail
  refine (HF.out _).mono ?_
  rintro e w' ⟨rfl, rfl⟩
  go_wp2_with fail
  go_ret2
  exact ⟨rfl, rfl⟩
theorem refpush_room (w : World) (t fl r a : Nat) (hr : r ≤ 64) (ha : a ≤ 4096) (t1 : t % 16 = 0) (t2 : t ≤ 65536) (f1 : fl % 16 = 0) (f2 : fl ≤ 65536) (hc : ¬ t < fl + r16 (8 * r + a)) :
    Calls Tryz.prog 80 #[.int .u64 t, .int .i64 r, .int .i64 a, .int .u64 fl] w fun e w' => e = .returned (.tuple #[.int .u64 (t - r16 (8 * r + a) : Nat), .int .i64 0]) ∧ w = w' := by
  have hz : r16 (8 * r + a) ≤ 10000 := by unfold r16; omega
  have HS := Lib.hid (fun w => refsize_ok w r a hr ha)
  have HT := Lib.hid (fun w => refodd_ok w t t1 t2)
  have HF := Lib.hid (fun w => refodd_ok w fl f1 f2)
  clear t1 f1
  generalize r16 (8 * r + a) = z at *
  have h1 : IntKind.u64.wrap (z : Int) = z := by rw [IntKind.wrap_u64]; omega
  have h2 : IntKind.u64.wrap ((fl : Int) + z) = ((fl + z : Nat) : Int) := by rw [IntKind.wrap_u64]; omega
  have h3 : ¬ (t : Int) < ((fl + z : Nat) : Int) := by omega
  have h4 : IntKind.u64.wrap ((t : Int) - z) = ((t - z : Nat) : Int) := by rw [IntKind.wrap_u64]; omega
  go_enter Tryz.func80, Tryz.ntmps80
  go_wp2_with fail
  refine (HS.out _).mono ?_
  rintro e w' ⟨rfl, rfl⟩
  go_wp2_with fail
  refine (HT.out _).mono ?_
  rintro e w' ⟨rfl, rfl⟩
  go_wp2_with fail
  refine (HF.out _).mono ?_
  rintro e w' ⟨rfl, rfl⟩
  go_wp2_with fail
  go_ret2
  exact ⟨rfl, rfl⟩
theorem splace_ok (w : World) (n : Int) : Calls Tryz.prog 64 #[.int .i64 n] w fun e w' => e = .returned (.bool (!isPl n)) ∧ w = w' := by
  by_cases h1 : n < 0
  · have HQ : Hid (isPl n = false) := Lib.hid (by unfold isPl; exact decide_eq_false (by omega))
    have h1' : ¬ n ≥ 0 := by omega
    go_enter Tryz.func64, Tryz.ntmps64
    go_wp2_with fail
    go_ret
    exact ⟨by rw [HQ.out]; rfl, rfl⟩
  by_cases h2 : n ≥ 4096
  · have HQ : Hid (isPl n = false) := Lib.hid (by unfold isPl; exact decide_eq_false (by omega))
    have h1' : n ≥ 0 := by omega
    have h2' : ¬ n < 4096 := by omega
    go_enter Tryz.func64, Tryz.ntmps64
    go_wp2_with fail
    go_ret
    exact ⟨by rw [HQ.out]; rfl, rfl⟩
  · have HQ : Hid (isPl n = true) := Lib.hid (by unfold isPl; exact decide_eq_true (by omega))
    have h1' : n ≥ 0 := by omega
    have h2' : n < 4096 := by omega
    go_enter Tryz.func64, Tryz.ntmps64
    go_wp2_with fail
    go_ret
    exact ⟨by rw [HQ.out]; rfl, rfl⟩
theorem srefplace_ok (w : World) (n : Int) : Calls Tryz.prog 143 #[.int .i64 n] w fun e w' => e = .returned (.bool (isPl n)) ∧ w = w' := by
  by_cases h1 : n < 0
  · have HQ : Hid (isPl n = false) := Lib.hid (by unfold isPl; exact decide_eq_false (by omega))
    have h1' : ¬ n ≥ 0 := by omega
    go_enter Tryz.func143, Tryz.ntmps143
    go_wp2_with fail
    go_ret
    exact ⟨by rw [HQ.out]; rfl, rfl⟩
  by_cases h2 : n ≥ 4096
  · have HQ : Hid (isPl n = false) := Lib.hid (by unfold isPl; exact decide_eq_false (by omega))
    have h1' : n ≥ 0 := by omega
    have h2' : ¬ n < 4096 := by omega
    go_enter Tryz.func143, Tryz.ntmps143
    go_wp2_with fail
    go_ret
    exact ⟨by rw [HQ.out]; rfl, rfl⟩
  · have HQ : Hid (isPl n = true) := Lib.hid (by unfold isPl; exact decide_eq_true (by omega))
    have h1' : n ≥ 0 := by omega
    have h2' : n < 4096 := by omega
    go_enter Tryz.func143, Tryz.ntmps143
    go_wp2_with fail
    go_ret
    exact ⟨by rw [HQ.out]; rfl, rfl⟩

end Go.Proofs.YtihnkijeefkefaaGreat

import Derived.Test.YtkgcfllbkjlfcaaO1
namespace Go.Proofs.Ytkgcfllbkjlfcaa
open Go.RowKit

attribute [local go_sem] Program.isFuncB Program.isSliceB

variable {w w' w'' : World}

def namesCells : Array Value := (table.map fun x => Value.string x.1).toArray
theorem Try.buildNames (w : World) : (Instr.buildSlice 46 33 #[(0, .string ⟨#[110, 111, 112]⟩), (1, .string ⟨#[99, 111, 110, 115, 116]⟩), (2, .string ⟨#[109, 111, 118]⟩), (3, .string ⟨#[97, 100, 100]⟩), (4, .string ⟨#[115, 117, 98]⟩), (5, .string ⟨#[109, 117, 108]⟩), (6, .string ⟨#[100, 105, 118]⟩), (7, .string ⟨#[100, 105, 118, 117]⟩), (8, .string ⟨#[114, 101, 109]⟩), (9, .string ⟨#[114, 101, 109, 117]⟩), (10, .string ⟨#[97, 110, 100]⟩), (11, .string ⟨#[111, 114]⟩), (12, .string ⟨#[120, 111, 114]⟩), (13, .string ⟨#[115, 104, 108]⟩), (14, .string ⟨#[115, 104, 114]⟩), (15, .string ⟨#[115, 97, 114]⟩), (16, .string ⟨#[108, 116]⟩), (17, .string ⟨#[108, 116, 117]⟩), (18, .string ⟨#[101, 113]⟩), (19, .string ⟨#[110, 101]⟩), (20, .string ⟨#[101, 120, 116]⟩), (21, .string ⟨#[108, 111, 97, 100]⟩), (22, .string ⟨#[115, 116, 111, 114, 101]⟩), (23, .string ⟨#[108, 101, 97]⟩), (24, .string ⟨#[100, 97, 116, 97]⟩), (25, .string ⟨#[106, 109, 112]⟩), (26, .string ⟨#[98, 114, 122]⟩), (27, .string ⟨#[98, 114, 110, 122]⟩), (28, .string ⟨#[99, 97, 108, 108]⟩), (29, .string ⟨#[114, 101, 116]⟩), (30, .string ⟨#[103, 101, 116, 98]⟩), (31, .string ⟨#[112, 117, 116, 98]⟩), (32, .string ⟨#[101, 120, 105, 116]⟩)]).run Try.prog w = .ok (.slice (some ⟨w.heap.size, 0, none⟩) 33 33) (w.alloc (.cells namesCells 9)) := by kernel_rfl

theorem names_ok (w : World) : Calls Try.prog 30 #[] w fun e w' => e = .returned (.slice (some ⟨w.heap.size, 0, none⟩) 33 33) ∧ w' = w.alloc (.cells namesCells 9) := by
  go_enter Try.func30, Try.ntmps30
  go_upto_region 1 with (fail)
  refine wp_region_lit ?_
  refine wpList_buildSlice rfl rfl (Try.buildNames w) ?_
  simp only [act_put, List.setIfInBounds_toArray, List.set_cons_zero, List.set_cons_succ]
  go_wp2_with fail
  go_ret
  exact ⟨rfl, rfl⟩

theorem refname_all (w : World) (n : Int) : Calls Try.prog 10 #[.int .i64 n] w fun e w' => e = .returned (.string (nameI n)) ∧ Fr no w w' := by
  have C := refis_all w n
  by_cases h : 0 ≤ n ∧ n < 33
  · rw [decide_eq_true h] at C
    obtain ⟨m, rfl⟩ : ∃ m : Nat, n = m := ⟨n.toNat, by omega⟩
    have hm : m < 33 := by omega
    have HN : Hid (nameI m = nameOf m) := Lib.hid (by rw [nameI, if_pos h, Int.toNat_natCast])
    have hc : namesCells[m]? = some (.string (nameOf m)) := by
      have hl : m < table.length := hm
      unfold namesCells nameOf
      rw [List.getElem?_toArray, List.getElem?_map, List.getD_eq_getElem?_getD, List.getElem?_eq_getElem hl]; rfl
    have c0 : (w.alloc (.cells namesCells 9)).cell? ⟨w.heap.size, 0 + m, none⟩ = some (.string (nameOf m)) := by rw [Nat.zero_add]; exact cell_of_heap (heap_new w _) hc
    have h1 : (m : Int) < 33 := by omega
    rw [HN.out]
    generalize nameOf m = nm at *
    have R : Hid (Fr no w (w.alloc (.cells namesCells 9))) := Lib.hid ((Fr.refl no w).alloc _)
    have HNM := Lib.hid (names_ok w)
    generalize w.alloc (.cells namesCells 9) = w1 at *
    clear hc
    go_enter Try.func10, Try.ntmps10
    go_wp2_with fail
    refine C.mono ?_
    clear C
    rintro e w' ⟨rfl, rfl⟩
    go_wp2_with fail
    refine HNM.out.mono ?_
    rintro e w' ⟨rfl, rfl⟩
    simp only [Nat.zero_add] at c0
    go_wp2_with fail
    go_ret
    exact ⟨rfl, R.out⟩
  · rw [decide_eq_false h] at C
    have HN : Hid (nameI n = ⟨#[]⟩) := Lib.hid (by rw [nameI, if_neg h])
    rw [HN.out]
    clear h
    go_enter Try.func10, Try.ntmps10
    go_wp2_with fail
    refine C.mono ?_
    clear C
    rintro e w' ⟨rfl, rfl⟩
    go_wp2_with fail
    go_ret
    exact ⟨rfl, Fr.refl _ _⟩

theorem shape_mid (m : Nat) (h1 : 3 ≤ m) (h2 : m ≤ 19) : shapeOf m = ⟨#[119, 114, 114]⟩ := by
  obtain rfl | rfl | rfl | rfl | rfl | rfl | rfl | rfl | rfl | rfl | rfl | rfl | rfl | rfl | rfl | rfl | rfl : m = 3 ∨ m = 4 ∨ m = 5 ∨ m = 6 ∨ m = 7 ∨ m = 8 ∨ m = 9 ∨ m = 10 ∨ m = 11 ∨ m = 12 ∨ m = 13 ∨ m = 14 ∨ m = 15 ∨ m = 16 ∨ m = 17 ∨ m = 18 ∨ m = 19 := by omega
  all_goals rfl

theorem refshape_all (w : World) (n : Int) : Calls Try.prog 12 #[.int .i64 n] w fun e w' => e = .returned (.string (shapeI n)) ∧ w = w' := by
  by_cases hl : n = 1 ∨ n = 2 ∨ n = 20 ∨ n = 21 ∨ n = 22 ∨ n = 23 ∨ n = 24 ∨ n = 25 ∨ n = 26 ∨ n = 27 ∨ n = 28 ∨ n = 29 ∨ n = 30 ∨ n = 31 ∨ n = 32
  · rcases hl with rfl | rfl | rfl | rfl | rfl | rfl | rfl | rfl | rfl | rfl | rfl | rfl | rfl | rfl | rfl
    all_goals
      go_enter Try.func12, Try.ntmps12
      go_wp2_with fail
      go_ret
      exact ⟨rfl, rfl⟩
  have e1 : (n == 1) = false := by rw [beq_eq_false_iff_ne]; omega
  have e2 : (n == 2) = false := by rw [beq_eq_false_iff_ne]; omega
  have e20 : (n == 20) = false := by rw [beq_eq_false_iff_ne]; omega
  have e21 : (n == 21) = false := by rw [beq_eq_false_iff_ne]; omega
  have e22 : (n == 22) = false := by rw [beq_eq_false_iff_ne]; omega
  have e23 : (n == 23) = false := by rw [beq_eq_false_iff_ne]; omega
  have e24 : (n == 24) = false := by rw [beq_eq_false_iff_ne]; omega
  have e25 : (n == 25) = false := by rw [beq_eq_false_iff_ne]; omega
  have e26 : (n == 26) = false := by rw [beq_eq_false_iff_ne]; omega
  have e27 : (n == 27) = false := by rw [beq_eq_false_iff_ne]; omega
  have e28 : (n == 28) = false := by rw [beq_eq_false_iff_ne]; omega
  have e29 : (n == 29) = false := by rw [beq_eq_false_iff_ne]; omega
  have e30 : (n == 30) = false := by rw [beq_eq_false_iff_ne]; omega
  have e31 : (n == 31) = false := by rw [beq_eq_false_iff_ne]; omega
  have e32 : (n == 32) = false := by rw [beq_eq_false_iff_ne]; omega
  by_cases h1 : n < 3
  · have HS : Hid (shapeI n = ⟨#[]⟩) := by
      refine Lib.hid ?_
      unfold shapeI
      split
      · obtain rfl : n = 0 := by omega
        rfl
      · rfl
    rw [HS.out]
    clear hl
    go_enter Try.func12, Try.ntmps12
    go_wp2_with fail
    go_ret
    exact ⟨rfl, rfl⟩
  by_cases h2 : n ≤ 19
  · have HS : Hid (shapeI n = ⟨#[119, 114, 114]⟩) := by
      refine Lib.hid ?_
      rw [shapeI, if_pos (by omega)]
      exact shape_mid _ (by omega) (by omega)
    rw [HS.out]
    have h3 : 3 ≤ n := by omega
    clear hl
    go_enter Try.func12, Try.ntmps12
    go_wp2_with fail
    go_ret
    exact ⟨rfl, rfl⟩
  · have HS : Hid (shapeI n = ⟨#[]⟩) := by
      refine Lib.hid ?_
      rw [shapeI, if_neg (by omega)]
    rw [HS.out]
    have h3 : 3 ≤ n := by omega
    have h4 : 20 ≤ n := by omega
    clear hl
    go_enter Try.func12, Try.ntmps12
    go_wp2_with fail
    go_ret
    exact ⟨rfl, rfl⟩

end Go.Proofs.Ytkgcfllbkjlfcaa

import Derived.Test.YtkgcfllbkjlfcaaO24
namespace Go.Proofs.Ytkgcfllbkjlfcaa
open Go.RowKit

attribute [local go_sem] Program.isFuncB Program.isSliceB

variable {w w' w'' w0 : World}

theorem cells6 {b : Nat} {a0 a1 a2 a3 a4 a5 : Value} {t : TypeId} (h : w.heap[b]? = some (.cells #[a0, a1, a2, a3, a4, a5] t (0, 0))) :
    w.cell? ⟨b, 0, none⟩ = some a0 ∧ w.cell? ⟨b, 1, none⟩ = some a1 ∧ w.cell? ⟨b, 2, none⟩ = some a2 ∧ w.cell? ⟨b, 3, none⟩ = some a3 ∧ w.cell? ⟨b, 4, none⟩ = some a4 ∧ w.cell? ⟨b, 5, none⟩ = some a5 :=
  ⟨cell_of_heap h rfl, cell_of_heap h rfl, cell_of_heap h rfl, cell_of_heap h rfl, cell_of_heap h rfl, cell_of_heap h rfl⟩

theorem reads_nil (w : World) : Reads w (.slice none 0 0) 1 ([] : List Int).length (ints []) := .inl ⟨rfl, rfl, rfl⟩
theorem reads_new (w : World) (l : List Int) (hl : l.length ≤ 1000000) (e : TypeId) : Reads (w.alloc (.cells (ints l).toArray e)) (.slice (some ⟨w.heap.size, 0, none⟩) l.length l.length) 1 l.length (ints l) := by
  refine .inr ⟨_, _, rfl, Nat.le_refl _, by unfold maxLen; omega, by simp [ints], fun j u hu => ?_⟩
  rw [Addr.add_lit]
  exact cell_of_heap (heap_new w _) (by simpa using hu)

theorem known_add : nameI 3 = ⟨#[97, 100, 100]⟩ ∧ findI ⟨#[98, 114, 110, 122]⟩ = 27 ∧ shapeI 28 = ⟨#[119, 99, 108]⟩ ∧ checkOf 3 0 1 2 0 [] 3 0 = 0 ∧ readsOf 3 0 1 2 [] = [1, 2] ∧ (fieldsOf [0, 1, 2] (sh 3)).2.2 = 0 ∧ fallsI 3 = true := by
  refine ⟨?_, ?_, ?_, ?_, ?_, ?_, ?_⟩ <;> kernel_rfl

set_option maxRecDepth 100000 in
set_option maxHeartbeats 4000000 in
theorem awake_ok (w : World) : Calls Try.prog 8 #[] w fun e w' => e = .returned (.bool true) ∧ Fr no w w' := by
  obtain ⟨k1, k2, k3, k4, k5, k6, k7⟩ := known_add
  have H1 := fun w => name_all w 3
  rw [k1] at H1
  have H2 := fun w => find_ok w ⟨#[98, 114, 110, 122]⟩
  rw [k2] at H2
  have H3 := fun w => shape_all w 28
  rw [k3] at H3
  have H4 := fun w => check_ok w 3 0 1 2 0 3 0 (.slice none 0 0) [] (reads_nil w) (by simp)
  rw [k4] at H4
  have H5 := fun w => reads_ok w 3 0 1 2 0 (.slice none 0 0) [] (reads_nil w) (by simp)
  rw [k5] at H5
  have H6 := fun w => writes_ok w 3 0 1 2 0 (.slice none 0 0)
  rw [k6] at H6
  have H7 := fun w => falls_ok w 3 0 1 2 0 (.slice none 0 0)
  rw [k7] at H7
  have G1 := Lib.hid H1
  have G2 := Lib.hid H2
  have G3 := Lib.hid H3
  have G4 := Lib.hid H4
  have G5 := Lib.hid H5
  have G6 := Lib.hid H6
  have G7 := Lib.hid H7
  clear k1 k2 k3 k4 k5 k6 k7 H1 H2 H3 H4 H5 H6 H7
  unfold insV at *
  have e1 : ((⟨#[97, 100, 100]⟩ : ByteArray).toList == (⟨#[97, 100, 100]⟩ : ByteArray).toList) = true := by simp
  have e2 : ((⟨#[119, 99, 108]⟩ : ByteArray).toList == (⟨#[119, 99, 108]⟩ : ByteArray).toList) = true := by simp
  go_enter Try.func8, Try.ntmps8
  go_wp2_with fail
  refine (of_ok _ 3 0 1 2 0).mono ?_
  rintro e w1 ⟨rfl, r1⟩
  unfold insV
  have HB1 := Lib.hid (heap_new w1 (.cells #[.int .i64 3, .int .i64 0, .int .i64 1, .int .i64 2, .int .i64 0, .slice none 0 0] 30))
  have R1 := Lib.hid (r1.alloc (.cells #[.int .i64 3, .int .i64 0, .int .i64 1, .int .i64 2, .int .i64 0, .slice none 0 0] 30))
  clear r1
  go_wp2_with fail
  refine (G1.out _).mono ?_
  rintro e w2 ⟨rfl, r2⟩
  have HB2 := Lib.hid (r2.heap HB1.out (by simp))
  have R2 := Lib.hid (R1.out.trans r2)
  clear r2 
  go_wp2_with fail
  refine (G2.out _).mono ?_
  rintro e w3 ⟨rfl, r3⟩
  have HB3 := Lib.hid (r3.heap HB2.out (by simp))
  have R3 := Lib.hid (R2.out.trans r3)
  clear r3 
  go_wp2_with fail
  refine (G3.out _).mono ?_
  rintro e w4 ⟨rfl, r4⟩
  have HB4 := Lib.hid (r4.heap HB3.out (by simp))
  have R4 := Lib.hid (R3.out.trans r4)
  clear r4 
  obtain ⟨HB_0, HB_1, HB_2, HB_3, HB_4, HB_5⟩ := cells6 HB4.out
  go_wp2_with fail
  refine (G4.out _).mono ?_
  rintro e w5 ⟨rfl, r5⟩
  have HB5 := Lib.hid (r5.heap HB4.out (by simp))
  have R5 := Lib.hid (R4.out.trans r5)
  clear r5 HB_0 HB_1 HB_2 HB_3 HB_4 HB_5
  obtain ⟨HB_0, HB_1, HB_2, HB_3, HB_4, HB_5⟩ := cells6 HB5.out
  go_wp2_with fail
  refine (G5.out _).mono ?_
  rintro e w6 ⟨rv, rfl, hr, r6⟩
  have HB6 := Lib.hid (r6.heap HB5.out (by simp))
  have R6 := Lib.hid (R5.out.trans r6)
  clear r6 HB_0 HB_1 HB_2 HB_3 HB_4 HB_5
  obtain ⟨HB_0, HB_1, HB_2, HB_3, HB_4, HB_5⟩ := cells6 HB6.out
  go_wp2_with fail
  have HR6 := Lib.hid (owns_reads hr)
  obtain ⟨ra, rc, rfl⟩ := owns_shape hr
  clear hr
  have r7 : Fr no w6 (w6.alloc (.cells #[.int .i64 1, .int .i64 2] 3)) := (Fr.refl no w6).alloc _
  refine (same_ints _ _ _ [1, 2] [1, 2] (HR6.out.fr r7 (by simp)) (reads_new w6 [1, 2] (by simp) _) (by simp)).mono ?_
  rintro e w' ⟨rfl, q, rfl⟩
  have r7' := r7.drewN q
  have HB7 := Lib.hid (r7'.heap HB6.out (by simp))
  have R7 := Lib.hid (R6.out.trans r7')
  generalize World.drewN _ q = w7 at *
  clear r7 r7' HB_0 HB_1 HB_2 HB_3 HB_4 HB_5
  obtain ⟨HB_0, HB_1, HB_2, HB_3, HB_4, HB_5⟩ := cells6 HB7.out
  go_wp2_with fail
  refine (G6.out _).mono ?_
  rintro e w8 ⟨rfl, r8⟩
  have HB8 := Lib.hid (r8.heap HB7.out (by simp))
  have R8 := Lib.hid (R7.out.trans r8)
  clear r8 HB_0 HB_1 HB_2 HB_3 HB_4 HB_5
  obtain ⟨HB_0, HB_1, HB_2, HB_3, HB_4, HB_5⟩ := cells6 HB8.out
  go_wp2_with fail
  refine (G7.out _).mono ?_
  rintro e w9 ⟨rfl, r9⟩
  have HB9 := Lib.hid (r9.heap HB8.out (by simp))
  have R9 := Lib.hid (R8.out.trans r9)
  clear r9 HB_0 HB_1 HB_2 HB_3 HB_4 HB_5
  obtain ⟨HB_0, HB_1, HB_2, HB_3, HB_4, HB_5⟩ := cells6 HB9.out
  go_wp2_with fail
  go_ret
  exact ⟨rfl, R9.out⟩

end Go.Proofs.Ytkgcfllbkjlfcaa

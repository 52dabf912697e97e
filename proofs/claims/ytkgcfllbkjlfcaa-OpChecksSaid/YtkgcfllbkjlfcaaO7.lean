import Derived.Test.YtkgcfllbkjlfcaaO6
namespace Go.Proofs.Ytkgcfllbkjlfcaa
open Go.RowKit

attribute [local go_sem] Program.isFuncB Program.isSliceB

variable {w w' w'' w0 : World}

theorem insObj (w : World) (o A B C N : Int) (args : Value) : (w.alloc (.cells #[.int .i64 o, .int .i64 A, .int .i64 B, .int .i64 C, .int .i64 N, args] 30)).heap[w.heap.size]? = some (.cells #[.int .i64 o, .int .i64 A, .int .i64 B, .int .i64 C, .int .i64 N, args] 30 (0, 0)) := heap_new _ _

def sh (o : Int) : List UInt8 := (shapeI o).data.toList
def hasB (s : List UInt8) (c : UInt8) : Bool := decide (0 ≤ Lib.indexByte s c)

theorem writes_ok (w : World) (o A B C N : Int) (args : Value) : Calls Try.prog 19 #[insV o A B C N args] w fun e w' => e = .returned (.int .i64 (fieldsOf [A, B, C] (sh o)).2.2) ∧ Fr no w w' := by
  have HF := Lib.hid (fun w => fields_ok w o A B C N args)
  unfold sh
  generalize fieldsOf [A, B, C] (shapeI o).data.toList = f at *
  unfold insV at *
  go_enter Try.func19, Try.ntmps19
  go_wp2_with fail
  refine (HF.out _).mono ?_
  rintro e w1 ⟨x, y, rfl, r1, -, -, -⟩
  have R1 := Lib.hid (((Fr.refl no w).alloc _).trans r1)
  clear r1
  go_wp2_with fail
  go_ret
  exact ⟨rfl, R1.out⟩

theorem target_ok (w : World) (o A B C N : Int) (args : Value) : Calls Try.prog 20 #[insV o A B C N args] w fun e w' => e = .returned (.int .i64 (if hasB (sh o) 116 then N else -1)) ∧ Fr no w w' := by
  have HSH := Lib.hid (fun w => shape_all w o)
  have HC := Lib.hid (fun w => Try.strings_Contains_one (shapeI o) 116 w)
  unfold hasB sh
  generalize shapeI o = s at *
  generalize decide (0 ≤ Lib.indexByte s.data.toList 116) = b at *
  unfold insV
  have HO := Lib.hid (insObj w o A B C N args)
  cases b with
  | true =>
    go_enter Try.func20, Try.ntmps20
    go_wp2_with fail
    refine (HSH.out _).mono ?_
    rintro e w1 ⟨rfl, r1⟩
    have c4 : w1.cell? ⟨w.heap.size, 4, none⟩ = some (.int .i64 N) := cell_of_heap (r1.heap HO.out (by simp)) rfl
    have R1 := Lib.hid (((Fr.refl no w).alloc _).trans r1)
    clear r1
    go_wp2_with fail
    refine (HC.out _).mono ?_
    rintro e w' ⟨rfl, rfl⟩
    go_wp2_with fail
    go_ret
    exact ⟨rfl, R1.out⟩
  | false =>
    go_enter Try.func20, Try.ntmps20
    go_wp2_with fail
    refine (HSH.out _).mono ?_
    rintro e w1 ⟨rfl, r1⟩
    have R1 := Lib.hid (((Fr.refl no w).alloc _).trans r1)
    clear r1
    go_wp2_with fail
    refine (HC.out _).mono ?_
    rintro e w' ⟨rfl, rfl⟩
    go_wp2_with fail
    go_ret
    exact ⟨rfl, R1.out⟩

def fallsI (o : Int) : Bool := decide (0 ≤ o ∧ o < 33) && o != 25 && o != 29 && o != 32
theorem is_all (w : World) (n : Int) : Calls Try.prog 34 #[.int .i64 n] w fun e w' => e = .returned (.bool (decide (0 ≤ n ∧ n < 33))) ∧ w = w' := by
  by_cases h : 0 ≤ n ∧ n < 33
  · rw [decide_eq_true h]
    obtain ⟨m, rfl⟩ : ∃ m : Nat, n = m := ⟨n.toNat, by omega⟩
    exact is_yes w m (by omega)
  · rw [decide_eq_false h]
    exact is_no w n (by omega)
theorem falls_ok (w : World) (o A B C N : Int) (args : Value) : Calls Try.prog 21 #[insV o A B C N args] w fun e w' => e = .returned (.bool (fallsI o)) ∧ Fr no w w' := by
  unfold insV
  have R : Hid (Fr no w (w.alloc (.cells #[.int .i64 o, .int .i64 A, .int .i64 B, .int .i64 C, .int .i64 N, args] 30))) := Lib.hid ((Fr.refl no w).alloc _)
  by_cases h : o = 25 ∨ o = 29 ∨ o = 32
  · rcases h with rfl | rfl | rfl
    all_goals
      go_enter Try.func21, Try.ntmps21
      go_wp2_with fail
      go_ret
      exact ⟨rfl, R.out⟩
  · have e1 : (o == 25) = false := by rw [beq_eq_false_iff_ne]; omega
    have e2 : (o == 29) = false := by rw [beq_eq_false_iff_ne]; omega
    have e3 : (o == 32) = false := by rw [beq_eq_false_iff_ne]; omega
    have HF : Hid (fallsI o = decide (0 ≤ o ∧ o < 33)) := Lib.hid (by simp [fallsI, bne, e1, e2, e3])
    have C := is_all (w.alloc (.cells #[.int .i64 o, .int .i64 A, .int .i64 B, .int .i64 C, .int .i64 N, args] 30)) o
    rw [HF.out]
    generalize decide (0 ≤ o ∧ o < 33) = b at *
    have HC := Lib.hid C
    clear h C
    go_enter Try.func21, Try.ntmps21
    go_wp2_with fail
    refine HC.out.mono ?_
    rintro e w' ⟨rfl, rfl⟩
    go_wp2_with fail
    go_ret
    exact ⟨rfl, R.out⟩

end Go.Proofs.Ytkgcfllbkjlfcaa

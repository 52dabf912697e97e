import Derived.Test.YtpgmfifieilhkaaK7
namespace Go.Proofs.Ytpgmfifieilhkaa
open Go.RowKit

attribute [local go_sem] Program.isFuncB Program.isSliceB

variable {w w' w'' : World}

set_option maxRecDepth 100000 in
set_option maxHeartbeats 4000000 in
theorem none_ok (w : World) (f : Int) (_ : (Lit.int .i64 f).wf = true) (wv : Value) (a : Nat) (_ : a < 18446744073709551616) : Calls Try.prog 5 #[.int .i64 f, wv, .int .u64 a] w fun e w' => e = .returned (.bool true) ∧ Fr no w w' := by
  go_enter Try.func5, Try.ntmps5
  go_upto_region 2 with (fail)
  generalize hc1 : (w.alloc (Obj.cells _ 64)) = w1
  have r1 : Fr no w w1 := by rw [← hc1]; exact (Fr.refl no w).alloc _
  have g1 : w1.cell? ⟨w.heap.size, 0, none⟩ = some (.bool false) := by rw [← hc1]; exact cell_of_heap (heap_new w _) rfl
  have s1 : w1.heap.size = w.heap.size + 1 := by rw [← hc1]; simp
  clear hc1
  generalize hc2 : (w1.alloc (Obj.cells _ 27)) = w2
  have r2 : Fr no w1 w2 := by rw [← hc2]; exact (Fr.refl no w1).alloc _
  have R2 := Lib.hid (r1.trans r2)
  have g2 := r2.cell g1 (by simp)
  have p0 : w2.cell? ⟨w.heap.size + 1, 0, none⟩ = some (.pointer none) := by rw [← hc2, ← s1]; exact cell_of_heap (heap_new w1 _) rfl
  have p1 : w2.cell? ⟨w.heap.size + 1, 1, none⟩ = some (.pointer (some ⟨w.heap.size, 0, none⟩)) := by rw [← hc2, ← s1]; exact cell_of_heap (heap_new w1 _) rfl
  have G2 := Lib.hid g2
  have P0 := Lib.hid p0
  have P1 := Lib.hid p1
  clear hc2 r1 r2 g1 g2 p0 p1 s1
  go_wp2_with fail
  go_loopw [8] (fun x wr => ∃ i : Nat, x = .int .i64 i ∧ i ≤ 2 ∧ Fr no w2 wr) (fun x _ => (2 - intOf x).toNat)
  case atStart => exact ⟨0, rfl, by omega, Fr.refl _ _⟩
  case round =>
    obtain ⟨i, rfl, hi, fr⟩ := hrel
    have FR := Lib.hid fr
    clear fr
    by_cases hlt : i < 2
    · obtain ⟨v, hv, hn⟩ : ∃ v, wr.cell? ⟨w.heap.size + 1, i, none⟩ = some v ∧ Nobody wr v := by
        obtain rfl | rfl : i = 0 ∨ i = 1 := by omega
        · exact ⟨_, FR.out.cell P0.out (by simp), .inl rfl⟩
        · exact ⟨_, FR.out.cell P1.out (by simp), .inr ⟨_, rfl, FR.out.cell G2.out (by simp)⟩⟩
      obtain ⟨va, rfl⟩ := hn.shape
      have HN := Lib.hid hn
      clear hn
      have hlt' : (i : Int) < 2 := by omega
      go_wp2_with fail
      refine (put_no HN.out f wv).mono ?_
      rintro e w3 ⟨rfl, r3⟩
      have H3 := Lib.hid (HN.out.fr r3)
      have F3 := Lib.hid (FR.out.trans r3)
      clear r3
      go_wp2_with fail
      refine (address_no H3.out f).mono ?_
      rintro e w4 ⟨rfl, r4⟩
      have H4 := Lib.hid (H3.out.fr r4)
      have F4 := Lib.hid (F3.out.trans r4)
      clear r4
      go_wp2_with fail
      refine (find_no H4.out a).mono ?_
      rintro e w5 ⟨rfl, r5⟩
      have H5 := Lib.hid (H4.out.fr r5)
      have F5 := Lib.hid (F4.out.trans r5)
      clear r5
      go_wp2_with fail
      refine (next_no H5.out).mono ?_
      rintro e w6 ⟨rfl, r6⟩
      have H6 := Lib.hid (H5.out.fr r6)
      have F6 := Lib.hid (F5.out.trans r6)
      clear r6
      go_wp2_with fail
      refine (code_no H6.out).mono ?_
      rintro e w7 ⟨rfl, r7⟩
      have H7 := Lib.hid (H6.out.fr r7)
      have F7 := Lib.hid (F6.out.trans r7)
      clear r7
      go_wp2_with fail
      refine (left_no H7.out).mono ?_
      rintro e w8 ⟨rfl, r8⟩
      have F8 := Lib.hid (F7.out.trans r8)
      clear r8
      go_wp2_with fail
      go_roundw
      case rel => exact ⟨i + 1, by go_num, by omega, F8.out⟩
      case measure => first | (simp [intOf]; done) | (simp [intOf]; omega)
    · obtain rfl : i = 2 := by omega
      go_wp2_with fail
      refine (awake_ok _).mono ?_
      rintro e w9 ⟨rfl, r9⟩
      have F9 := Lib.hid ((R2.out.trans FR.out).trans r9)
      clear r9
      go_wp2_with fail
      go_ret
      exact ⟨rfl, F9.out⟩

end Go.Proofs.Ytpgmfifieilhkaa

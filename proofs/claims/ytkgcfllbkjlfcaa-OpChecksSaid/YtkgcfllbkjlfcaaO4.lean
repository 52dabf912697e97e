import Derived.Test.YtkgcfllbkjlfcaaO3
namespace Go.Proofs.Ytkgcfllbkjlfcaa
open Go.RowKit

attribute [local go_sem] Program.isFuncB Program.isSliceB Try.zeroRows

variable {w w' w'' : World}

set_option maxHeartbeats 1000000 in
theorem find_ok (w : World) (s : ByteArray) : Calls Try.prog 13 #[.string s] w fun e w' => e = .returned (.int .i64 (findI s)) ∧ Fr no w w' := by
  go_enter Try.func13, Try.ntmps13
  go_wp2_with fail
  refine (rows_ok _).mono ?_
  rintro e w1 ⟨rfl, r1⟩
  have R1 := Lib.hid (((Fr.refl no w).alloc _).trans r1)
  have c0 : w1.cell? ⟨w.heap.size, 0, none⟩ = some (.string s) := r1.cell (cell_of_heap (heap_new w (.cells #[.string s] 9)) rfl) (by simp)
  have hst := run_storeAt_new (P := Try.prog) w1 48 (Array.replicate 66 (.string ⟨#[]⟩)) rowsCells Try.infoRows (by kernel_rfl) (by kernel_rfl)
  have HC := Lib.hid (((Fr.refl no w1).alloc (.cells rowsCells 48)).cell c0 (by simp))
  have HB := Lib.hid (heap_new w1 (.cells rowsCells 48))
  clear r1 c0
  go_wp2_with (refine wpList_store (t := 48) rfl rfl hst ?_; rw [act_put_none])
  refine (index_rows _ s w1.heap.size w.heap.size HB.out HC.out).mono ?_
  rintro e w2 ⟨rfl, r2⟩
  have R2 := Lib.hid ((R1.out.alloc _).trans r2)
  clear r2 hst
  go_wp2_with fail
  go_ret
  exact ⟨rfl, R2.out⟩

theorem names_at (i : Nat) (hi : i < table.length) : namesCells[i]? = some (.string table[i].1) := by
  unfold namesCells
  rw [List.getElem?_toArray, List.getElem?_map, List.getElem?_eq_getElem hi]; rfl

set_option maxHeartbeats 1000000 in
theorem reffind_ok (w : World) (s : ByteArray) : Calls Try.prog 14 #[.string s] w fun e w' => e = .returned (.int .i64 (findI s)) ∧ Fr no w w' := by
  have HNM := Lib.hid (names_ok w)
  have R : Hid (Fr no w (w.alloc (.cells namesCells 9))) := Lib.hid ((Fr.refl no w).alloc _)
  have HCL : Hid (∀ i (hi : i < table.length), (w.alloc (.cells namesCells 9)).cell? ⟨w.heap.size, i, none⟩ = some (.string table[i].1)) := Lib.hid fun i hi => cell_of_heap (heap_new w _) (names_at i hi)
  generalize w.alloc (.cells namesCells 9) = w1 at *
  go_enter Try.func14, Try.ntmps14
  go_wp2_with fail
  refine HNM.out.mono ?_
  rintro e w' ⟨rfl, rfl⟩
  go_wp2_with fail
  go_loopw [4] (fun x wr => ∃ i : Nat, x = .int .i64 i ∧ i ≤ 33 ∧ Hid (∀ j (hj : j < table.length), j < i → table[j].1 ≠ s) ∧ wr = w') (fun x _ => (33 - intOf x).toNat)
  case atStart => exact ⟨0, rfl, by omega, Lib.hid fun j hj h => by omega, rfl⟩
  case round =>
    obtain ⟨i, rfl, hi, hno, rfl⟩ := hrel
    by_cases hlt : i < 33
    · have htl : i < table.length := by rw [table_len]; exact hlt
      have c0 := HCL.out i htl
      have hlt' : (i : Int) < 33 := by omega
      have HT := Lib.hid htl
      by_cases hq : table[i].1 = s
      · have HF : Hid (findI s = i) := Lib.hid (findI_at s i htl hq hno.out)
        have hb : (table[i].1.toList == s.toList) = true := by rw [bytes_eq]; exact decide_eq_true hq
        generalize table[i].1 = nm at *
        clear hq htl
        go_wp2_with fail
        go_ret
        exact ⟨by rw [HF.out]; rfl, R.out⟩
      · have HNO : Hid (∀ j (hj : j < table.length), j < i + 1 → table[j].1 ≠ s) := Lib.hid fun j hj h => by
          rcases Nat.lt_or_ge j i with h2 | h2
          · exact hno.out j hj h2
          · obtain rfl : j = i := by omega
            exact hq
        have hb : (table[i].1.toList == s.toList) = false := by rw [bytes_eq]; exact decide_eq_false hq
        generalize table[i].1 = nm at *
        clear hq htl
        go_wp2_with fail
        go_roundw
        case rel => exact ⟨i + 1, by go_num, by omega, HNO, by trivial⟩
        case measure => first | (simp [intOf]; done) | (simp [intOf]; omega)
    · obtain rfl : i = 33 := by omega
      have HF : Hid (findI s = -1) := Lib.hid (findI_no s fun j hj => hno.out j hj (by rw [table_len] at hj; exact hj))
      go_wp2_with fail
      go_ret
      exact ⟨by rw [HF.out]; rfl, R.out⟩

end Go.Proofs.Ytkgcfllbkjlfcaa

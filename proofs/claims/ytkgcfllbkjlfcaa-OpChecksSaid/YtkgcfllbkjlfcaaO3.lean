import Derived.Test.YtkgcfllbkjlfcaaO2
namespace Go.Proofs.Ytkgcfllbkjlfcaa
open Go.RowKit

attribute [local go_sem] Program.isFuncB Program.isSliceB

variable {w w' w'' : World}

/-- the operation of a name -/
def findN (s : ByteArray) : Option Nat := table.findIdx? fun x => decide (x.1 = s)
def findI (s : ByteArray) : Int := match findN s with | some i => i | none => -1
theorem findI_at (s : ByteArray) (i : Nat) (hi : i < table.length) (h : table[i].1 = s) (hno : ∀ j (hj : j < table.length), j < i → table[j].1 ≠ s) : findI s = i := by
  have : findN s = some i := by
    unfold findN
    rw [List.findIdx?_eq_some_iff_getElem]
    exact ⟨hi, by simpa using h, fun j hj => by simpa using hno j (by omega) hj⟩
  rw [findI, this]
theorem findI_no (s : ByteArray) (hno : ∀ j (hj : j < table.length), table[j].1 ≠ s) : findI s = -1 := by
  have : findN s = none := by
    unfold findN
    rw [List.findIdx?_eq_none_iff]
    intro x hx
    obtain ⟨j, hj, rfl⟩ := List.getElem_of_mem hx
    simpa using hno j hj
  rw [findI, this]
theorem table_len : table.length = 33 := by rfl

theorem row_is (w : World) (a b s : ByteArray) (nb : Nat) (hc : w.cell? ⟨nb, 0, none⟩ = some (.string s)) :
    Calls Try.prog 33 #[.agg #[.string a, .string b], .pointer (some ⟨nb, 0, none⟩)] w fun e w' => e = .returned (.bool (decide (a = s))) ∧ Fr no w w' := by
  have hn := World.block_lt_of_cell? _ _ hc
  have c0 : (w.alloc (.cells #[.string a, .string b] 43)).cell? ⟨nb, 0, none⟩ = some (.string s) := ((Fr.refl no w).alloc _).cell hc (by simp)
  go_enter Try.func33, Try.ntmps33
  go_wp2_with fail
  go_ret
  exact ⟨by rw [← bytes_eq]; rfl, (Fr.refl no w).alloc _⟩

theorem rowsCells_at (i : Nat) (hi : i < table.length) : rowsCells[i * 2]? = some (.string table[i].1) ∧ rowsCells[i * 2 + 1]? = some (.string table[i].2) := by
  have h := congrArg (fun l => l[i]?) rows_all
  rw [table_len] at hi
  simp only [List.getElem?_map, List.getElem?_range hi, Option.map_some, Option.some.injEq, Value.agg.injEq] at h
  have h0 := congrArg (fun (a : Array Value) => a[0]?) h
  have h1 := congrArg (fun (a : Array Value) => a[1]?) h
  have e1 : nameOf i = (table[i]'(by rw [table_len]; exact hi)).1 := by unfold nameOf; rw [List.getD_eq_getElem?_getD, List.getElem?_eq_getElem (by rw [table_len]; exact hi)]; rfl
  have e2 : shapeOf i = (table[i]'(by rw [table_len]; exact hi)).2 := by unfold shapeOf; rw [List.getD_eq_getElem?_getD, List.getElem?_eq_getElem (by rw [table_len]; exact hi)]; rfl
  have hs : rowsCells.size = 66 := by rfl
  simp [Array.getElem?_extract, hs] at h0 h1
  refine ⟨?_, ?_⟩
  · rw [← e1, ← h0.2]
  · rw [← e2, ← h1.2]

set_option maxHeartbeats 1000000 in
theorem index_rows (w : World) (s : ByteArray) (rb nb : Nat) (hr : w.heap[rb]? = some (.cells rowsCells 48 (0, 0))) (hc : w.cell? ⟨nb, 0, none⟩ = some (.string s)) :
    Calls Try.prog 32 #[.slice (some ⟨rb, 0, none⟩) 33 33, .func (.func 33) #[] #[.pointer (some ⟨nb, 0, none⟩)]] w fun e w' => e = .returned (.int .i64 (findI s)) ∧ Fr no w w' := by
  have HR := Lib.hid hr
  have HC := Lib.hid hc
  clear hr hc
  go_enter Try.func32, Try.ntmps32
  go_wp2_with fail
  go_loopw [8] (fun x wr => ∃ i : Nat, x = .int .i64 i ∧ i ≤ 33 ∧ Hid (∀ j (hj : j < table.length), j < i → table[j].1 ≠ s) ∧ Hid (Fr no w wr)) (fun x _ => (33 - intOf x).toNat)
  case atStart => exact ⟨0, rfl, by omega, Lib.hid fun j hj h => by omega, Lib.hid (Fr.refl _ _)⟩
  case round =>
    obtain ⟨i, rfl, hi, hno, hfr⟩ := hrel
    by_cases hlt : i < 33
    · have htl : i < table.length := by rw [table_len]; exact hlt
      obtain ⟨k0, k1⟩ := rowsCells_at i htl
      have hb := hfr.out.heap HR.out (by simp)
      have c0 : wr.cell? ⟨rb, i * 2, none⟩ = some (.string table[i].1) := cell_of_heap hb k0
      have c1 : wr.cell? ⟨rb, i * 2 + 1, none⟩ = some (.string table[i].2) := cell_of_heap hb k1
      have hlt' : (i : Int) < 33 := by omega
      have HT := Lib.hid htl
      have C := row_is wr table[i].1 table[i].2 s nb (hfr.out.cell HC.out (by simp))
      by_cases hq : table[i].1 = s
      · have HF : Hid (findI s = i) := Lib.hid (findI_at s i htl hq hno.out)
        rw [decide_eq_true hq] at C
        generalize table[i].1 = nm at *
        generalize table[i].2 = sh at *
        clear hq k0 k1 hb htl
        go_wp2_with fail
        refine C.mono ?_
        clear C
        rintro e w1 ⟨rfl, r1⟩
        have R1 := Lib.hid (hfr.out.trans r1)
        clear r1 c0 c1
        go_wp2_with fail
        go_ret
        exact ⟨by rw [HF.out]; rfl, R1.out⟩
      · have HNO : Hid (∀ j (hj : j < table.length), j < i + 1 → table[j].1 ≠ s) := Lib.hid fun j hj h => by
          rcases Nat.lt_or_ge j i with h2 | h2
          · exact hno.out j hj h2
          · obtain rfl : j = i := by omega
            exact hq
        rw [decide_eq_false hq] at C
        generalize table[i].1 = nm at *
        generalize table[i].2 = sh at *
        clear hq k0 k1 hb htl
        go_wp2_with fail
        refine C.mono ?_
        clear C
        rintro e w1 ⟨rfl, r1⟩
        have R1 := Lib.hid (hfr.out.trans r1)
        clear r1 c0 c1
        go_wp2_with fail
        go_roundw
        case rel => exact ⟨i + 1, by go_num, by omega, HNO, R1⟩
        case measure => first | (simp [intOf]; done) | (simp [intOf]; omega)
    · obtain rfl : i = 33 := by omega
      have HF : Hid (findI s = -1) := Lib.hid (findI_no s fun j hj => hno.out j hj (by rw [table_len] at hj; exact hj))
      go_wp2_with fail
      go_ret
      exact ⟨by rw [HF.out]; rfl, hfr.out⟩

end Go.Proofs.Ytkgcfllbkjlfcaa

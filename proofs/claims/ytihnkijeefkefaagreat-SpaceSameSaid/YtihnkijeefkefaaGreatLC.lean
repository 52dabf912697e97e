import Derived.Test.YtihnkijeefkefaaGreatLB
set_option linter.unusedSimpArgs false
set_option linter.unusedVariables false
set_option linter.unusedSectionVars false
set_option linter.unnecessarySimpa false
set_option maxRecDepth 100000
namespace Go.Proofs.YtihnkijeefkefaaGreat
open Go.RowKit

attribute [local go_sem] Program.isFuncB Program.isSliceB

variable {w w' w'' w0 : World}

def numLetters : List UInt8 := [105, 107, 109, 122, 102, 100, 116, 99]
def manyOf (o : Int) : Nat := Lib.countByte (sh o) 119 + Lib.countByte (sh o) 114
def bareB (o A B C N : Int) (k : Nat) : Bool := ([A, B, C].drop (manyOf o)).all (· == 0) && (Lib.containsAny (sh o) numLetters || N == 0) && (hasB (sh o) 108 || k == 0)

theorem many_le (o : Int) : manyOf o ≤ 3 := by
  have hB : ((List.range 33).all fun n => decide (Lib.countByte (shapeOf n).data.toList 119 + Lib.countByte (shapeOf n).data.toList 114 ≤ 3)) = true := by decide
  unfold manyOf sh shapeI
  split
  · rename_i h
    have h1 := List.all_eq_true.1 hB o.toNat (by simp; omega)
    simpa using h1
  · decide

set_option maxHeartbeats 4000000 in
theorem bare_ok (w : World) (o A B C N : Int) (ua : Option Addr) (uc k : Nat) :
    Calls Tryz.prog 187 #[insV o A B C N (.slice ua k uc)] w fun e w' => e = .returned (.bool (bareB o A B C N k)) ∧ Fr no w w' := by
  have HSH := Lib.hid (fun w => shape_all w o)
  have HC := Lib.hid (fun w => Tryz.strings_Contains_one (shapeI o) 108 w)
  have HW := Lib.hid (fun w => Tryz.strings_Count_one (shapeI o) 119 w)
  have HR := Lib.hid (fun w => Tryz.strings_Count_one (shapeI o) 114 w)
  have hok := shape_ok o
  have HA := Lib.hid (fun w => Tryz.strings_ContainsAny_laid (shapeI o) ⟨#[105, 107, 109, 122, 102, 100, 116, 99]⟩ w (by have := hok.size; omega) (by decide) (fun j b hj => by
    obtain ⟨hj1, hj2⟩ := List.getElem?_eq_some_iff.1 hj
    rw [blen] at hj1
    have := hok.ascii j hj1
    rw [← hj2]; exact this) (fun j b hj => (show ∀ b ∈ numLetters, b.toNat < 128 from by decide) b (List.mem_of_getElem? hj)))
  have hm := many_le o
  have HM := Lib.hid (show bareB o A B C N k = (([A, B, C].drop (Lib.countByte (shapeI o).data.toList 119 + Lib.countByte (shapeI o).data.toList 114)).all (· == 0) && (Lib.containsAny (shapeI o).data.toList [105, 107, 109, 122, 102, 100, 116, 99] || N == 0) && (decide (0 ≤ Lib.indexByte (shapeI o).data.toList 108) || k == 0)) from rfl)
  unfold manyOf sh at hm
  clear hok
  rw [show (⟨#[105, 107, 109, 122, 102, 100, 116, 99]⟩ : ByteArray).data.toList = [105, 107, 109, 122, 102, 100, 116, 99] from rfl] at HA
  rw [HM.out]
  clear HM
  generalize shapeI o = s at *
  generalize Lib.countByte s.data.toList 119 = cw at *
  generalize Lib.countByte s.data.toList 114 = cr at *
  generalize Lib.containsAny s.data.toList [105, 107, 109, 122, 102, 100, 116, 99] = b1 at *
  generalize decide (0 ≤ Lib.indexByte s.data.toList 108) = b2 at *
  unfold insV
  have HOB := Lib.hid (insObj w o A B C N (.slice ua k uc))
  have R0 : Hid (Fr no w (w.alloc (.cells #[.int .i64 o, .int .i64 A, .int .i64 B, .int .i64 C, .int .i64 N, .slice ua k uc] 112))) := Lib.hid ((Fr.refl no w).alloc _)
  obtain ⟨mm, hmm⟩ : ∃ mm, cw + cr = mm := ⟨_, rfl⟩
  have hmi : (cw : Int) + cr = mm := by omega
  rw [hmm]
  have hm3 : mm ≤ 3 := by omega
  obtain ⟨d, hd⟩ : ∃ d, ([A, B, C].drop mm).all (· == 0) = d := ⟨_, rfl⟩
  have HDD := Lib.hid hd
  rw [hd]
  clear hm hmm hd
  go_enter Tryz.func187, Tryz.ntmps187
  go_wp2_with fail
  refine (HSH.out _).mono ?_
  rintro e w1 ⟨rfl, r1⟩
  have hob1 := r1.heap HOB.out (by simp)
  have R1 := Lib.hid (R0.out.trans r1)
  have HOB1 := Lib.hid hob1
  clear r1 hob1
  go_wp2_with fail
  refine (HW.out _).mono ?_
  rintro e w' ⟨rfl, rfl⟩
  go_wp2_with fail
  refine (HR.out _).mono ?_
  rintro e w' ⟨rfl, rfl⟩
  have c1 : w'.cell? ⟨w.heap.size, 1, none⟩ = some (.int .i64 A) := cell_of_heap HOB1.out rfl
  have c2 : w'.cell? ⟨w.heap.size, 2, none⟩ = some (.int .i64 B) := cell_of_heap HOB1.out rfl
  have c3 : w'.cell? ⟨w.heap.size, 3, none⟩ = some (.int .i64 C) := cell_of_heap HOB1.out rfl
  obtain ⟨w2, hw2⟩ : ∃ w2, w2 = w'.alloc (.cells #[.int .i64 A, .int .i64 B, .int .i64 C] 3) := ⟨_, rfl⟩
  have hl2 : w2.heap[w'.heap.size]? = some (.cells #[.int .i64 A, .int .i64 B, .int .i64 C] 3 (0, 0)) := by rw [hw2]; exact heap_new _ _
  have r2 : Fr no w' w2 := by rw [hw2]; exact (Fr.refl no w').alloc _
  have HL2 := Lib.hid hl2
  have HW2 := Lib.hid hw2
  have R2 := Lib.hid (R1.out.trans r2)
  have HOB2 := Lib.hid (r2.heap HOB1.out (by simp))
  clear hl2 hw2 r2
  obtain rfl | rfl | rfl | rfl : mm = 0 ∨ mm = 1 ∨ mm = 2 ∨ mm = 3 := by omega
  --CASES
  · go_wp2_with fail
    rw [← HW2.out]
    go_loopw [25] (fun x wr => ∃ i : Nat, x = .int .i64 i ∧ i ≤ 3 ∧ Hid (∀ j, j < i → ([A, B, C] : List Int).getD j 0 = 0) ∧ wr = w2) (fun x _ => (3 - intOf x).toNat)
    case atStart => exact ⟨0, rfl, by omega, Lib.hid (fun j hj => by omega), rfl⟩
    case round =>
      obtain ⟨i, rfl, hi, hz, rfl⟩ := hrel
      by_cases hlt : i < 3
      · have ck : wr.cell? ⟨w'.heap.size, i, none⟩ = some (.int .i64 (([A, B, C] : List Int).getD i 0)) := by
          refine cell_of_heap HL2.out ?_
          obtain rfl | rfl | rfl : i = 0 ∨ i = 1 ∨ i = 2 := by omega
          all_goals rfl
        have hlt' : (i : Int) < 3 := by omega
        by_cases hne : ([A, B, C] : List Int).getD i 0 = 0
        · have HZ : Hid (∀ j, j < i + 1 → ([A, B, C] : List Int).getD j 0 = 0) := Lib.hid (fun j hj => by
            rcases Nat.lt_or_ge j i with h | h
            · exact hz.out j h
            · obtain rfl : j = i := by omega
              exact hne)
          rw [hne] at ck
          clear hne
          go_wp2_with fail
          go_roundw
          case rel => exact ⟨i + 1, by go_num, by omega, HZ, by trivial⟩
          case measure => first | (simp [intOf]; done) | (simp [intOf]; omega)
        · have HD : Hid (d = false) := Lib.hid (by
            rw [← HDD.out]
            show ([A, B, C] : List Int).all (· == 0) = false
            rw [List.all_eq_false]
            refine ⟨([A, B, C] : List Int).getD i 0, ?_, by simpa using hne⟩
            rw [List.getD_eq_getElem?_getD, List.getElem?_eq_getElem (by simp; omega)]
            exact List.getElem_mem _)
          generalize ([A, B, C] : List Int).getD i 0 = z at *
          have hne2 : (z == 0) = false := by simpa using hne
          go_wp2_with fail
          go_ret
          exact ⟨by rw [HD.out]; rfl, R2.out⟩
      · obtain rfl : i = 3 := by omega
        have HD : Hid (d = true) := Lib.hid (by
          rw [← HDD.out]
          show ([A, B, C] : List Int).all (· == 0) = true
          rw [List.all_eq_true]
          intro x hx
          obtain ⟨j, hj, rfl⟩ := List.getElem_of_mem hx
          have := hz.out j (by simpa using hj)
          rw [List.getD_eq_getElem?_getD, List.getElem?_eq_getElem hj] at this
          simpa using this)
        go_wp2_with fail
        refine (HA.out _).mono ?_
        rintro e w3 ⟨rfl, hbl⟩
        have r3 : Fr no wr w3 := Fr.of_below hbl
        have hob3 := r3.heap HOB2.out (by simp)
        have c4 : w3.cell? ⟨w.heap.size, 4, none⟩ = some (.int .i64 N) := cell_of_heap hob3 rfl
        have c5 : w3.cell? ⟨w.heap.size, 5, none⟩ = some (.slice ua k uc) := cell_of_heap hob3 rfl
        have R3 := Lib.hid (R2.out.trans r3)
        clear hbl r3 hob3
        by_cases hN : b1 = true ∨ N = 0
        · have hb1 : b1 = false → N = 0 := fun h => by rcases hN with h2 | h2; rw [h] at h2; cases h2; exact h2
          cases b1 with
          | true =>
            clear hN hb1
            go_wp2_with fail
            refine (HC.out _).mono ?_
            rintro e w' ⟨rfl, rfl⟩
            cases b2 with
            | true =>
              go_wp2_with fail
              go_ret
              exact ⟨by rw [HD.out]; rfl, R3.out⟩
            | false =>
              have hk : ((k : Int) == 0) = (k == 0) := by rw [Bool.eq_iff_iff]; simp
              have HK := Lib.hid hk
              clear hk
              go_wp2_with fail
              go_ret
              exact ⟨by rw [HD.out, ← HK.out]; rfl, R3.out⟩
          | false =>
            obtain rfl := hb1 rfl
            clear hN hb1
            go_wp2_with fail
            refine (HC.out _).mono ?_
            rintro e w' ⟨rfl, rfl⟩
            cases b2 with
            | true =>
              go_wp2_with fail
              go_ret
              exact ⟨by rw [HD.out]; rfl, R3.out⟩
            | false =>
              have hk : ((k : Int) == 0) = (k == 0) := by rw [Bool.eq_iff_iff]; simp
              have HK := Lib.hid hk
              clear hk
              go_wp2_with fail
              go_ret
              exact ⟨by rw [HD.out, ← HK.out]; rfl, R3.out⟩
        · obtain rfl : b1 = false := by cases b1; rfl; exact (hN (.inl rfl)).elim
          have hN2 : ¬ N = 0 := fun h => hN (.inr h)
          have hN3 : (N == 0) = false := by simpa using hN2
          clear hN hN2
          go_wp2_with fail
          go_ret
          exact ⟨by rw [HD.out, hN3]; rfl, R3.out⟩
  · go_wp2_with fail
    rw [← HW2.out]
    go_loopw [25] (fun x wr => ∃ i : Nat, x = .int .i64 i ∧ i ≤ 2 ∧ Hid (∀ j, j < i → ([B, C] : List Int).getD j 0 = 0) ∧ wr = w2) (fun x _ => (2 - intOf x).toNat)
    case atStart => exact ⟨0, rfl, by omega, Lib.hid (fun j hj => by omega), rfl⟩
    case round =>
      obtain ⟨i, rfl, hi, hz, rfl⟩ := hrel
      by_cases hlt : i < 2
      · have ck : wr.cell? ⟨w'.heap.size, 1 + i, none⟩ = some (.int .i64 (([B, C] : List Int).getD i 0)) := by
          refine cell_of_heap HL2.out ?_
          obtain rfl | rfl : i = 0 ∨ i = 1 := by omega
          all_goals rfl
        have hlt' : (i : Int) < 2 := by omega
        by_cases hne : ([B, C] : List Int).getD i 0 = 0
        · have HZ : Hid (∀ j, j < i + 1 → ([B, C] : List Int).getD j 0 = 0) := Lib.hid (fun j hj => by
            rcases Nat.lt_or_ge j i with h | h
            · exact hz.out j h
            · obtain rfl : j = i := by omega
              exact hne)
          rw [hne] at ck
          clear hne
          go_wp2_with fail
          go_roundw
          case rel => exact ⟨i + 1, by go_num, by omega, HZ, by trivial⟩
          case measure => first | (simp [intOf]; done) | (simp [intOf]; omega)
        · have HD : Hid (d = false) := Lib.hid (by
            rw [← HDD.out]
            show ([B, C] : List Int).all (· == 0) = false
            rw [List.all_eq_false]
            refine ⟨([B, C] : List Int).getD i 0, ?_, by simpa using hne⟩
            rw [List.getD_eq_getElem?_getD, List.getElem?_eq_getElem (by simp; omega)]
            exact List.getElem_mem _)
          generalize ([B, C] : List Int).getD i 0 = z at *
          have hne2 : (z == 0) = false := by simpa using hne
          go_wp2_with fail
          go_ret
          exact ⟨by rw [HD.out]; rfl, R2.out⟩
      · obtain rfl : i = 2 := by omega
        have HD : Hid (d = true) := Lib.hid (by
          rw [← HDD.out]
          show ([B, C] : List Int).all (· == 0) = true
          rw [List.all_eq_true]
          intro x hx
          obtain ⟨j, hj, rfl⟩ := List.getElem_of_mem hx
          have := hz.out j (by simpa using hj)
          rw [List.getD_eq_getElem?_getD, List.getElem?_eq_getElem hj] at this
          simpa using this)
        go_wp2_with fail
        refine (HA.out _).mono ?_
        rintro e w3 ⟨rfl, hbl⟩
        have r3 : Fr no wr w3 := Fr.of_below hbl
        have hob3 := r3.heap HOB2.out (by simp)
        have c4 : w3.cell? ⟨w.heap.size, 4, none⟩ = some (.int .i64 N) := cell_of_heap hob3 rfl
        have c5 : w3.cell? ⟨w.heap.size, 5, none⟩ = some (.slice ua k uc) := cell_of_heap hob3 rfl
        have R3 := Lib.hid (R2.out.trans r3)
        clear hbl r3 hob3
        by_cases hN : b1 = true ∨ N = 0
        · have hb1 : b1 = false → N = 0 := fun h => by rcases hN with h2 | h2; rw [h] at h2; cases h2; exact h2
          cases b1 with
          | true =>
            clear hN hb1
            go_wp2_with fail
            refine (HC.out _).mono ?_
            rintro e w' ⟨rfl, rfl⟩
            cases b2 with
            | true =>
              go_wp2_with fail
              go_ret
              exact ⟨by rw [HD.out]; rfl, R3.out⟩
            | false =>
              have hk : ((k : Int) == 0) = (k == 0) := by rw [Bool.eq_iff_iff]; simp
              have HK := Lib.hid hk
              clear hk
              go_wp2_with fail
              go_ret
              exact ⟨by rw [HD.out, ← HK.out]; rfl, R3.out⟩
          | false =>
            obtain rfl := hb1 rfl
            clear hN hb1
            go_wp2_with fail
            refine (HC.out _).mono ?_
            rintro e w' ⟨rfl, rfl⟩
            cases b2 with
            | true =>
              go_wp2_with fail
              go_ret
              exact ⟨by rw [HD.out]; rfl, R3.out⟩
            | false =>
              have hk : ((k : Int) == 0) = (k == 0) := by rw [Bool.eq_iff_iff]; simp
              have HK := Lib.hid hk
              clear hk
              go_wp2_with fail
              go_ret
              exact ⟨by rw [HD.out, ← HK.out]; rfl, R3.out⟩
        · obtain rfl : b1 = false := by cases b1; rfl; exact (hN (.inl rfl)).elim
          have hN2 : ¬ N = 0 := fun h => hN (.inr h)
          have hN3 : (N == 0) = false := by simpa using hN2
          clear hN hN2
          go_wp2_with fail
          go_ret
          exact ⟨by rw [HD.out, hN3]; rfl, R3.out⟩
  · go_wp2_with fail
    rw [← HW2.out]
    go_loopw [25] (fun x wr => ∃ i : Nat, x = .int .i64 i ∧ i ≤ 1 ∧ Hid (∀ j, j < i → ([C] : List Int).getD j 0 = 0) ∧ wr = w2) (fun x _ => (1 - intOf x).toNat)
    case atStart => exact ⟨0, rfl, by omega, Lib.hid (fun j hj => by omega), rfl⟩
    case round =>
      obtain ⟨i, rfl, hi, hz, rfl⟩ := hrel
      by_cases hlt : i < 1
      · have ck : wr.cell? ⟨w'.heap.size, 2 + i, none⟩ = some (.int .i64 (([C] : List Int).getD i 0)) := by
          refine cell_of_heap HL2.out ?_
          obtain rfl : i = 0 := by omega
          all_goals rfl
        have hlt' : (i : Int) < 1 := by omega
        by_cases hne : ([C] : List Int).getD i 0 = 0
        · have HZ : Hid (∀ j, j < i + 1 → ([C] : List Int).getD j 0 = 0) := Lib.hid (fun j hj => by
            rcases Nat.lt_or_ge j i with h | h
            · exact hz.out j h
            · obtain rfl : j = i := by omega
              exact hne)
          rw [hne] at ck
          clear hne
          go_wp2_with fail
          go_roundw
          case rel => exact ⟨i + 1, by go_num, by omega, HZ, by trivial⟩
          case measure => first | (simp [intOf]; done) | (simp [intOf]; omega)
        · have HD : Hid (d = false) := Lib.hid (by
            rw [← HDD.out]
            show ([C] : List Int).all (· == 0) = false
            rw [List.all_eq_false]
            refine ⟨([C] : List Int).getD i 0, ?_, by simpa using hne⟩
            rw [List.getD_eq_getElem?_getD, List.getElem?_eq_getElem (by simp; omega)]
            exact List.getElem_mem _)
          generalize ([C] : List Int).getD i 0 = z at *
          have hne2 : (z == 0) = false := by simpa using hne
          go_wp2_with fail
          go_ret
          exact ⟨by rw [HD.out]; rfl, R2.out⟩
      · obtain rfl : i = 1 := by omega
        have HD : Hid (d = true) := Lib.hid (by
          rw [← HDD.out]
          show ([C] : List Int).all (· == 0) = true
          rw [List.all_eq_true]
          intro x hx
          obtain ⟨j, hj, rfl⟩ := List.getElem_of_mem hx
          have := hz.out j (by simpa using hj)
          rw [List.getD_eq_getElem?_getD, List.getElem?_eq_getElem hj] at this
          simpa using this)
        go_wp2_with fail
        refine (HA.out _).mono ?_
        rintro e w3 ⟨rfl, hbl⟩
        have r3 : Fr no wr w3 := Fr.of_below hbl
        have hob3 := r3.heap HOB2.out (by simp)
        have c4 : w3.cell? ⟨w.heap.size, 4, none⟩ = some (.int .i64 N) := cell_of_heap hob3 rfl
        have c5 : w3.cell? ⟨w.heap.size, 5, none⟩ = some (.slice ua k uc) := cell_of_heap hob3 rfl
        have R3 := Lib.hid (R2.out.trans r3)
        clear hbl r3 hob3
        by_cases hN : b1 = true ∨ N = 0
        · have hb1 : b1 = false → N = 0 := fun h => by rcases hN with h2 | h2; rw [h] at h2; cases h2; exact h2
          cases b1 with
          | true =>
            clear hN hb1
            go_wp2_with fail
            refine (HC.out _).mono ?_
            rintro e w' ⟨rfl, rfl⟩
            cases b2 with
            | true =>
              go_wp2_with fail
              go_ret
              exact ⟨by rw [HD.out]; rfl, R3.out⟩
            | false =>
              have hk : ((k : Int) == 0) = (k == 0) := by rw [Bool.eq_iff_iff]; simp
              have HK := Lib.hid hk
              clear hk
              go_wp2_with fail
              go_ret
              exact ⟨by rw [HD.out, ← HK.out]; rfl, R3.out⟩
          | false =>
            obtain rfl := hb1 rfl
            clear hN hb1
            go_wp2_with fail
            refine (HC.out _).mono ?_
            rintro e w' ⟨rfl, rfl⟩
            cases b2 with
            | true =>
              go_wp2_with fail
              go_ret
              exact ⟨by rw [HD.out]; rfl, R3.out⟩
            | false =>
              have hk : ((k : Int) == 0) = (k == 0) := by rw [Bool.eq_iff_iff]; simp
              have HK := Lib.hid hk
              clear hk
              go_wp2_with fail
              go_ret
              exact ⟨by rw [HD.out, ← HK.out]; rfl, R3.out⟩
        · obtain rfl : b1 = false := by cases b1; rfl; exact (hN (.inl rfl)).elim
          have hN2 : ¬ N = 0 := fun h => hN (.inr h)
          have hN3 : (N == 0) = false := by simpa using hN2
          clear hN hN2
          go_wp2_with fail
          go_ret
          exact ⟨by rw [HD.out, hN3]; rfl, R3.out⟩
  · go_wp2_with fail
    rw [← HW2.out]
    go_loopw [25] (fun x wr => ∃ i : Nat, x = .int .i64 i ∧ i ≤ 0 ∧ Hid (∀ j, j < i → ([] : List Int).getD j 0 = 0) ∧ wr = w2) (fun x _ => (0 - intOf x).toNat)
    case atStart => exact ⟨0, rfl, by omega, Lib.hid (fun j hj => by omega), rfl⟩
    case round =>
      obtain ⟨i, rfl, hi, hz, rfl⟩ := hrel
      obtain rfl : i = 0 := by omega
      have HD : Hid (d = true) := Lib.hid (by rw [← HDD.out]; rfl)
      go_wp2_with fail
      refine (HA.out _).mono ?_
      rintro e w3 ⟨rfl, hbl⟩
      have r3 : Fr no wr w3 := Fr.of_below hbl
      have hob3 := r3.heap HOB2.out (by simp)
      have c4 : w3.cell? ⟨w.heap.size, 4, none⟩ = some (.int .i64 N) := cell_of_heap hob3 rfl
      have c5 : w3.cell? ⟨w.heap.size, 5, none⟩ = some (.slice ua k uc) := cell_of_heap hob3 rfl
      have R3 := Lib.hid (R2.out.trans r3)
      clear hbl r3 hob3
      by_cases hN : b1 = true ∨ N = 0
      · have hb1 : b1 = false → N = 0 := fun h => by rcases hN with h2 | h2; rw [h] at h2; cases h2; exact h2
        cases b1 with
        | true =>
          clear hN hb1
          go_wp2_with fail
          refine (HC.out _).mono ?_
          rintro e w' ⟨rfl, rfl⟩
          cases b2 with
          | true =>
            go_wp2_with fail
            go_ret
            exact ⟨by rw [HD.out]; rfl, R3.out⟩
          | false =>
            have hk : ((k : Int) == 0) = (k == 0) := by rw [Bool.eq_iff_iff]; simp
            have HK := Lib.hid hk
            clear hk
            go_wp2_with fail
            go_ret
            exact ⟨by rw [HD.out, ← HK.out]; rfl, R3.out⟩
        | false =>
          obtain rfl := hb1 rfl
          clear hN hb1
          go_wp2_with fail
          refine (HC.out _).mono ?_
          rintro e w' ⟨rfl, rfl⟩
          cases b2 with
          | true =>
            go_wp2_with fail
            go_ret
            exact ⟨by rw [HD.out]; rfl, R3.out⟩
          | false =>
            have hk : ((k : Int) == 0) = (k == 0) := by rw [Bool.eq_iff_iff]; simp
            have HK := Lib.hid hk
            clear hk
            go_wp2_with fail
            go_ret
            exact ⟨by rw [HD.out, ← HK.out]; rfl, R3.out⟩
      · obtain rfl : b1 = false := by cases b1; rfl; exact (hN (.inl rfl)).elim
        have hN2 : ¬ N = 0 := fun h => hN (.inr h)
        have hN3 : (N == 0) = false := by simpa using hN2
        clear hN hN2
        go_wp2_with fail
        go_ret
        exact ⟨by rw [HD.out, hN3]; rfl, R3.out⟩

end Go.Proofs.YtihnkijeefkefaaGreat

namespace Go.Proofs.YtihnkijeefkefaaGreat
open Go.RowKit

attribute [local go_sem] Program.isFuncB Program.isSliceB

variable {w w' w'' w0 : World}

def out1 (regs n : Int) : Bool := decide (n < 0) || decide (regs ≤ n)

theorem out_ok (w : World) (n regs : Int) (rb : Nat) (hc : w.cell? ⟨rb, 0, none⟩ = some (.int .i64 regs)) :
    Calls Tryz.prog 190 #[.int .i64 n, .pointer (some ⟨rb, 0, none⟩)] w fun e w' => e = .returned (.bool (out1 regs n)) ∧ w = w' := by
  by_cases h0 : n < 0
  · have HO : Hid (out1 regs n = true) := Lib.hid (by simp [out1, h0])
    go_enter Tryz.func190, Tryz.ntmps190
    go_wp2_with fail
    go_ret
    exact ⟨by rw [HO.out]; rfl, rfl⟩
  · have HO : Hid (out1 regs n = decide (regs ≤ n)) := Lib.hid (by simp [out1, h0])
    go_enter Tryz.func190, Tryz.ntmps190
    go_wp2_with fail
    go_ret
    exact ⟨by rw [HO.out]; rfl, rfl⟩

/-- the first number out of reach -/
def outAt (regs : Int) (l : List Int) : Int := match l.findIdx? (out1 regs) with | some i => i | none => -1
theorem outAt_ge (regs : Int) (l : List Int) : decide (0 ≤ outAt regs l) = l.any (out1 regs) := by
  unfold outAt
  cases h : l.findIdx? (out1 regs) with
  | none =>
    rw [List.findIdx?_eq_none_iff] at h
    have : l.any (out1 regs) = false := by rw [List.any_eq_false]; intro x hx; simpa using h x hx
    rw [this]; rfl
  | some i =>
    rw [List.findIdx?_eq_some_iff_getElem] at h
    obtain ⟨hi, h1, _⟩ := h
    have : l.any (out1 regs) = true := List.any_eq_true.2 ⟨l[i], List.getElem_mem hi, h1⟩
    rw [this]
    exact decide_eq_true (show (0 : Int) ≤ (i : Int) from by omega)

set_option maxHeartbeats 1000000 in
theorem indexOut (w : World) (regs : Int) (rb : Nat) (v : Value) (l : List Int) (hv : Reads w v 1 l.length (ints l)) (hl : l.length ≤ 1000000) (hc : w.cell? ⟨rb, 0, none⟩ = some (.int .i64 regs)) :
    Calls Tryz.prog 128 #[v, .func (.func 190) #[] #[.pointer (some ⟨rb, 0, none⟩)]] w fun e w' => e = .returned (.int .i64 (outAt regs l)) ∧ w = w' := by
  obtain ⟨sa, sc, rfl⟩ := hv.shape
  have HV := Lib.hid hv
  have HC := Lib.hid hc
  clear hv hc
  go_enter Tryz.func128, Tryz.ntmps128
  go_wp2_with fail
  go_loopw [8] (fun x wr => ∃ i : Nat, x = .int .i64 i ∧ i ≤ l.length ∧ Hid (∀ j (hj : j < l.length), j < i → out1 regs l[j] = false) ∧ wr = w) (fun x _ => (l.length - intOf x).toNat)
  case atStart => exact ⟨0, rfl, by omega, Lib.hid fun j hj h => by omega, rfl⟩
  case round =>
    obtain ⟨i, rfl, hi, hno, rfl⟩ := hrel
    by_cases hlt : i < l.length
    · obtain ⟨b, o, rfl, c0⟩ := HV.out.at1 (k := i) (u := .int .i64 l[i]) (by simp [ints, hlt])
      have C := Lib.hid (out_ok wr l[i] regs rb HC.out)
      have hlt' : (i : Int) < l.length := by omega
      cases hq : out1 regs l[i] with
      | true =>
        have HF : Hid (outAt regs l = i) := by
          refine Lib.hid ?_
          have : l.findIdx? (out1 regs) = some i := by
            rw [List.findIdx?_eq_some_iff_getElem]
            exact ⟨hlt, hq, fun j hj => by rw [hno.out j (by omega) hj]; simp⟩
          unfold outAt; rw [this]
        rw [hq] at C
        generalize l[i] = z at *
        clear hq
        go_wp2_with fail
        refine C.out.mono ?_
        rintro e w' ⟨rfl, rfl⟩
        go_wp2_with fail
        go_ret
        exact ⟨by rw [HF.out]; rfl, rfl⟩
      | false =>
        have HNO : Hid (∀ j (hj : j < l.length), j < i + 1 → out1 regs l[j] = false) := Lib.hid fun j hj h => by
          rcases Nat.lt_or_ge j i with h2 | h2
          · exact hno.out j hj h2
          · obtain rfl : j = i := by omega
            exact hq
        rw [hq] at C
        generalize l[i] = z at *
        clear hq
        go_wp2_with fail
        refine C.out.mono ?_
        rintro e w' ⟨rfl, rfl⟩
        go_wp2_with fail
        go_roundw
        case rel => exact ⟨i + 1, by go_num, by omega, HNO, by trivial⟩
        case measure => first | (simp [intOf]; done) | (simp [intOf]; omega)
    · obtain rfl : i = l.length := by omega
      have HF : Hid (outAt regs l = -1) := by
        refine Lib.hid ?_
        have : l.findIdx? (out1 regs) = none := by
          rw [List.findIdx?_eq_none_iff]
          intro x hx
          obtain ⟨j, hj, rfl⟩ := List.getElem_of_mem hx
          exact hno.out j hj hj
        unfold outAt; rw [this]
      go_wp2_with fail
      go_ret
      exact ⟨by rw [HF.out]; rfl, rfl⟩

theorem anyOut (w : World) (regs : Int) (rb : Nat) (v : Value) (l : List Int) (hv : Reads w v 1 l.length (ints l)) (hl : l.length ≤ 1000000) (hc : w.cell? ⟨rb, 0, none⟩ = some (.int .i64 regs)) :
    Calls Tryz.prog 65 #[v, .func (.func 190) #[] #[.pointer (some ⟨rb, 0, none⟩)]] w fun e w' => e = .returned (.bool (l.any (out1 regs))) ∧ w = w' := by
  have C := indexOut w regs rb v l hv hl hc
  rw [← outAt_ge]
  generalize outAt regs l = x at *
  have HC := Lib.hid C
  clear C hv hc
  go_enter Tryz.func65, Tryz.ntmps65
  go_wp2_with fail
  refine HC.out.mono ?_
  rintro e w' ⟨rfl, rfl⟩
  go_wp2_with fail
  go_ret
  exact ⟨rfl, rfl⟩

end Go.Proofs.YtihnkijeefkefaaGreat

namespace Go.Proofs.YtihnkijeefkefaaGreat
open Go.RowKit

attribute [local go_sem] Program.isFuncB Program.isSliceB

variable {w w' w'' w0 : World}

def boundsOf (c area : Int) : Int × Int × Bool :=
  if c = 107 then (1, 6, true)
  else if c = 109 then (1, 7, true)
  else if c = 122 then (1, 8, true)
  else if c = 102 then (0, area, true)
  else if c = 100 then (0, 8192, true)
  else if c = 116 then (0, 4095, true)
  else if c = 99 then (0, 63, true)
  else (0, 0, false)

theorem bounds_ok (w : World) (c area : Int) : Calls Tryz.prog 192 #[.int .i32 c, .int .i64 area] w fun e w' => e = .returned (.tuple #[.int .i64 (boundsOf c area).1, .int .i64 (boundsOf c area).2.1, .bool (boundsOf c area).2.2]) ∧ w = w' := by
  by_cases hl : c = 107 ∨ c = 109 ∨ c = 122 ∨ c = 102 ∨ c = 100 ∨ c = 116 ∨ c = 99
  · rcases hl with rfl | rfl | rfl | rfl | rfl | rfl | rfl
    all_goals
      go_enter Tryz.func192, Tryz.ntmps192
      go_wp2_with fail
      go_ret3
      exact ⟨rfl, rfl⟩
  · have HB : Hid (boundsOf c area = (0, 0, false)) := Lib.hid (by
      unfold boundsOf
      rw [if_neg (by omega), if_neg (by omega), if_neg (by omega), if_neg (by omega), if_neg (by omega), if_neg (by omega), if_neg (by omega)])
    have e107 : (c == 107) = false := by rw [beq_eq_false_iff_ne]; omega
    have e109 : (c == 109) = false := by rw [beq_eq_false_iff_ne]; omega
    have e122 : (c == 122) = false := by rw [beq_eq_false_iff_ne]; omega
    have e102 : (c == 102) = false := by rw [beq_eq_false_iff_ne]; omega
    have e100 : (c == 100) = false := by rw [beq_eq_false_iff_ne]; omega
    have e116 : (c == 116) = false := by rw [beq_eq_false_iff_ne]; omega
    have e99 : (c == 99) = false := by rw [beq_eq_false_iff_ne]; omega
    rw [HB.out]
    clear hl
    go_enter Tryz.func192, Tryz.ntmps192
    go_wp2_with fail
    go_ret3
    exact ⟨rfl, rfl⟩

end Go.Proofs.YtihnkijeefkefaaGreat

namespace Go.Proofs.YtihnkijeefkefaaGreat
open Go.RowKit

attribute [local go_sem] Program.isFuncB Program.isSliceB

variable {w w' w'' w0 : World}

/-- is N as a letter says? -/
def numOk (c N area : Int) : Bool :=
  if c = 107 then decide (1 ≤ N ∧ N ≤ 6) else if c = 109 then decide (1 ≤ N ∧ N ≤ 7) else if c = 122 then decide (N = 1 ∨ N = 2 ∨ N = 4 ∨ N = 8)
  else if c = 102 then decide (0 ≤ N ∧ N ≤ area) else if c = 100 then decide (0 ≤ N ∧ N ≤ 8192) else if c = 116 then decide (0 ≤ N ∧ N ≤ 4095) else if c = 99 then decide (0 ≤ N ∧ N ≤ 63) else true

def checkOf (o A B C N : Int) (l : List Int) (regs area : Int) : Int :=
  if ¬ (0 ≤ o ∧ o < 33) then 16
  else if regs < 0 ∨ 64 < regs ∨ area < 0 ∨ 4096 < area ∨ bareB o A B C N l.length = false then 2
  else if 8 < l.length then 3
  else if ((fieldsOf [A, B, C] (sh o)).1 ++ l).any (out1 regs) = true then 5
  else if (sh o).any (fun c => !numOk c.toNat N area) = true then 5
  else 0

theorem numOk_b (c N area : Int) (h : c ≠ 122) : numOk c N area = (!(boundsOf c area).2.2 || decide ((boundsOf c area).1 ≤ N ∧ N ≤ (boundsOf c area).2.1)) := by
  unfold numOk boundsOf
  repeat' split
  all_goals first | (simp; done) | (exfalso; omega)

set_option maxRecDepth 100000 in
set_option maxHeartbeats 4000000 in
theorem check_ok (w : World) (o A B C N regs area : Int) (u : Value) (l : List Int) (hu : Reads w u 1 l.length (ints l)) (hl : l.length ≤ 100000) :
    Calls Tryz.prog 169 #[insV o A B C N u, .int .i64 regs, .int .i64 area] w fun e w' => e = .returned (.int .i64 (checkOf o A B C N l regs area)) ∧ Fr no w w' := by
  obtain ⟨ua, uc, rfl⟩ := hu.shape
  have HI := Lib.hid (fun w => is_all w o)
  have HU := Lib.hid hu
  have HB := Lib.hid (fun w => bare_ok w o A B C N ua uc l.length)
  have HF := Lib.hid (fun w => fields_ok w o A B C N (.slice ua l.length uc))
  have HSH := Lib.hid (fun w => shape_all w o)
  have HOB := Lib.hid (insObj w o A B C N (.slice ua l.length uc))
  have R0 : Hid (Fr no w ((w.alloc (.cells #[.int .i64 o, .int .i64 A, .int .i64 B, .int .i64 C, .int .i64 N, .slice ua l.length uc] 112)).alloc (.cells #[.int .i64 regs] 3))) := Lib.hid (((Fr.refl no w).alloc _).alloc _)
  clear hu
  by_cases his : 0 ≤ o ∧ o < 33
  case neg =>
    have hd : Hid (decide (0 ≤ o ∧ o < 33) = false) := Lib.hid (decide_eq_false his)
    have HR : Hid (checkOf o A B C N l regs area = 16) := Lib.hid (by unfold checkOf; rw [if_pos his])
    rw [hd.out] at HI
    rw [HR.out]
    unfold insV at *
    clear his
    go_enter Tryz.func169, Tryz.ntmps169
    go_wp2_with fail
    refine (HI.out _).mono ?_
    rintro e w' ⟨rfl, rfl⟩
    go_wp2_with fail
    go_ret
    exact ⟨rfl, R0.out⟩
  have hd : Hid (decide (0 ≤ o ∧ o < 33) = true) := Lib.hid (decide_eq_true his)
  rw [hd.out] at HI
  have HIS := Lib.hid his
  clear his
  by_cases hra : regs < 0 ∨ 64 < regs ∨ area < 0 ∨ 4096 < area
  case pos =>
    have HR : Hid (checkOf o A B C N l regs area = 2) := Lib.hid (by
      unfold checkOf
      rw [if_neg (fun h => h HIS.out), if_pos (by rcases hra with h | h | h | h; exact .inl h; exact .inr (.inl h); exact .inr (.inr (.inl h)); exact .inr (.inr (.inr (.inl h))))])
    rw [HR.out]
    unfold insV at *
    by_cases h1 : regs < 0
    · clear hra
      go_enter Tryz.func169, Tryz.ntmps169
      go_wp2_with fail
      refine (HI.out _).mono ?_
      rintro e w' ⟨rfl, rfl⟩
      go_wp2_with fail
      go_ret
      exact ⟨rfl, R0.out⟩
    by_cases h2 : 64 < regs
    · clear hra
      go_enter Tryz.func169, Tryz.ntmps169
      go_wp2_with fail
      refine (HI.out _).mono ?_
      rintro e w' ⟨rfl, rfl⟩
      go_wp2_with fail
      go_ret
      exact ⟨rfl, R0.out⟩
    by_cases h3 : area < 0
    · clear hra
      go_enter Tryz.func169, Tryz.ntmps169
      go_wp2_with fail
      refine (HI.out _).mono ?_
      rintro e w' ⟨rfl, rfl⟩
      go_wp2_with fail
      go_ret
      exact ⟨rfl, R0.out⟩
    · have h4 : 4096 < area := by omega
      clear hra
      go_enter Tryz.func169, Tryz.ntmps169
      go_wp2_with fail
      refine (HI.out _).mono ?_
      rintro e w' ⟨rfl, rfl⟩
      go_wp2_with fail
      go_ret
      exact ⟨rfl, R0.out⟩
  have g1 : ¬ regs < 0 := by omega
  have g2 : ¬ 64 < regs := by omega
  have g3 : ¬ area < 0 := by omega
  have g4 : ¬ 4096 < area := by omega
  have HRA := Lib.hid hra
  clear hra
  have hfew := fields_few o A B C
  unfold sh at hfew
  have HFEW := Lib.hid hfew
  clear hfew
  have HCO := Lib.hid (show checkOf o A B C N l regs area = if bareB o A B C N l.length = false then 2 else if 8 < l.length then 3 else if ((fieldsOf [A, B, C] (shapeI o).data.toList).1 ++ l).any (out1 regs) = true then 5 else if (shapeI o).data.toList.any (fun c => !numOk c.toNat N area) = true then 5 else 0 from by
    unfold checkOf
    rw [if_neg (fun h => h HIS.out)]
    by_cases hb : bareB o A B C N l.length = false
    · rw [if_pos (.inr (.inr (.inr (.inr hb)))), if_pos hb]
    · rw [if_neg (by rintro (h | h | h | h | h) <;> first | exact HRA.out (.inl h) | exact HRA.out (.inr (.inl h)) | exact HRA.out (.inr (.inr (.inl h))) | exact HRA.out (.inr (.inr (.inr h))) | exact hb h), if_neg hb]; rfl)
  generalize checkOf o A B C N l regs area = res at *
  have hok := shape_ok o
  generalize fieldsOf [A, B, C] (shapeI o).data.toList = f at *
  generalize shapeI o = s at *
  generalize bareB o A B C N l.length = bb at *
  have HOK := Lib.hid hok
  clear hok
  have HRG : Hid (((w.alloc (.cells #[.int .i64 o, .int .i64 A, .int .i64 B, .int .i64 C, .int .i64 N, .slice ua l.length uc] 112)).alloc (.cells #[.int .i64 regs] 3)).heap[w.heap.size + 1]? = some (.cells #[.int .i64 regs] 3 (0, 0))) := Lib.hid (by
    have := heap_new (w.alloc (.cells #[.int .i64 o, .int .i64 A, .int .i64 B, .int .i64 C, .int .i64 N, .slice ua l.length uc] 112)) (.cells #[.int .i64 regs] 3)
    simpa using this)
  have HOB0 := Lib.hid (((Fr.refl no (w.alloc (.cells #[.int .i64 o, .int .i64 A, .int .i64 B, .int .i64 C, .int .i64 N, .slice ua l.length uc] 112))).alloc (.cells #[.int .i64 regs] 3)).heap HOB.out (by simp))
  unfold insV at *
  go_enter Tryz.func169, Tryz.ntmps169
  go_wp2_with fail
  refine (HI.out _).mono ?_
  rintro e w' ⟨rfl, rfl⟩
  go_wp2_with fail
  refine (HB.out _).mono ?_
  rintro e w1 ⟨rfl, r1⟩
  have hob1 := r1.heap HOB0.out (by simp)
  have R1 := Lib.hid (R0.out.trans r1)
  have HRG1 := Lib.hid (r1.heap HRG.out (by simp))
  have HOB1 := Lib.hid hob1
  have c0 : w1.cell? ⟨w.heap.size, 0, none⟩ = some (.int .i64 o) := cell_of_heap hob1 rfl
  have c1 : w1.cell? ⟨w.heap.size, 1, none⟩ = some (.int .i64 A) := cell_of_heap hob1 rfl
  have c2 : w1.cell? ⟨w.heap.size, 2, none⟩ = some (.int .i64 B) := cell_of_heap hob1 rfl
  have c3 : w1.cell? ⟨w.heap.size, 3, none⟩ = some (.int .i64 C) := cell_of_heap hob1 rfl
  have c4 : w1.cell? ⟨w.heap.size, 4, none⟩ = some (.int .i64 N) := cell_of_heap hob1 rfl
  have c5 : w1.cell? ⟨w.heap.size, 5, none⟩ = some (.slice ua l.length uc) := cell_of_heap hob1 rfl
  clear r1 hob1
  cases bb with
  | false =>
    go_wp2_with fail
    go_ret
    exact ⟨by rw [HCO.out]; rfl, R1.out⟩
  | true =>
  have HCO2 : Hid (res = if 8 < l.length then 3 else if (f.1 ++ l).any (out1 regs) = true then 5 else if s.data.toList.any (fun c => !numOk c.toNat N area) = true then 5 else 0) := Lib.hid (by rw [HCO.out, if_neg (by simp)])
  clear HCO
  by_cases hlen : 8 < l.length
  · have hlen' : (8 : Int) < l.length := by omega
    go_wp2_with fail
    go_ret
    exact ⟨by rw [HCO2.out, if_pos hlen]; rfl, R1.out⟩
  have hlen' : ¬ (8 : Int) < l.length := by omega
  go_wp2_with fail
  refine (HF.out _).mono ?_
  rintro e w2 ⟨x, y, rfl, r2, hx, -, -⟩
  obtain ⟨xa, xc, rfl⟩ := owns_shape hx
  have hob2 := r2.heap HOB1.out (by simp)
  have R2 := Lib.hid (R1.out.trans r2)
  have HRG2 := Lib.hid (r2.heap HRG1.out (by simp))
  have HOB2 := Lib.hid hob2
  have HX := Lib.hid (owns_reads hx)
  clear c0 c1 c2 c3 c4 c5
  have c5 : w2.cell? ⟨w.heap.size, 5, none⟩ = some (.slice ua l.length uc) := cell_of_heap hob2 rfl
  clear r2 hob2 hx
  go_wp2_with fail
  have r3 : Fr no w2 (w2.alloc (.cells #[.slice xa f.1.length xc, .slice ua l.length uc] 26)) := (Fr.refl no w2).alloc _
  refine (concat2 _ w2.heap.size _ _ f.1 l (heap_new w2 _) (HX.out.fr r3 (by simp)) ((HU.out.fr R2.out (by simp)).fr r3 (by simp)) (by have := HFEW.out.1; omega) hl).mono ?_
  rintro e w4 ⟨v, rfl, hv, r4⟩
  have R4 := Lib.hid ((R2.out.trans r3).trans r4)
  have HRG4 := Lib.hid ((r3.trans r4).heap HRG2.out (by simp))
  have HOB4 := Lib.hid ((r3.trans r4).heap HOB2.out (by simp))
  have HV := Lib.hid (owns_reads hv)
  clear r3 r4 hv c5
  go_wp2_with fail
  refine (anyOut _ regs (w.heap.size + 1) v (f.1 ++ l) HV.out (by have := HFEW.out.1; simp; omega) (cell_of_heap HRG4.out rfl)).mono ?_
  rintro e w' ⟨rfl, rfl⟩
  cases hany : (f.1 ++ l).any (out1 regs) with
  | true =>
    go_wp2_with fail
    go_ret
    exact ⟨by rw [HCO2.out, if_neg hlen, if_pos hany]; rfl, R4.out⟩
  | false =>
  have HCO3 : Hid (res = if s.data.toList.any (fun c => !numOk c.toNat N area) = true then 5 else 0) := Lib.hid (by rw [HCO2.out, if_neg hlen, if_neg (by rw [hany]; simp)])
  have d0 : w4.cell? ⟨w.heap.size, 0, none⟩ = some (.int .i64 o) := cell_of_heap HOB4.out rfl
  clear HCO2 hany
  go_wp2_with fail
  refine (HSH.out _).mono ?_
  rintro e w5 ⟨rfl, r5⟩
  have R5 := Lib.hid (R4.out.trans r5)
  have HOB5 := Lib.hid (r5.heap HOB4.out (by simp))
  clear r5 d0
  go_wp2_with fail
  have hit : (w5.iter s 0).heap[w5.heap.size]? = some (.stringIter s 0) := heap_new w5 _
  have r6 : Fr no w5 (w5.iter s 0) := (Fr.refl no w5).alloc _
  have hne : w.heap.size ≠ w5.heap.size := by
    have := (Array.getElem?_eq_some_iff.1 HOB5.out).1
    omega
  have HOB6 := Lib.hid (r6.heap HOB5.out (by simp))
  have R6 := Lib.hid (R5.out.trans r6)
  have hlt6 : w.heap.size ≤ w5.heap.size := R5.out.size
  have HNE := Lib.hid hne
  have HIT := Lib.hid hit
  generalize w5.iter s 0 = w6 at *
  generalize w5.heap.size = itb at *
  clear r6 hne hit
  have HLT6 := Lib.hid hlt6
  clear hlt6
  go_loopw [11] (fun _ wr => ∃ k : Nat, k ≤ s.size ∧ Hid (wr.heap[itb]? = some (.stringIter s k)) ∧ Hid (Fr (only [itb]) w6 wr) ∧ Hid ((s.data.toList.take k).any (fun c => !numOk c.toNat N area) = false)) (fun _ wr => itLeft wr itb)
  case atStart => exact ⟨0, by omega, HIT, Lib.hid (Fr.refl _ _), Lib.hid (by simp)⟩
  case round =>
    obtain ⟨k, hk, hiter, hfr, hno⟩ := hrel
    have hob := hfr.out.heap HOB6.out (by simp; exact HNE.out)
    have d4 : wr.cell? ⟨w.heap.size, 4, none⟩ = some (.int .i64 N) := cell_of_heap hob rfl
    by_cases hks : k < s.size
    · have hnext : ∀ ty, (Instr.next (.pointer (some ⟨itb, 0, none⟩)) true ty).run Tryz.prog wr = .ok (.tuple #[.bool true, .int .i64 k, .int .i32 (s[k]'hks).toNat]) (wr.iterAt itb s (k + 1)) := fun ty =>
        Lib.run_next_ascii_at wr itb s k ty hiter.out hks (HOK.out.ascii k hks)
      have r7 : Fr (only [itb]) wr (wr.iterAt itb s (k + 1)) := fr_iterAt (Fr.refl _ _) (by simp)
      have e4 := r7.cell d4 (by simp; exact HNE.out)
      have HI7 := Lib.hid (Lib.iterAt_heap _ _ _ _ (k + 1) hiter.out)
      have R7 := Lib.hid (hfr.out.trans r7)
      have hsn : (s.data.toList.take (k + 1)).any (fun c => !numOk c.toNat N area) = !numOk (s[k]'hks).toNat N area := by
        rw [btake_succ s k hks, List.any_append, hno.out]; simp
      have HSN := Lib.hid hsn
      have hmem : numOk (s[k]'hks).toNat N area = false → res = 5 := fun h => by
        rw [HCO3.out, if_pos]
        rw [List.any_eq_true]
        refine ⟨s[k]'hks, ?_, by rw [h]; rfl⟩
        have : s.data.toList[k]'(by rw [blen]; exact hks) = s[k]'hks := rfl
        rw [← this]; exact List.getElem_mem _
      have HMEM := Lib.hid hmem
      have MK := Lib.hid hiter.out
      clear hob d4 hsn hmem r7
      generalize wr.iterAt itb s (k + 1) = w7 at *
      generalize hc : ((s[k]'hks).toNat : Int) = c at *
      have BD := Lib.hid (fun w => bounds_ok w c area)
      have HC := Lib.hid hc
      clear hc
      by_cases h122 : c = 122
      · subst h122
        rw [show boundsOf 122 area = (1, 8, true) from rfl] at BD
        dsimp only at BD
        by_cases q1 : N < 1
        · have HQ : Hid (numOk 122 N area = false) := Lib.hid (by simp [numOk]; omega)
          go_wp2_with fail
          refine (BD.out _).mono ?_
          rintro e w' ⟨rfl, rfl⟩
          go_wp2_with fail
          go_ret
          exact ⟨by rw [HMEM.out (HC.out ▸ HQ.out)]; rfl, (R6.out.trans' R7.out (fun k hk _ => by simp at hk; rw [hk]; exact HLT6.out))⟩
        by_cases q2 : 8 < N
        · have HQ : Hid (numOk 122 N area = false) := Lib.hid (by simp [numOk]; omega)
          go_wp2_with fail
          refine (BD.out _).mono ?_
          rintro e w' ⟨rfl, rfl⟩
          go_wp2_with fail
          go_ret
          exact ⟨by rw [HMEM.out (HC.out ▸ HQ.out)]; rfl, (R6.out.trans' R7.out (fun k hk _ => by simp at hk; rw [hk]; exact HLT6.out))⟩
        obtain rfl | rfl | rfl | rfl | rfl | rfl | rfl | rfl : N = 1 ∨ N = 2 ∨ N = 3 ∨ N = 4 ∨ N = 5 ∨ N = 6 ∨ N = 7 ∨ N = 8 := by omega
        · have HQ : Hid (numOk 122 1 area = true) := Lib.hid rfl
          go_wp2_with fail
          refine (BD.out _).mono ?_
          rintro e w' ⟨rfl, rfl⟩
          go_wp2_with fail
          go_roundw
          case rel => exact ⟨k + 1, by omega, HI7, R7, Lib.hid (by rw [HSN.out, HQ.out]; rfl)⟩
          case measure => rw [itLeft_at HI7.out, itLeft_at MK.out]; omega
        · have HQ : Hid (numOk 122 2 area = true) := Lib.hid rfl
          go_wp2_with fail
          refine (BD.out _).mono ?_
          rintro e w' ⟨rfl, rfl⟩
          go_wp2_with fail
          go_roundw
          case rel => exact ⟨k + 1, by omega, HI7, R7, Lib.hid (by rw [HSN.out, HQ.out]; rfl)⟩
          case measure => rw [itLeft_at HI7.out, itLeft_at MK.out]; omega
        · have HQ : Hid (numOk 122 3 area = false) := Lib.hid rfl
          go_wp2_with fail
          refine (BD.out _).mono ?_
          rintro e w' ⟨rfl, rfl⟩
          go_wp2_with fail
          go_ret
          exact ⟨by rw [HMEM.out (HC.out ▸ HQ.out)]; rfl, (R6.out.trans' R7.out (fun k hk _ => by simp at hk; rw [hk]; exact HLT6.out))⟩
        · have HQ : Hid (numOk 122 4 area = true) := Lib.hid rfl
          go_wp2_with fail
          refine (BD.out _).mono ?_
          rintro e w' ⟨rfl, rfl⟩
          go_wp2_with fail
          go_roundw
          case rel => exact ⟨k + 1, by omega, HI7, R7, Lib.hid (by rw [HSN.out, HQ.out]; rfl)⟩
          case measure => rw [itLeft_at HI7.out, itLeft_at MK.out]; omega
        · have HQ : Hid (numOk 122 5 area = false) := Lib.hid rfl
          go_wp2_with fail
          refine (BD.out _).mono ?_
          rintro e w' ⟨rfl, rfl⟩
          go_wp2_with fail
          go_ret
          exact ⟨by rw [HMEM.out (HC.out ▸ HQ.out)]; rfl, (R6.out.trans' R7.out (fun k hk _ => by simp at hk; rw [hk]; exact HLT6.out))⟩
        · have HQ : Hid (numOk 122 6 area = false) := Lib.hid rfl
          go_wp2_with fail
          refine (BD.out _).mono ?_
          rintro e w' ⟨rfl, rfl⟩
          go_wp2_with fail
          go_ret
          exact ⟨by rw [HMEM.out (HC.out ▸ HQ.out)]; rfl, (R6.out.trans' R7.out (fun k hk _ => by simp at hk; rw [hk]; exact HLT6.out))⟩
        · have HQ : Hid (numOk 122 7 area = false) := Lib.hid rfl
          go_wp2_with fail
          refine (BD.out _).mono ?_
          rintro e w' ⟨rfl, rfl⟩
          go_wp2_with fail
          go_ret
          exact ⟨by rw [HMEM.out (HC.out ▸ HQ.out)]; rfl, (R6.out.trans' R7.out (fun k hk _ => by simp at hk; rw [hk]; exact HLT6.out))⟩
        · have HQ : Hid (numOk 122 8 area = true) := Lib.hid rfl
          go_wp2_with fail
          refine (BD.out _).mono ?_
          rintro e w' ⟨rfl, rfl⟩
          go_wp2_with fail
          go_roundw
          case rel => exact ⟨k + 1, by omega, HI7, R7, Lib.hid (by rw [HSN.out, HQ.out]; rfl)⟩
          case measure => rw [itLeft_at HI7.out, itLeft_at MK.out]; omega
      · have hnb := numOk_b c N area h122
        have h122' : (c == 122) = false := by rw [beq_eq_false_iff_ne]; exact h122
        generalize boundsOf c area = bd at *
        obtain ⟨lo, hi, has⟩ := bd
        dsimp only at hnb
        have HNB := Lib.hid hnb
        clear hnb
        cases has with
        | false =>
          have HQ : Hid (numOk c N area = true) := Lib.hid (by rw [HNB.out]; rfl)
          go_wp2_with fail
          refine (BD.out _).mono ?_
          rintro e w' ⟨rfl, rfl⟩
          go_wp2_with fail
          go_roundw
          case rel => exact ⟨k + 1, by omega, HI7, R7, Lib.hid (by rw [HSN.out, HQ.out]; rfl)⟩
          case measure => rw [itLeft_at HI7.out, itLeft_at MK.out]; omega
        | true =>
          by_cases q1 : N < lo
          · have HQ : Hid (numOk c N area = false) := Lib.hid (by rw [HNB.out]; simp; omega)
            go_wp2_with fail
            refine (BD.out _).mono ?_
            rintro e w' ⟨rfl, rfl⟩
            go_wp2_with fail
            go_ret
            exact ⟨by rw [HMEM.out (HC.out ▸ HQ.out)]; rfl, (R6.out.trans' R7.out (fun k hk _ => by simp at hk; rw [hk]; exact HLT6.out))⟩
          by_cases q2 : hi < N
          · have HQ : Hid (numOk c N area = false) := Lib.hid (by rw [HNB.out]; simp; omega)
            go_wp2_with fail
            refine (BD.out _).mono ?_
            rintro e w' ⟨rfl, rfl⟩
            go_wp2_with fail
            go_ret
            exact ⟨by rw [HMEM.out (HC.out ▸ HQ.out)]; rfl, (R6.out.trans' R7.out (fun k hk _ => by simp at hk; rw [hk]; exact HLT6.out))⟩
          · have HQ : Hid (numOk c N area = true) := Lib.hid (by rw [HNB.out]; simp; omega)
            go_wp2_with fail
            refine (BD.out _).mono ?_
            rintro e w' ⟨rfl, rfl⟩
            go_wp2_with fail
            go_roundw
            case rel => exact ⟨k + 1, by omega, HI7, R7, Lib.hid (by rw [HSN.out, HQ.out]; rfl)⟩
            case measure => rw [itLeft_at HI7.out, itLeft_at MK.out]; omega
    · obtain rfl : k = s.size := by omega
      have hnext : ∀ ty, (Instr.next (.pointer (some ⟨itb, 0, none⟩)) true ty).run Tryz.prog wr = .ok (.tuple #[.bool false]) wr := fun ty =>
        Lib.run_next_end_at wr itb s s.size ty hiter.out (by omega)
      have HZ : Hid (res = 0) := Lib.hid (by
        have h1 := hno.out
        rw [← blen, List.take_length] at h1
        rw [HCO3.out, if_neg (by rw [h1]; simp)])
      clear hob d4
      go_wp2_with fail
      go_ret
      exact ⟨by rw [HZ.out]; rfl, (R6.out.trans' hfr.out (fun k hk _ => by simp at hk; rw [hk]; exact HLT6.out))⟩

end Go.Proofs.YtihnkijeefkefaaGreat

namespace Go.Proofs.YtihnkijeefkefaaGreat
open Go.RowKit

attribute [local go_sem] Program.isFuncB Program.isSliceB

variable {w w' w'' w0 : World}

set_option maxHeartbeats 1000000 in
theorem pick_any (w : World) (t : Int) (n : Nat) (_ht : (Lit.int .i64 t).wf = true) (hn : 1 ≤ n) (hx : n ≤ 1000000) :
    Calls Tryz.prog 11 #[.int .i64 t, .int .i64 n] w fun e w' => (∃ k : Nat, k < n ∧ e = .returned (.int .i64 k)) ∧ w = w' := by
  have h1 : ¬ ((n : Int) < 1) := by omega
  have h2 : (n : Int) ≠ 0 := by omega
  have b1 := Int.tmod_lt_of_pos t (b := (n : Int)) (by omega)
  have b2 : -(n : Int) < t.tmod n := by
    have := Int.lt_tmod_of_pos t (b := (n : Int)) (by omega)
    omega
  have b3 : 0 ≤ (t.tmod n + n).tmod n := Int.tmod_nonneg _ (by omega)
  have b4 : (t.tmod n + n).tmod n < n := Int.tmod_lt_of_pos _ (by omega)
  go_enter Tryz.func11, Tryz.ntmps11
  go_wp2_with fail
  go_ret
  have g1 := Int.emod_nonneg (t.tmod n) h2
  have g2 := Int.emod_lt_of_pos (t.tmod n) (b := (n : Int)) (by omega)
  refine ⟨⟨(t.tmod n % n).toNat, by omega, ?_⟩, rfl⟩
  rw [Int.toNat_of_nonneg g1]; rfl

theorem reads_int {w : World} {sa : Option Addr} {n c k : Nat} {l : List Int} (h : Reads w (.slice sa n c) 1 n (ints l)) (hk : k < l.length) :
    ∃ b o, sa = some ⟨b, o, none⟩ ∧ w.cell? ⟨b, o + k, none⟩ = some (.int .i64 l[k]) :=
  h.at1 (by simp [ints, hk])

set_option maxHeartbeats 1000000 in
theorem same_ints (w : World) (va vb : Value) (l m : List Int) (ha : Reads w va 1 l.length (ints l)) (hb : Reads w vb 1 m.length (ints m)) (h1 : l.length ≤ 1000000) :
    Calls Tryz.prog 86 #[va, vb] w fun e w' => e = .returned (.bool (decide (l = m))) ∧ ∃ q, w' = w.drewN q := by
  obtain ⟨xa, xc, rfl⟩ := ha.shape
  obtain ⟨ya, yc, rfl⟩ := hb.shape
  by_cases hlen : l.length = m.length
  · have HA := Lib.hid ha
    have HB := Lib.hid hb
    have HL := Lib.hid hlen
    clear ha hb
    have hlen' : (m.length : Int) = l.length := by omega
    clear hlen
    generalize hmm : m.length = mm at *
    obtain rfl : mm = l.length := by omega
    have HL2 := Lib.hid hmm
    clear hmm hlen'
    go_enter Tryz.func86, Tryz.ntmps86
    go_wp2_with fail
    go_loopw [5] (fun x wr => ∃ i q : Nat, x = .int .i64 i ∧ i ≤ l.length ∧ Hid (l.take i = m.take i) ∧ wr = w.drewN q) (fun x _ => (l.length - intOf x).toNat)
    case atStart => exact ⟨0, 0, rfl, by omega, Lib.hid (by simp), rfl⟩
    case round =>
      obtain ⟨i, q, rfl, hi, hpre, hwr⟩ := hrel
      have HWR := Lib.hid hwr
      by_cases hlt : i < l.length
      · have hlt2 : i < m.length := by rw [HL2.out]; exact hlt
        obtain ⟨b, o, rfl, c1⟩ := reads_int HA.out hlt
        obtain ⟨b', o', rfl, c2⟩ := reads_int HB.out hlt2
        have r : Fr no w wr := by rw [hwr]; exact (Fr.refl no w).drewN q
        have c1' := r.cell c1 (by simp)
        have c2' := r.cell c2 (by simp)
        clear hwr
        have hlt' : (i : Int) < l.length := by omega
        by_cases hne : l[i] = m[i]
        · have hpre2 : Hid (l.take (i + 1) = m.take (i + 1)) := by
            refine Lib.hid ?_
            rw [List.take_succ_eq_append_getElem hlt, List.take_succ_eq_append_getElem hlt2, hpre.out, hne]
          have hc : (l[i] == m[i]) = true := by simp [hne]
          clear hne hpre c1 c2 r
          generalize l[i] = p at c1' hc
          generalize m[i] = p2 at c2' hc
          obtain rfl : p = p2 := by simpa using hc
          clear hc
          go_wp2_with fail
          go_quiet (fail)
          go_wp2_with fail
          go_roundw
          case rel => exact ⟨i + 1, q + nq, by go_num, by omega, hpre2, by rw [HWR.out]; simp [World.drewN, Nat.add_assoc]⟩
          case measure => first | (simp [intOf]; done) | (simp [intOf]; omega)
        · have hno : Hid (l ≠ m) := Lib.hid (by rintro rfl; exact hne rfl)
          have hc : (l[i] == m[i]) = false := by simpa using hne
          clear hne hpre c1 c2 r
          generalize l[i] = p at c1' hc
          generalize m[i] = p2 at c2' hc
          go_wp2_with fail
          go_quiet (fail)
          go_wp2_with fail
          go_ret
          refine ⟨?_, q + nq, by rw [HWR.out]; simp [World.drewN, Nat.add_assoc]⟩
          rw [decide_eq_false hno.out]; rfl
      · obtain rfl : i = l.length := by omega
        have heq : Hid (l = m) := Lib.hid (by have := hpre.out; rwa [List.take_length, ← HL2.out, List.take_length] at this)
        clear hpre hwr
        go_wp2_with fail
        go_ret
        refine ⟨?_, q, HWR.out⟩
        rw [decide_eq_true heq.out]; rfl
  · have hno : Hid (l ≠ m) := Lib.hid (fun e => hlen (by rw [e]))
    have hc : ((l.length : Int) == (m.length : Int)) = false := by rw [beq_eq_false_iff_ne]; omega
    clear ha hb hlen
    go_enter Tryz.func86, Tryz.ntmps86
    go_wp2_with fail
    go_ret
    refine ⟨?_, 0, rfl⟩
    rw [decide_eq_false hno.out]; rfl

end Go.Proofs.YtihnkijeefkefaaGreat

namespace Go.Proofs.YtihnkijeefkefaaGreat
open Go.RowKit

attribute [local go_sem] Program.isFuncB Program.isSliceB

variable {w w' w'' w0 : World}

/-- how often a text has one of some letters -/
def hasN (s t : List UInt8) : Nat := s.foldl (fun n c => n + t.count c) 0
theorem hasN_snoc (s t : List UInt8) (c : UInt8) : hasN (s ++ [c]) t = hasN s t + t.count c := by simp [hasN]
theorem count_snoc (t : List UInt8) (c d : UInt8) : (t ++ [d]).count c = t.count c + (if c = d then 1 else 0) := by
  rw [List.count_append]
  by_cases h : c = d
  · subst h; simp
  · simp [h, Ne.symm h]
theorem hasN_le (s t : List UInt8) : hasN s t ≤ s.length * t.length := by
  have key : ∀ (s : List UInt8) (n : Nat), s.foldl (fun n c => n + t.count c) n ≤ n + s.length * t.length := by
    intro s
    induction s with
    | nil => intro n; simp
    | cons c s ih =>
      intro n
      simp only [List.foldl_cons, List.length_cons]
      have h1 := ih (n + t.count c)
      have h2 := List.count_le_length (a := c) (l := t)
      have h3 : (s.length + 1) * t.length = s.length * t.length + t.length := by rw [Nat.add_mul, Nat.one_mul]
      omega
  simpa [hasN] using key s 0

set_option maxHeartbeats 2000000 in
theorem has_ok (w : World) (s t : ByteArray) (hs : s.size ≤ 1000) (ht : t.size ≤ 1000) :
    Calls Tryz.prog 217 #[.string s, .string t] w fun e w' => e = .returned (.int .i64 (hasN s.data.toList t.data.toList)) ∧ ∃ q, w' = w.drewN q := by
  go_enter Tryz.func217, Tryz.ntmps217
  go_wp2_with fail
  go_loopw [5, 6] (fun x y wr => ∃ i q : Nat, x = .int .i64 (hasN (s.data.toList.take i) t.data.toList : Nat) ∧ y = .int .i64 i ∧ i ≤ s.size ∧ Hid (wr = w.drewN q)) (fun _ y _ => (s.size - intOf y).toNat)
  case atStart => exact ⟨0, 0, rfl, rfl, by omega, Lib.hid rfl⟩
  case round =>
    obtain ⟨i, q, rfl, rfl, hi, hw⟩ := hrel
    by_cases hlt : i < s.size
    · have hlt' : (i : Int) < s.size := by omega
      obtain ⟨wz, hwz⟩ : ∃ x, x = wr := ⟨_, rfl⟩
      subst hwz
      go_wp2_with fail
      have hb1 : hasN (s.data.toList.take i) t.data.toList ≤ 1000000 := by
        have := hasN_le (s.data.toList.take i) t.data.toList
        rw [blen_take s i hi, blen] at this
        have h2 : i * t.size ≤ 1000 * 1000 := Nat.mul_le_mul (by omega) ht
        omega
      have hsn : hasN (s.data.toList.take (i + 1)) t.data.toList = hasN (s.data.toList.take i) t.data.toList + t.data.toList.count (s[i]'hlt) := by rw [btake_succ s i hlt, hasN_snoc]
      have HSN := Lib.hid hsn
      clear hsn
      generalize hasN (s.data.toList.take i) t.data.toList = n at *
      go_loopw [5, 7] (fun x y wr => ∃ k q : Nat, x = .int .i64 (n + (t.data.toList.take k).count (s[i]'hlt) : Nat) ∧ y = .int .i64 k ∧ k ≤ t.size ∧ Hid (wr = w.drewN q)) (fun _ y _ => (t.size - intOf y).toNat)
      case atStart => exact ⟨0, q, by simp, rfl, by omega, hw⟩
      case round =>
        obtain ⟨k, q2, rfl, rfl, hk, hw2⟩ := hrel
        by_cases hkt : k < t.size
        · have hkt' : (k : Int) < t.size := by omega
          have hcn := count_snoc (t.data.toList.take k) (s[i]'hlt) (t[k]'hkt)
          rw [← btake_succ t k hkt] at hcn
          have HCN := Lib.hid hcn
          have hcl : (t.data.toList.take k).count (s[i]'hlt) ≤ 1000 := by
            have := List.count_le_length (a := s[i]'hlt) (l := t.data.toList.take k)
            rw [blen_take t k hk] at this
            omega
          clear hcn
          generalize (t.data.toList.take k).count (s[i]'hlt) = m at *
          have HW2 := hw2
          by_cases heq : s[i]'hlt = t[k]'hkt
          · have hb : (((s[i]'hlt).toNat : Int) == ((t[k]'hkt).toNat : Int)) = true := by rw [heq]; simp
            have HCN2 : Hid ((t.data.toList.take (k + 1)).count (s[i]'hlt) = m + 1) := Lib.hid (by rw [HCN.out, if_pos heq])
            clear heq
            go_wp2_with fail
            go_quiet (fail)
            go_wp2_with fail
            go_roundw
            case rel => exact ⟨k + 1, q2 + nq, by first | (rw [HCN2.out]; done) | (rw [HCN2.out]; go_num), by go_num, by omega, Lib.hid (by rw [HW2.out]; simp [World.drewN, Nat.add_assoc])⟩
            case measure => first | (simp [intOf]; done) | (simp [intOf]; omega)
          · have hb : (((s[i]'hlt).toNat : Int) == ((t[k]'hkt).toNat : Int)) = false := by
              rw [beq_eq_false_iff_ne]
              intro h
              exact heq (UInt8.toNat_inj.1 (by omega))
            have HCN2 : Hid ((t.data.toList.take (k + 1)).count (s[i]'hlt) = m) := Lib.hid (by rw [HCN.out, if_neg heq]; rfl)
            clear heq
            go_wp2_with fail
            go_quiet (fail)
            go_wp2_with fail
            go_roundw
            case rel => exact ⟨k + 1, q2 + nq, by first | (rw [HCN2.out]; done) | (rw [HCN2.out]; go_num), by go_num, by omega, Lib.hid (by rw [HW2.out]; simp [World.drewN, Nat.add_assoc])⟩
            case measure => first | (simp [intOf]; done) | (simp [intOf]; omega)
        · obtain rfl : k = t.size := by omega
          have HR : Hid (t.data.toList.take t.size = t.data.toList) := Lib.hid (by rw [← blen, List.take_length])
          go_wp2_with fail
          go_roundw
          case rel => exact ⟨i + 1, q2, by rw [HSN.out, HR.out], by go_num, by omega, hw2⟩
          case measure => first | (simp [intOf]; done) | (simp [intOf]; omega)
    · obtain rfl : i = s.size := by omega
      have HR : Hid (s.data.toList.take s.size = s.data.toList) := Lib.hid (by rw [← blen, List.take_length])
      go_wp2_with fail
      go_ret
      exact ⟨congrArg (fun l => Ending.returned (Value.int .i64 ((hasN l t.data.toList : Nat) : Int))) HR.out, q, hw.out⟩

end Go.Proofs.YtihnkijeefkefaaGreat

import Derived.Test.YtkgcfllbkjlfcaaO11
namespace Go.Proofs.Ytkgcfllbkjlfcaa
open Go.RowKit

attribute [local go_sem] Program.isFuncB Program.isSliceB

variable {w w' w'' w0 : World}

def numLetters : List UInt8 := [105, 107, 109, 122, 102, 100, 116, 99]
def manyOf (o : Int) : Nat := Lib.countByte (sh o) 119 + Lib.countByte (sh o) 114
def bareB (o A B C N : Int) (k : Nat) : Bool := ([A, B, C].drop (manyOf o)).all (· == 0) && (Lib.containsAny (sh o) numLetters || N == 0) && (hasB (sh o) 108 || k == 0)

theorem many_le (o : Int) : manyOf o ≤ 3 := by
  have hB : ((List.range 33).all fun n => decide (Lib.countByte (shapeOf n).data.toList 119 + Lib.countByte (shapeOf n).data.toList 114 ≤ 3)) = true := by decide
  unfold manyOf sh shapeI
  split
  · rename_i h
    have h1 := List.all_eq_true.1 hB o.toNat (by simp; omega)
    simpa using h1
  · decide

set_option maxHeartbeats 4000000 in
theorem bare_ok (w : World) (o A B C N : Int) (ua : Option Addr) (uc k : Nat) :
    Calls Try.prog 35 #[insV o A B C N (.slice ua k uc)] w fun e w' => e = .returned (.bool (bareB o A B C N k)) ∧ Fr no w w' := by
  have HSH := Lib.hid (fun w => shape_all w o)
  have HC := Lib.hid (fun w => Try.strings_Contains_one (shapeI o) 108 w)
  have HW := Lib.hid (fun w => Try.strings_Count_one (shapeI o) 119 w)
  have HR := Lib.hid (fun w => Try.strings_Count_one (shapeI o) 114 w)
  have hok := shape_ok o
  have HA := Lib.hid (fun w => Try.strings_ContainsAny_laid (shapeI o) ⟨#[105, 107, 109, 122, 102, 100, 116, 99]⟩ w (by have := hok.size; omega) (by decide) (fun j b hj => by
    obtain ⟨hj1, hj2⟩ := List.getElem?_eq_some_iff.1 hj
    rw [blen] at hj1
    have := hok.ascii j hj1
    rw [← hj2]; exact this) (fun j b hj => (show ∀ b ∈ numLetters, b.toNat < 128 from by decide) b (List.mem_of_getElem? hj)))
  have hm := many_le o
  have HM := Lib.hid (show bareB o A B C N k = (([A, B, C].drop (Lib.countByte (shapeI o).data.toList 119 + Lib.countByte (shapeI o).data.toList 114)).all (· == 0) && (Lib.containsAny (shapeI o).data.toList [105, 107, 109, 122, 102, 100, 116, 99] || N == 0) && (decide (0 ≤ Lib.indexByte (shapeI o).data.toList 108) || k == 0)) from rfl)
  unfold manyOf sh at hm
  clear hok
  rw [show (⟨#[105, 107, 109, 122, 102, 100, 116, 99]⟩ : ByteArray).data.toList = [105, 107, 109, 122, 102, 100, 116, 99] from rfl] at HA
  rw [HM.out]
  clear HM
  generalize shapeI o = s at *
  generalize Lib.countByte s.data.toList 119 = cw at *
  generalize Lib.countByte s.data.toList 114 = cr at *
  generalize Lib.containsAny s.data.toList [105, 107, 109, 122, 102, 100, 116, 99] = b1 at *
  generalize decide (0 ≤ Lib.indexByte s.data.toList 108) = b2 at *
  unfold insV
  have HOB := Lib.hid (insObj w o A B C N (.slice ua k uc))
  have R0 : Hid (Fr no w (w.alloc (.cells #[.int .i64 o, .int .i64 A, .int .i64 B, .int .i64 C, .int .i64 N, .slice ua k uc] 30))) := Lib.hid ((Fr.refl no w).alloc _)
  obtain ⟨mm, hmm⟩ : ∃ mm, cw + cr = mm := ⟨_, rfl⟩
  have hmi : (cw : Int) + cr = mm := by omega
  rw [hmm]
  have hm3 : mm ≤ 3 := by omega
  obtain ⟨d, hd⟩ : ∃ d, ([A, B, C].drop mm).all (· == 0) = d := ⟨_, rfl⟩
  have HDD := Lib.hid hd
  rw [hd]
  clear hm hmm hd
  go_enter Try.func35, Try.ntmps35
  go_wp2_with fail
  refine (HSH.out _).mono ?_
  rintro e w1 ⟨rfl, r1⟩
  have hob1 := r1.heap HOB.out (by simp)
  have R1 := Lib.hid (R0.out.trans r1)
  have HOB1 := Lib.hid hob1
  clear r1 hob1
  go_wp2_with fail
  refine (HW.out _).mono ?_
  rintro e w' ⟨rfl, rfl⟩
  go_wp2_with fail
  refine (HR.out _).mono ?_
  rintro e w' ⟨rfl, rfl⟩
  have c1 : w'.cell? ⟨w.heap.size, 1, none⟩ = some (.int .i64 A) := cell_of_heap HOB1.out rfl
  have c2 : w'.cell? ⟨w.heap.size, 2, none⟩ = some (.int .i64 B) := cell_of_heap HOB1.out rfl
  have c3 : w'.cell? ⟨w.heap.size, 3, none⟩ = some (.int .i64 C) := cell_of_heap HOB1.out rfl
  obtain ⟨w2, hw2⟩ : ∃ w2, w2 = w'.alloc (.cells #[.int .i64 A, .int .i64 B, .int .i64 C] 3) := ⟨_, rfl⟩
  have hl2 : w2.heap[w'.heap.size]? = some (.cells #[.int .i64 A, .int .i64 B, .int .i64 C] 3 (0, 0)) := by rw [hw2]; exact heap_new _ _
  have r2 : Fr no w' w2 := by rw [hw2]; exact (Fr.refl no w').alloc _
  have HL2 := Lib.hid hl2
  have HW2 := Lib.hid hw2
  have R2 := Lib.hid (R1.out.trans r2)
  have HOB2 := Lib.hid (r2.heap HOB1.out (by simp))
  clear hl2 hw2 r2
  obtain rfl | rfl | rfl | rfl : mm = 0 ∨ mm = 1 ∨ mm = 2 ∨ mm = 3 := by omega
  --CASES
  · go_wp2_with fail
    rw [← HW2.out]
    go_loopw [25] (fun x wr => ∃ i : Nat, x = .int .i64 i ∧ i ≤ 3 ∧ Hid (∀ j, j < i → ([A, B, C] : List Int).getD j 0 = 0) ∧ wr = w2) (fun x _ => (3 - intOf x).toNat)
    case atStart => exact ⟨0, rfl, by omega, Lib.hid (fun j hj => by omega), rfl⟩
    case round =>
      obtain ⟨i, rfl, hi, hz, rfl⟩ := hrel
      by_cases hlt : i < 3
      · have ck : wr.cell? ⟨w'.heap.size, i, none⟩ = some (.int .i64 (([A, B, C] : List Int).getD i 0)) := by
          refine cell_of_heap HL2.out ?_
          obtain rfl | rfl | rfl : i = 0 ∨ i = 1 ∨ i = 2 := by omega
          all_goals rfl
        have hlt' : (i : Int) < 3 := by omega
        by_cases hne : ([A, B, C] : List Int).getD i 0 = 0
        · have HZ : Hid (∀ j, j < i + 1 → ([A, B, C] : List Int).getD j 0 = 0) := Lib.hid (fun j hj => by
            rcases Nat.lt_or_ge j i with h | h
            · exact hz.out j h
            · obtain rfl : j = i := by omega
              exact hne)
          rw [hne] at ck
          clear hne
          go_wp2_with fail
          go_roundw
          case rel => exact ⟨i + 1, by go_num, by omega, HZ, by trivial⟩
          case measure => first | (simp [intOf]; done) | (simp [intOf]; omega)
        · have HD : Hid (d = false) := Lib.hid (by
            rw [← HDD.out]
            show ([A, B, C] : List Int).all (· == 0) = false
            rw [List.all_eq_false]
            refine ⟨([A, B, C] : List Int).getD i 0, ?_, by simpa using hne⟩
            rw [List.getD_eq_getElem?_getD, List.getElem?_eq_getElem (by simp; omega)]
            exact List.getElem_mem _)
          generalize ([A, B, C] : List Int).getD i 0 = z at *
          have hne2 : (z == 0) = false := by simpa using hne
          go_wp2_with fail
          go_ret
          exact ⟨by rw [HD.out]; rfl, R2.out⟩
      · obtain rfl : i = 3 := by omega
        have HD : Hid (d = true) := Lib.hid (by
          rw [← HDD.out]
          show ([A, B, C] : List Int).all (· == 0) = true
          rw [List.all_eq_true]
          intro x hx
          obtain ⟨j, hj, rfl⟩ := List.getElem_of_mem hx
          have := hz.out j (by simpa using hj)
          rw [List.getD_eq_getElem?_getD, List.getElem?_eq_getElem hj] at this
          simpa using this)
        go_wp2_with fail
        refine (HA.out _).mono ?_
        rintro e w3 ⟨rfl, hbl⟩
        have r3 : Fr no wr w3 := Fr.of_below hbl
        have hob3 := r3.heap HOB2.out (by simp)
        have c4 : w3.cell? ⟨w.heap.size, 4, none⟩ = some (.int .i64 N) := cell_of_heap hob3 rfl
        have c5 : w3.cell? ⟨w.heap.size, 5, none⟩ = some (.slice ua k uc) := cell_of_heap hob3 rfl
        have R3 := Lib.hid (R2.out.trans r3)
        clear hbl r3 hob3
        by_cases hN : b1 = true ∨ N = 0
        · have hb1 : b1 = false → N = 0 := fun h => by rcases hN with h2 | h2; rw [h] at h2; cases h2; exact h2
          cases b1 with
          | true =>
            clear hN hb1
            go_wp2_with fail
            refine (HC.out _).mono ?_
            rintro e w' ⟨rfl, rfl⟩
            cases b2 with
            | true =>
              go_wp2_with fail
              go_ret
              exact ⟨by rw [HD.out]; rfl, R3.out⟩
            | false =>
              have hk : ((k : Int) == 0) = (k == 0) := by rw [Bool.eq_iff_iff]; simp
              have HK := Lib.hid hk
              clear hk
              go_wp2_with fail
              go_ret
              exact ⟨by rw [HD.out, ← HK.out]; rfl, R3.out⟩
          | false =>
            obtain rfl := hb1 rfl
            clear hN hb1
            go_wp2_with fail
            refine (HC.out _).mono ?_
            rintro e w' ⟨rfl, rfl⟩
            cases b2 with
            | true =>
              go_wp2_with fail
              go_ret
              exact ⟨by rw [HD.out]; rfl, R3.out⟩
            | false =>
              have hk : ((k : Int) == 0) = (k == 0) := by rw [Bool.eq_iff_iff]; simp
              have HK := Lib.hid hk
              clear hk
              go_wp2_with fail
              go_ret
              exact ⟨by rw [HD.out, ← HK.out]; rfl, R3.out⟩
        · obtain rfl : b1 = false := by cases b1; rfl; exact (hN (.inl rfl)).elim
          have hN2 : ¬ N = 0 := fun h => hN (.inr h)
          have hN3 : (N == 0) = false := by simpa using hN2
          clear hN hN2
          go_wp2_with fail
          go_ret
          exact ⟨by rw [HD.out, hN3]; rfl, R3.out⟩
  · go_wp2_with fail
    rw [← HW2.out]
    go_loopw [25] (fun x wr => ∃ i : Nat, x = .int .i64 i ∧ i ≤ 2 ∧ Hid (∀ j, j < i → ([B, C] : List Int).getD j 0 = 0) ∧ wr = w2) (fun x _ => (2 - intOf x).toNat)
    case atStart => exact ⟨0, rfl, by omega, Lib.hid (fun j hj => by omega), rfl⟩
    case round =>
      obtain ⟨i, rfl, hi, hz, rfl⟩ := hrel
      by_cases hlt : i < 2
      · have ck : wr.cell? ⟨w'.heap.size, 1 + i, none⟩ = some (.int .i64 (([B, C] : List Int).getD i 0)) := by
          refine cell_of_heap HL2.out ?_
          obtain rfl | rfl : i = 0 ∨ i = 1 := by omega
          all_goals rfl
        have hlt' : (i : Int) < 2 := by omega
        by_cases hne : ([B, C] : List Int).getD i 0 = 0
        · have HZ : Hid (∀ j, j < i + 1 → ([B, C] : List Int).getD j 0 = 0) := Lib.hid (fun j hj => by
            rcases Nat.lt_or_ge j i with h | h
            · exact hz.out j h
            · obtain rfl : j = i := by omega
              exact hne)
          rw [hne] at ck
          clear hne
          go_wp2_with fail
          go_roundw
          case rel => exact ⟨i + 1, by go_num, by omega, HZ, by trivial⟩
          case measure => first | (simp [intOf]; done) | (simp [intOf]; omega)
        · have HD : Hid (d = false) := Lib.hid (by
            rw [← HDD.out]
            show ([B, C] : List Int).all (· == 0) = false
            rw [List.all_eq_false]
            refine ⟨([B, C] : List Int).getD i 0, ?_, by simpa using hne⟩
            rw [List.getD_eq_getElem?_getD, List.getElem?_eq_getElem (by simp; omega)]
            exact List.getElem_mem _)
          generalize ([B, C] : List Int).getD i 0 = z at *
          have hne2 : (z == 0) = false := by simpa using hne
          go_wp2_with fail
          go_ret
          exact ⟨by rw [HD.out]; rfl, R2.out⟩
      · obtain rfl : i = 2 := by omega
        have HD : Hid (d = true) := Lib.hid (by
          rw [← HDD.out]
          show ([B, C] : List Int).all (· == 0) = true
          rw [List.all_eq_true]
          intro x hx
          obtain ⟨j, hj, rfl⟩ := List.getElem_of_mem hx
          have := hz.out j (by simpa using hj)
          rw [List.getD_eq_getElem?_getD, List.getElem?_eq_getElem hj] at this
          simpa using this)
        go_wp2_with fail
        refine (HA.out _).mono ?_
        rintro e w3 ⟨rfl, hbl⟩
        have r3 : Fr no wr w3 := Fr.of_below hbl
        have hob3 := r3.heap HOB2.out (by simp)
        have c4 : w3.cell? ⟨w.heap.size, 4, none⟩ = some (.int .i64 N) := cell_of_heap hob3 rfl
        have c5 : w3.cell? ⟨w.heap.size, 5, none⟩ = some (.slice ua k uc) := cell_of_heap hob3 rfl
        have R3 := Lib.hid (R2.out.trans r3)
        clear hbl r3 hob3
        by_cases hN : b1 = true ∨ N = 0
        · have hb1 : b1 = false → N = 0 := fun h => by rcases hN with h2 | h2; rw [h] at h2; cases h2; exact h2
          cases b1 with
          | true =>
            clear hN hb1
            go_wp2_with fail
            refine (HC.out _).mono ?_
            rintro e w' ⟨rfl, rfl⟩
            cases b2 with
            | true =>
              go_wp2_with fail
              go_ret
              exact ⟨by rw [HD.out]; rfl, R3.out⟩
            | false =>
              have hk : ((k : Int) == 0) = (k == 0) := by rw [Bool.eq_iff_iff]; simp
              have HK := Lib.hid hk
              clear hk
              go_wp2_with fail
              go_ret
              exact ⟨by rw [HD.out, ← HK.out]; rfl, R3.out⟩
          | false =>
            obtain rfl := hb1 rfl
            clear hN hb1
            go_wp2_with fail
            refine (HC.out _).mono ?_
            rintro e w' ⟨rfl, rfl⟩
            cases b2 with
            | true =>
              go_wp2_with fail
              go_ret
              exact ⟨by rw [HD.out]; rfl, R3.out⟩
            | false =>
              have hk : ((k : Int) == 0) = (k == 0) := by rw [Bool.eq_iff_iff]; simp
              have HK := Lib.hid hk
              clear hk
              go_wp2_with fail
              go_ret
              exact ⟨by rw [HD.out, ← HK.out]; rfl, R3.out⟩
        · obtain rfl : b1 = false := by cases b1; rfl; exact (hN (.inl rfl)).elim
          have hN2 : ¬ N = 0 := fun h => hN (.inr h)
          have hN3 : (N == 0) = false := by simpa using hN2
          clear hN hN2
          go_wp2_with fail
          go_ret
          exact ⟨by rw [HD.out, hN3]; rfl, R3.out⟩
  · go_wp2_with fail
    rw [← HW2.out]
    go_loopw [25] (fun x wr => ∃ i : Nat, x = .int .i64 i ∧ i ≤ 1 ∧ Hid (∀ j, j < i → ([C] : List Int).getD j 0 = 0) ∧ wr = w2) (fun x _ => (1 - intOf x).toNat)
    case atStart => exact ⟨0, rfl, by omega, Lib.hid (fun j hj => by omega), rfl⟩
    case round =>
      obtain ⟨i, rfl, hi, hz, rfl⟩ := hrel
      by_cases hlt : i < 1
      · have ck : wr.cell? ⟨w'.heap.size, 2 + i, none⟩ = some (.int .i64 (([C] : List Int).getD i 0)) := by
          refine cell_of_heap HL2.out ?_
          obtain rfl : i = 0 := by omega
          all_goals rfl
        have hlt' : (i : Int) < 1 := by omega
        by_cases hne : ([C] : List Int).getD i 0 = 0
        · have HZ : Hid (∀ j, j < i + 1 → ([C] : List Int).getD j 0 = 0) := Lib.hid (fun j hj => by
            rcases Nat.lt_or_ge j i with h | h
            · exact hz.out j h
            · obtain rfl : j = i := by omega
              exact hne)
          rw [hne] at ck
          clear hne
          go_wp2_with fail
          go_roundw
          case rel => exact ⟨i + 1, by go_num, by omega, HZ, by trivial⟩
          case measure => first | (simp [intOf]; done) | (simp [intOf]; omega)
        · have HD : Hid (d = false) := Lib.hid (by
            rw [← HDD.out]
            show ([C] : List Int).all (· == 0) = false
            rw [List.all_eq_false]
            refine ⟨([C] : List Int).getD i 0, ?_, by simpa using hne⟩
            rw [List.getD_eq_getElem?_getD, List.getElem?_eq_getElem (by simp; omega)]
            exact List.getElem_mem _)
          generalize ([C] : List Int).getD i 0 = z at *
          have hne2 : (z == 0) = false := by simpa using hne
          go_wp2_with fail
          go_ret
          exact ⟨by rw [HD.out]; rfl, R2.out⟩
      · obtain rfl : i = 1 := by omega
        have HD : Hid (d = true) := Lib.hid (by
          rw [← HDD.out]
          show ([C] : List Int).all (· == 0) = true
          rw [List.all_eq_true]
          intro x hx
          obtain ⟨j, hj, rfl⟩ := List.getElem_of_mem hx
          have := hz.out j (by simpa using hj)
          rw [List.getD_eq_getElem?_getD, List.getElem?_eq_getElem hj] at this
          simpa using this)
        go_wp2_with fail
        refine (HA.out _).mono ?_
        rintro e w3 ⟨rfl, hbl⟩
        have r3 : Fr no wr w3 := Fr.of_below hbl
        have hob3 := r3.heap HOB2.out (by simp)
        have c4 : w3.cell? ⟨w.heap.size, 4, none⟩ = some (.int .i64 N) := cell_of_heap hob3 rfl
        have c5 : w3.cell? ⟨w.heap.size, 5, none⟩ = some (.slice ua k uc) := cell_of_heap hob3 rfl
        have R3 := Lib.hid (R2.out.trans r3)
        clear hbl r3 hob3
        by_cases hN : b1 = true ∨ N = 0
        · have hb1 : b1 = false → N = 0 := fun h => by rcases hN with h2 | h2; rw [h] at h2; cases h2; exact h2
          cases b1 with
          | true =>
            clear hN hb1
            go_wp2_with fail
            refine (HC.out _).mono ?_
            rintro e w' ⟨rfl, rfl⟩
            cases b2 with
            | true =>
              go_wp2_with fail
              go_ret
              exact ⟨by rw [HD.out]; rfl, R3.out⟩
            | false =>
              have hk : ((k : Int) == 0) = (k == 0) := by rw [Bool.eq_iff_iff]; simp
              have HK := Lib.hid hk
              clear hk
              go_wp2_with fail
              go_ret
              exact ⟨by rw [HD.out, ← HK.out]; rfl, R3.out⟩
          | false =>
            obtain rfl := hb1 rfl
            clear hN hb1
            go_wp2_with fail
            refine (HC.out _).mono ?_
            rintro e w' ⟨rfl, rfl⟩
            cases b2 with
            | true =>
              go_wp2_with fail
              go_ret
              exact ⟨by rw [HD.out]; rfl, R3.out⟩
            | false =>
              have hk : ((k : Int) == 0) = (k == 0) := by rw [Bool.eq_iff_iff]; simp
              have HK := Lib.hid hk
              clear hk
              go_wp2_with fail
              go_ret
              exact ⟨by rw [HD.out, ← HK.out]; rfl, R3.out⟩
        · obtain rfl : b1 = false := by cases b1; rfl; exact (hN (.inl rfl)).elim
          have hN2 : ¬ N = 0 := fun h => hN (.inr h)
          have hN3 : (N == 0) = false := by simpa using hN2
          clear hN hN2
          go_wp2_with fail
          go_ret
          exact ⟨by rw [HD.out, hN3]; rfl, R3.out⟩
  · go_wp2_with fail
    rw [← HW2.out]
    go_loopw [25] (fun x wr => ∃ i : Nat, x = .int .i64 i ∧ i ≤ 0 ∧ Hid (∀ j, j < i → ([] : List Int).getD j 0 = 0) ∧ wr = w2) (fun x _ => (0 - intOf x).toNat)
    case atStart => exact ⟨0, rfl, by omega, Lib.hid (fun j hj => by omega), rfl⟩
    case round =>
      obtain ⟨i, rfl, hi, hz, rfl⟩ := hrel
      obtain rfl : i = 0 := by omega
      have HD : Hid (d = true) := Lib.hid (by rw [← HDD.out]; rfl)
      go_wp2_with fail
      refine (HA.out _).mono ?_
      rintro e w3 ⟨rfl, hbl⟩
      have r3 : Fr no wr w3 := Fr.of_below hbl
      have hob3 := r3.heap HOB2.out (by simp)
      have c4 : w3.cell? ⟨w.heap.size, 4, none⟩ = some (.int .i64 N) := cell_of_heap hob3 rfl
      have c5 : w3.cell? ⟨w.heap.size, 5, none⟩ = some (.slice ua k uc) := cell_of_heap hob3 rfl
      have R3 := Lib.hid (R2.out.trans r3)
      clear hbl r3 hob3
      by_cases hN : b1 = true ∨ N = 0
      · have hb1 : b1 = false → N = 0 := fun h => by rcases hN with h2 | h2; rw [h] at h2; cases h2; exact h2
        cases b1 with
        | true =>
          clear hN hb1
          go_wp2_with fail
          refine (HC.out _).mono ?_
          rintro e w' ⟨rfl, rfl⟩
          cases b2 with
          | true =>
            go_wp2_with fail
            go_ret
            exact ⟨by rw [HD.out]; rfl, R3.out⟩
          | false =>
            have hk : ((k : Int) == 0) = (k == 0) := by rw [Bool.eq_iff_iff]; simp
            have HK := Lib.hid hk
            clear hk
            go_wp2_with fail
            go_ret
            exact ⟨by rw [HD.out, ← HK.out]; rfl, R3.out⟩
        | false =>
          obtain rfl := hb1 rfl
          clear hN hb1
          go_wp2_with fail
          refine (HC.out _).mono ?_
          rintro e w' ⟨rfl, rfl⟩
          cases b2 with
          | true =>
            go_wp2_with fail
            go_ret
            exact ⟨by rw [HD.out]; rfl, R3.out⟩
          | false =>
            have hk : ((k : Int) == 0) = (k == 0) := by rw [Bool.eq_iff_iff]; simp
            have HK := Lib.hid hk
            clear hk
            go_wp2_with fail
            go_ret
            exact ⟨by rw [HD.out, ← HK.out]; rfl, R3.out⟩
      · obtain rfl : b1 = false := by cases b1; rfl; exact (hN (.inl rfl)).elim
        have hN2 : ¬ N = 0 := fun h => hN (.inr h)
        have hN3 : (N == 0) = false := by simpa using hN2
        clear hN hN2
        go_wp2_with fail
        go_ret
        exact ⟨by rw [HD.out, hN3]; rfl, R3.out⟩

end Go.Proofs.Ytkgcfllbkjlfcaa

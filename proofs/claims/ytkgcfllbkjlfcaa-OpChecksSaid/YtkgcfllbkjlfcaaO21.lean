import Derived.Test.YtkgcfllbkjlfcaaO20
namespace Go.Proofs.Ytkgcfllbkjlfcaa
open Go.RowKit

attribute [local go_sem] Program.isFuncB Program.isSliceB

variable {w w' w'' w0 : World}

theorem shape_facts : ∀ n, n < 33 → (let s := (shapeOf n).data.toList
    hasN s [119, 114] = Lib.countByte s 119 + Lib.countByte s 114 ∧ decide (0 < hasN s numLetters) = Lib.containsAny s numLetters ∧ decide (0 < hasN s [108]) = hasB s 108 ∧ decide (0 < hasN s [116]) = hasB s 116) := by decide
theorem sh_facts (o : Int) : hasN (sh o) [119, 114] = manyOf o ∧ decide (0 < hasN (sh o) numLetters) = Lib.containsAny (sh o) numLetters ∧ decide (0 < hasN (sh o) [108]) = hasB (sh o) 108 ∧ decide (0 < hasN (sh o) [116]) = hasB (sh o) 116 := by
  unfold manyOf sh shapeI
  split
  · rename_i h
    exact shape_facts o.toNat (by omega)
  · decide

theorem bare_has (o A B C N : Int) (k : Nat) : bareB o A B C N k = (([A, B, C].drop (hasN (sh o) [119, 114])).all (· == 0) && (decide (0 < hasN (sh o) numLetters) || N == 0) && (decide (0 < hasN (sh o) [108]) || k == 0)) := by
  obtain ⟨h1, h2, h3, _⟩ := sh_facts o
  rw [h1, h2, h3]; rfl

set_option maxHeartbeats 4000000 in
theorem refbare_ok (w : World) (o A B C N : Int) (ua : Option Addr) (uc k : Nat) :
    Calls Try.prog 42 #[insV o A B C N (.slice ua k uc)] w fun e w' => e = .returned (.bool (bareB o A B C N k)) ∧ Fr no w w' := by
  have HSH := Lib.hid (fun w => refshape_all w o)
  have hok := shape_ok o
  have HC := Lib.hid (fun w => has_ok w (shapeI o) ⟨#[119, 114]⟩ (by have := hok.size; omega) (by decide))
  have HA := Lib.hid (fun w => has_ok w (shapeI o) ⟨#[105, 107, 109, 122, 102, 100, 116, 99]⟩ (by have := hok.size; omega) (by decide))
  have HL := Lib.hid (fun w => has_ok w (shapeI o) ⟨#[108]⟩ (by have := hok.size; omega) (by decide))
  have hm := many_le o
  rw [← (sh_facts o).1] at hm
  rw [bare_has]
  unfold sh at *
  clear hok
  rw [show (⟨#[119, 114]⟩ : ByteArray).data.toList = [119, 114] from rfl] at HC
  rw [show (⟨#[105, 107, 109, 122, 102, 100, 116, 99]⟩ : ByteArray).data.toList = numLetters from rfl] at HA
  rw [show (⟨#[108]⟩ : ByteArray).data.toList = [108] from rfl] at HL
  generalize hasN (shapeI o).data.toList [119, 114] = m at *
  generalize hasN (shapeI o).data.toList numLetters = n1 at *
  generalize hasN (shapeI o).data.toList [108] = n2 at *
  generalize shapeI o = s at *
  unfold insV
  have R0 : Hid (Fr no w (w.alloc (.cells #[.int .i64 o, .int .i64 A, .int .i64 B, .int .i64 C, .int .i64 N, .slice ua k uc] 30))) := Lib.hid ((Fr.refl no w).alloc _)
  have HI := Lib.hid (insObj w o A B C N (.slice ua k uc))
  go_enter Try.func42, Try.ntmps42
  go_wp2_with fail
  refine (HSH.out _).mono ?_
  rintro e w3 ⟨rfl, rfl⟩
  go_wp2_with fail
  refine (HC.out _).mono ?_
  rintro e w3 ⟨rfl, q, rfl⟩
  have hi := ((Fr.refl no (w.alloc (.cells #[.int .i64 o, .int .i64 A, .int .i64 B, .int .i64 C, .int .i64 N, .slice ua k uc] 30))).drewN q).heap HI.out (by simp)
  have R1 := Lib.hid (R0.out.drewN q)
  have hsz1 : ((w.alloc (.cells #[.int .i64 o, .int .i64 A, .int .i64 B, .int .i64 C, .int .i64 N, .slice ua k uc] 30)).drewN q).heap.size = w.heap.size + 1 := by
    show (w.alloc _).heap.size = _
    simp
  have HS1 := Lib.hid hsz1
  generalize (w.alloc (.cells #[.int .i64 o, .int .i64 A, .int .i64 B, .int .i64 C, .int .i64 N, .slice ua k uc] 30)).drewN q = W1 at *
  have HI1 := Lib.hid hi
  have c1 : W1.cell? ⟨w.heap.size, 1, none⟩ = some (.int .i64 A) := cell_of_heap hi rfl
  have c2 : W1.cell? ⟨w.heap.size, 2, none⟩ = some (.int .i64 B) := cell_of_heap hi rfl
  have c3 : W1.cell? ⟨w.heap.size, 3, none⟩ = some (.int .i64 C) := cell_of_heap hi rfl
  clear hi hsz1 HI
  go_wp2_with fail
  have R2 := Lib.hid (R1.out.alloc (.cells #[.int .i64 A, .int .i64 B, .int .i64 C] 3))
  have HI2 := Lib.hid (((Fr.refl no W1).alloc (.cells #[.int .i64 A, .int .i64 B, .int .i64 C] 3)).heap HI1.out (by simp))
  have HL2 := Lib.hid (heap_new W1 (.cells #[.int .i64 A, .int .i64 B, .int .i64 C] 3))
  generalize W1.alloc (.cells #[.int .i64 A, .int .i64 B, .int .i64 C] 3) = W2 at *
  generalize W1.heap.size = lb at *
  clear c1 c2 c3
  go_loop [6] (fun z => ∃ i : Nat, z = .int .i64 i ∧ m ≤ i ∧ i ≤ 3 ∧ Hid (∀ j, m ≤ j → j < i → [A, B, C].getD j 0 = 0)) (fun z => (3 - intOf z).toNat)
  case atStart => exact ⟨m, rfl, by omega, hm, Lib.hid (fun j h1 h2 => by omega)⟩
  case round =>
    obtain ⟨i, rfl, hi1, hi2, hz⟩ := hrel
    by_cases hlt : i < 3
    · have hlt' : (i : Int) < 3 := by omega
      have ck : W2.cell? ⟨lb, i, none⟩ = some (.int .i64 ([A, B, C].getD i 0)) := by
        refine cell_of_heap HL2.out ?_
        obtain h | h | h : i = 0 ∨ i = 1 ∨ i = 2 := by omega
        all_goals (rw [h]; rfl)
      generalize hn : [A, B, C].getD i 0 = n at *
      have HN := Lib.hid hn
      clear hn
      by_cases h0 : n = 0
      · subst h0
        go_wp2_with fail
        go_round
        case rel => exact ⟨i + 1, by go_num, by omega, by omega, Lib.hid (fun j h1 h2 => by
          rcases Nat.lt_or_ge j i with h | h
          · exact hz.out j h1 h
          · obtain rfl : j = i := by omega
            exact HN.out)⟩
        case measure => first | (simp [intOf]; done) | (simp [intOf]; omega)
      · have e1 : (n != 0) = true := by simpa using h0
        have HNO : Hid (([A, B, C].drop m).all (· == 0) = false) := Lib.hid (by
          rw [List.all_eq_false]
          refine ⟨n, ?_, by simpa using h0⟩
          rw [← HN.out]
          obtain h | h | h : i = 0 ∨ i = 1 ∨ i = 2 := by omega
          all_goals
            subst h
            obtain h | h | h : m = 0 ∨ m = 1 ∨ m = 2 := by omega
            all_goals (subst h; first | (exfalso; omega) | simp))
        clear h0
        go_wp2_with fail
        go_ret
        exact ⟨by rw [HNO.out]; rfl, R2.out⟩
    · obtain rfl : i = 3 := by omega
      have HYES : Hid (([A, B, C].drop m).all (· == 0) = true) := Lib.hid (by
        have h0 := hz.out 0
        have h1 := hz.out 1
        have h2 := hz.out 2
        simp only [List.getD_cons_zero, List.getD_cons_succ] at h0 h1 h2
        obtain h | h | h | h : m = 0 ∨ m = 1 ∨ m = 2 ∨ m = 3 := by omega
        all_goals
          subst h
          first | (simp; done) | (simp; omega))
      have d4 : W2.cell? ⟨w.heap.size, 4, none⟩ = some (.int .i64 N) := cell_of_heap HI2.out rfl
      have d5 : W2.cell? ⟨w.heap.size, 5, none⟩ = some (.slice ua k uc) := cell_of_heap HI2.out rfl
      clear hz
      by_cases p1 : 0 < n1
      all_goals by_cases pN : N = 0
      all_goals by_cases p2 : 0 < n2
      all_goals by_cases pk : k = 0
      all_goals
        rcases Bool.eq_false_or_eq_true (([A, B, C].drop m).all (· == 0) && (decide (0 < n1) || N == 0) && (decide (0 < n2) || k == 0)) with HR | HR
        all_goals try (exfalso; rw [HYES.out] at HR; simp [p1, pN, p2, pk] at HR; done)
        have HRES := Lib.hid HR
        clear HR
        first | have i1 : (0 : Int) < n1 := by omega | have i1 : ¬ (0 : Int) < n1 := by omega
        first | have i2 : (0 : Int) < n2 := by omega | have i2 : ¬ (0 : Int) < n2 := by omega
        first | have i3 : (((k : Nat) : Int) == 0) = true := by rw [beq_iff_eq]; omega
              | have i3 : (((k : Nat) : Int) == 0) = false := by rw [beq_eq_false_iff_ne]; omega
        first | have i4 : (N == 0) = true := by rw [beq_iff_eq]; omega
              | have i4 : (N == 0) = false := by rw [beq_eq_false_iff_ne]; omega
        clear p1 pN p2 pk
        go_wp2_with fail
        refine (HA.out _).mono ?_
        rintro e w3 ⟨rfl, q1, rfl⟩
        go_wp2_with fail
        first
        | (go_ret; exact ⟨by rw [HRES.out]; rfl, R2.out.drewN _⟩)
        | (refine (HL.out _).mono ?_
           rintro e w3 ⟨rfl, q2, rfl⟩
           go_wp2_with fail
           go_ret
           exact ⟨by rw [HRES.out]; rfl, R2.out.drewN _⟩)

end Go.Proofs.Ytkgcfllbkjlfcaa

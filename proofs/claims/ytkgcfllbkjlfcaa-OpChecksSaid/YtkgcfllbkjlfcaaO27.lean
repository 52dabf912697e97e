import Derived.Test.YtkgcfllbkjlfcaaO26
namespace Go.Proofs.Ytkgcfllbkjlfcaa
open Go.RowKit

attribute [local go_sem] Program.isFuncB Program.isSliceB

variable {w w' w'' w0 : World}

theorem find_nameB : ((List.range 33).all fun n => findI (nameI n) == n && (nameI n).toList != []) = true := by kernel_rfl
theorem find_name (k : Nat) (h : k < 33) : findI (nameI k) = k ∧ (nameI k).toList ≠ [] := by
  have := List.all_eq_true.1 find_nameB k (by simp; exact h)
  simpa using this
theorem name_inj (k m : Nat) (h : k < 33) (h' : m < 33) (e : nameI k = nameI m) : k = m := by
  have h1 := (find_name k h).1
  have h2 := (find_name m h').1
  rw [e, h2] at h1
  omega
theorem find_is (s : ByteArray) : findI s = -1 ∨ ∃ k : Nat, k < 33 ∧ findI s = k ∧ nameI k = s := by
  unfold findI
  cases h : findN s with
  | none => exact .inl rfl
  | some i =>
    refine .inr ⟨i, ?_⟩
    unfold findN at h
    rw [List.findIdx?_eq_some_iff_getElem] at h
    obtain ⟨h1, h2, _⟩ := h
    have h3 : i < 33 := h1
    refine ⟨h3, rfl, ?_⟩
    unfold nameI
    rw [if_pos (by omega)]
    unfold nameOf
    rw [Int.toNat_natCast, List.getD_eq_getElem?_getD, List.getElem?_eq_getElem h1]
    simpa using h2

set_option maxRecDepth 100000 in
set_option maxHeartbeats 4000000 in
theorem opfound_ok (w : World) (a b : Int) (ha : (Lit.int .i64 a).wf = true) (hb : (Lit.int .i64 b).wf = true) (s : ByteArray) :
    Calls Try.prog 5 #[.int .i64 a, .int .i64 b, .string s] w fun e w' => e = .returned (.bool true) ∧ Fr no w w' := by
  have R0 := Lib.hid (Fr.refl no w)
  have P1 := Lib.hid (fun w => pick_any w a 33 ha (by omega) (by omega))
  have P2 := Lib.hid (fun w => pick_any w b 33 hb (by omega) (by omega))
  have G5 := Lib.hid (fun w => find_ok w s)
  have FI := Lib.hid (find_is s)
  clear ha hb
  obtain ⟨w0, hw0⟩ : ∃ x, x = w := ⟨_, rfl⟩
  subst hw0
  go_enter Try.func5, Try.ntmps5
  go_wp2_with fail
  refine (opknown_ok _).mono ?_
  rintro e w1 ⟨rfl, r1⟩
  have R1 := Lib.hid (R0.out.trans r1)
  clear r1 
  go_wp2_with fail
  refine (P1.out _).mono ?_
  rintro e w' ⟨⟨k1, h1, rfl⟩, rfl⟩
  go_wp2_with fail
  refine (P2.out _).mono ?_
  rintro e w' ⟨⟨k2, h2, rfl⟩, rfl⟩
  have N1 := Lib.hid (fun w => name_all w k1)
  have N2 := Lib.hid (fun w => name_all w k2)
  have F1 := fun w => find_ok w (nameI k1)
  rw [(find_name k1 h1).1] at F1
  have G1 := Lib.hid F1
  clear F1
  have x1 : ((nameI k1).toList == (⟨#[]⟩ : ByteArray).toList) = false := by
    rw [beq_eq_false_iff_ne]; simpa using (find_name k1 h1).2
  have x2 : ¬ (nameI k1).toList = [] := (find_name k1 h1).2
  have x3 : (nameI k1).toList.isEmpty = false := by simpa using (find_name k1 h1).2
  have ee : ((k1 : Int) == (k1 : Int)) = true := by simp
  have nn : ((k1 : Int) != (k1 : Int)) = false := by simp
  have xb : ((nameI k1).toList == (nameI k2).toList) = ((k1 : Int) == (k2 : Int)) := by
    by_cases h : k1 = k2
    · subst h; simp
    · have e1 : ((k1 : Int) == (k2 : Int)) = false := by rw [beq_eq_false_iff_ne]; omega
      rw [e1, beq_eq_false_iff_ne]
      intro e
      exact h (name_inj k1 k2 h1 h2 (by rw [ByteArray.toList_eq, ByteArray.toList_eq] at e; exact ByteArray.ext (Array.ext' e)))
  cases hk : ((k1 : Int) == (k2 : Int))
  all_goals
    rw [hk] at xb
    generalize nameI k1 = nm1 at *
    generalize nameI k2 = nm2 at *
    go_wp2_with fail
    refine (N1.out _).mono ?_
    rintro e w2 ⟨rfl, r2⟩
    have R2 := Lib.hid (R1.out.trans r2)
    clear r2
    go_wp2_with fail
    refine (N2.out _).mono ?_
    rintro e w3 ⟨rfl, r3⟩
    have R3 := Lib.hid (R2.out.trans r3)
    clear r3
    go_wp2_with fail
    refine (G1.out _).mono ?_
    rintro e w4 ⟨rfl, r4⟩
    have R4 := Lib.hid (R3.out.trans r4)
    clear r4
    by_cases hs : (100 : Int) < s.size
    · go_wp2_with fail
      go_ret
      exact ⟨rfl, R4.out⟩
    · go_wp2_with fail
      refine (G5.out _).mono ?_
      rintro e w5 ⟨rfl, r5⟩
      have R5 := Lib.hid (R4.out.trans r5)
      clear r5
      rcases FI.out with hf | ⟨k, hk3, hf, hn⟩
      · generalize findI s = fi at *
        subst hf
        go_wp2_with fail
        go_ret
        exact ⟨rfl, R5.out⟩
      · generalize findI s = fi at *
        subst hf
        have g1 : (0 : Int) ≤ k := by omega
        have g2 : (k : Int) < 33 := by omega
        have g3 : ((k : Int) == -1) = false := by rw [beq_eq_false_iff_ne]; omega
        have N := fun w => name_all w k
        rw [hn] at N
        have HN := Lib.hid N
        have x5 : (s.toList == s.toList) = true := by simp
        clear N hn
        go_wp2_with fail
        refine (HN.out _).mono ?_
        rintro e w6 ⟨rfl, r6⟩
        have R6 := Lib.hid (R5.out.trans r6)
        clear r6
        go_wp2_with fail
        go_ret
        exact ⟨rfl, R6.out⟩

end Go.Proofs.Ytkgcfllbkjlfcaa

import Derived.Test.YtkgcfllbkjlfcaaO7
namespace Go.Proofs.Ytkgcfllbkjlfcaa
open Go.RowKit

attribute [local go_sem] Program.isFuncB Program.isSliceB

variable {w w' w'' w0 : World}

theorem ints_len (l : List Int) : (ints l).length = l.length := by simp [ints]
theorem reads_plain {v : Value} {x : Int} {l : List Int} (h : Reads w v 1 (x :: l).length (ints (x :: l))) : ∃ b o c, v = .slice (some ⟨b, o, none⟩) (x :: l).length c ∧ ∀ j, j < (x :: l).length → w.cell? ⟨b, o + j, none⟩ = some (.int .i64 ((x :: l).getD j 0)) := by
  obtain ⟨sa, c, rfl⟩ := h.shape
  obtain ⟨b, o, rfl, _⟩ := h.at1 (k := 0) (u := .int .i64 x) (by simp [ints])
  refine ⟨b, o, c, rfl, fun j hj => ?_⟩
  obtain ⟨b', o', e, hc⟩ := h.at1 (k := j) (u := .int .i64 ((x :: l).getD j 0)) (by simp only [ints, List.getElem?_map]; rw [List.getElem?_eq_getElem hj, List.getD_eq_getElem?_getD, List.getElem?_eq_getElem hj]; rfl)
  cases e
  exact hc

theorem equal_all (w : World) (u v : Value) (l m : List Int) (hu : Reads w u 1 l.length (ints l)) (hv : Reads w v 1 m.length (ints m)) (hl : l.length ≤ 9223372036854775807) (hm : m.length ≤ 9223372036854775807) :
    Calls Try.prog 45 #[u, v] w fun e w' => e = .returned (.bool (decide (l = m))) ∧ ∃ q, w' = w.drewN q := by
  by_cases hne : l.length = m.length
  · cases l with
    | nil =>
      have hm0 : m = [] := List.length_eq_zero_iff.1 (by simpa using hne.symm)
      subst hm0
      obtain ⟨a, c, rfl⟩ := hu.shape
      obtain ⟨a', c', rfl⟩ := hv.shape
      refine (Try.slices_Equal_int_empty a a' c 0 c' w (by omega)).mono ?_
      rintro e w' ⟨rfl, rfl⟩
      exact ⟨rfl, 0, rfl⟩
    | cons x l =>
      cases m with
      | nil => simp at hne
      | cons y m =>
        obtain ⟨b, o, c, rfl, h1⟩ := reads_plain hu
        obtain ⟨b', o', c', rfl, h2⟩ := reads_plain hv
        refine (Try.slices_Equal_int b o _ c b' o' _ c' (x :: l) (y :: m) w (Nat.le_refl _) (Nat.le_refl _) hl hm h1 h2).mono ?_
        rintro e w' ⟨rfl, h⟩
        refine ⟨?_, h⟩
        rw [List.take_length, List.take_length]
        congr 2
        rw [Bool.eq_iff_iff]; simp
  · obtain ⟨a, c, rfl⟩ := hu.shape
    obtain ⟨a', c', rfl⟩ := hv.shape
    refine (Try.slices_Equal_int_lens a a' _ c _ c' w hne).mono ?_
    rintro e w' ⟨rfl, rfl⟩
    exact ⟨by rw [decide_eq_false (fun e => hne (by rw [e]))], 0, rfl⟩

set_option maxHeartbeats 1000000 in
theorem same_ok (w : World) (o A B C N o' A' B' C' N' : Int) (u v : Value) (l m : List Int) (hu : Reads w u 1 l.length (ints l)) (hv : Reads w v 1 m.length (ints m)) (hl : l.length ≤ 9223372036854775807) (hm : m.length ≤ 9223372036854775807) :
    Calls Try.prog 25 #[insV o A B C N u, insV o' A' B' C' N' v] w fun e w' => e = .returned (.bool (decide (o = o' ∧ A = A' ∧ B = B' ∧ C = C' ∧ N = N' ∧ l = m))) ∧ Fr no w w' := by
  unfold insV
  have r : Fr no w ((w.alloc (.cells #[.int .i64 o, .int .i64 A, .int .i64 B, .int .i64 C, .int .i64 N, u] 30)).alloc (.cells #[.int .i64 o', .int .i64 A', .int .i64 B', .int .i64 C', .int .i64 N', v] 30)) := ((Fr.refl no w).alloc _).alloc _
  have HE := Lib.hid (equal_all _ u v l m (hu.fr r (by simp)) (hv.fr r (by simp)) hl hm)
  have R := Lib.hid r
  obtain ⟨ua, uc, rfl⟩ := hu.shape
  obtain ⟨va, vc, rfl⟩ := hv.shape
  clear hu hv r
  by_cases h1 : o = o'
  case neg =>
    have hd : Hid (decide (o = o' ∧ A = A' ∧ B = B' ∧ C = C' ∧ N = N' ∧ l = m) = false) := Lib.hid (decide_eq_false (fun h => h1 h.1))
    have e1 : (o == o') = false := by rw [beq_eq_false_iff_ne]; exact h1
    rw [hd.out]
    clear h1
    go_enter Try.func25, Try.ntmps25
    go_wp2_with fail
    go_ret
    exact ⟨rfl, R.out⟩
  subst h1
  by_cases h1 : A = A'
  case neg =>
    have hd : Hid (decide (o = o ∧ A = A' ∧ B = B' ∧ C = C' ∧ N = N' ∧ l = m) = false) := Lib.hid (decide_eq_false (fun h => h1 h.2.1))
    have e1 : (A == A') = false := by rw [beq_eq_false_iff_ne]; exact h1
    rw [hd.out]
    clear h1
    go_enter Try.func25, Try.ntmps25
    go_wp2_with fail
    go_ret
    exact ⟨rfl, R.out⟩
  subst h1
  by_cases h1 : B = B'
  case neg =>
    have hd : Hid (decide (o = o ∧ A = A ∧ B = B' ∧ C = C' ∧ N = N' ∧ l = m) = false) := Lib.hid (decide_eq_false (fun h => h1 h.2.2.1))
    have e1 : (B == B') = false := by rw [beq_eq_false_iff_ne]; exact h1
    rw [hd.out]
    clear h1
    go_enter Try.func25, Try.ntmps25
    go_wp2_with fail
    go_ret
    exact ⟨rfl, R.out⟩
  subst h1
  by_cases h1 : C = C'
  case neg =>
    have hd : Hid (decide (o = o ∧ A = A ∧ B = B ∧ C = C' ∧ N = N' ∧ l = m) = false) := Lib.hid (decide_eq_false (fun h => h1 h.2.2.2.1))
    have e1 : (C == C') = false := by rw [beq_eq_false_iff_ne]; exact h1
    rw [hd.out]
    clear h1
    go_enter Try.func25, Try.ntmps25
    go_wp2_with fail
    go_ret
    exact ⟨rfl, R.out⟩
  subst h1
  by_cases h1 : N = N'
  case neg =>
    have hd : Hid (decide (o = o ∧ A = A ∧ B = B ∧ C = C ∧ N = N' ∧ l = m) = false) := Lib.hid (decide_eq_false (fun h => h1 h.2.2.2.2.1))
    have e1 : (N == N') = false := by rw [beq_eq_false_iff_ne]; exact h1
    rw [hd.out]
    clear h1
    go_enter Try.func25, Try.ntmps25
    go_wp2_with fail
    go_ret
    exact ⟨rfl, R.out⟩
  subst h1
  have hd : Hid (decide (o = o ∧ A = A ∧ B = B ∧ C = C ∧ N = N ∧ l = m) = decide (l = m)) := Lib.hid (by simp)
  rw [hd.out]
  generalize decide (l = m) = b at *
  go_enter Try.func25, Try.ntmps25
  go_wp2_with fail
  refine HE.out.mono ?_
  rintro e w' ⟨rfl, q, hq⟩
  have R2 := Lib.hid (R.out.trans (show Fr no _ w' from by rw [hq]; exact (Fr.refl _ _).drewN q))
  clear hq
  go_wp2_with fail
  go_ret
  exact ⟨rfl, R2.out⟩

end Go.Proofs.Ytkgcfllbkjlfcaa

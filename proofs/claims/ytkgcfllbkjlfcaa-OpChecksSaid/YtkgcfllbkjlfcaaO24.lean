import Derived.Test.YtkgcfllbkjlfcaaO23
namespace Go.Proofs.Ytkgcfllbkjlfcaa
open Go.RowKit

attribute [local go_sem] Program.isFuncB Program.isSliceB

variable {w w' w'' w0 : World}

set_option maxHeartbeats 2000000 in
theorem sameins_ok (w : World) (o A B C N o' A' B' C' N' : Int) (u v : Value) (l m : List Int) (hu : Reads w u 1 l.length (ints l)) (hv : Reads w v 1 m.length (ints m)) (hl : l.length ≤ 1000000) :
    Calls Try.prog 27 #[insV o A B C N u, insV o' A' B' C' N' v] w fun e w' => e = .returned (.bool (decide (o = o' ∧ A = A' ∧ B = B' ∧ C = C' ∧ N = N' ∧ l = m))) ∧ Fr no w w' := by
  unfold insV
  have r : Fr no w ((w.alloc (.cells #[.int .i64 o, .int .i64 A, .int .i64 B, .int .i64 C, .int .i64 N, u] 30)).alloc (.cells #[.int .i64 o', .int .i64 A', .int .i64 B', .int .i64 C', .int .i64 N', v] 30)) := ((Fr.refl no w).alloc _).alloc _
  have HE := Lib.hid (same_ints _ u v l m (hu.fr r (by simp)) (hv.fr r (by simp)) hl)
  have R := Lib.hid r
  obtain ⟨ua, uc, rfl⟩ := hu.shape
  obtain ⟨va, vc, rfl⟩ := hv.shape
  clear hu hv r
  have HH : Hid (∀ b : Bool, (o == o') = b ∨ (A == A') = b ∨ (B == B') = b ∨ (C == C') = b ∨ (N == N') = b → b = false → decide (o = o' ∧ A = A' ∧ B = B' ∧ C = C' ∧ N = N' ∧ l = m) = false) := Lib.hid (by
    intro b hb hf
    subst hf
    refine decide_eq_false ?_
    rintro ⟨rfl, rfl, rfl, rfl, rfl, rfl⟩
    simp at hb)
  cases h0 : (o == o')
  case false =>
    have HN := Lib.hid (HH.out _ (.inl h0) rfl)
    go_enter Try.func27, Try.ntmps27
    go_wp2_with fail
    go_ret
    exact ⟨by rw [HN.out]; rfl, R.out⟩
  cases h1 : (A == A')
  case false =>
    have HN := Lib.hid (HH.out _ (.inr (.inl h1)) rfl)
    go_enter Try.func27, Try.ntmps27
    go_wp2_with fail
    go_ret
    exact ⟨by rw [HN.out]; rfl, R.out⟩
  cases h2 : (B == B')
  case false =>
    have HN := Lib.hid (HH.out _ (.inr (.inr (.inl h2))) rfl)
    go_enter Try.func27, Try.ntmps27
    go_wp2_with fail
    go_ret
    exact ⟨by rw [HN.out]; rfl, R.out⟩
  cases h3 : (C == C')
  case false =>
    have HN := Lib.hid (HH.out _ (.inr (.inr (.inr (.inl h3)))) rfl)
    go_enter Try.func27, Try.ntmps27
    go_wp2_with fail
    go_ret
    exact ⟨by rw [HN.out]; rfl, R.out⟩
  cases h4 : (N == N')
  case false =>
    have HN := Lib.hid (HH.out _ (.inr (.inr (.inr (.inr h4)))) rfl)
    go_enter Try.func27, Try.ntmps27
    go_wp2_with fail
    go_ret
    exact ⟨by rw [HN.out]; rfl, R.out⟩
  have HY : Hid (decide (o = o' ∧ A = A' ∧ B = B' ∧ C = C' ∧ N = N' ∧ l = m) = decide (l = m)) := Lib.hid (by
    rw [beq_iff_eq] at h0 h1 h2 h3 h4
    subst h0 h1 h2 h3 h4
    simp)
  go_enter Try.func27, Try.ntmps27
  go_wp2_with fail
  refine HE.out.mono ?_
  rintro e w3 ⟨rfl, q, rfl⟩
  go_wp2_with fail
  go_ret
  exact ⟨by rw [HY.out]; rfl, R.out.drewN q⟩

set_option maxHeartbeats 1000000 in
theorem of_ok (w : World) (o A B C N : Int) : Calls Try.prog 16 #[.int .i64 o, .int .i64 A, .int .i64 B, .int .i64 C, .int .i64 N] w fun e w' => e = .returned (insV o A B C N (.slice none 0 0)) ∧ Fr no w w' := by
  have HB := Lib.hid (heap_new w (.cells #[.int .i64 0, .int .i64 0, .int .i64 0, .int .i64 0, .int .i64 0, .slice none 0 0] 30))
  have R0 := Lib.hid ((Fr.refl no w).alloc (.cells #[.int .i64 0, .int .i64 0, .int .i64 0, .int .i64 0, .int .i64 0, .slice none 0 0] 30))
  unfold insV
  go_enter Try.func16, Try.ntmps16
  go_wp2_with (refine wpList_store_row rfl 30 (.tmp 10) (.tmp 16) rfl w.heap.size #[.int .i64 o, .int .i64 A, .int .i64 B, .int .i64 C, .int .i64 N, .slice none 0 0] rfl rfl _ _ HB.out (by rw [Try.infoIns]; rfl) rfl (by simp [Value.oneCell']) ?_; rw [act_put_none])
  have HB8 := Lib.hid (setRow_heap _ w.heap.size _ #[.int .i64 o, .int .i64 A, .int .i64 B, .int .i64 C, .int .i64 N, .slice none 0 0] _ _ HB.out)
  have R8 := Lib.hid (fr_setRow (g := w.heap.size) (cs := #[.int .i64 o, .int .i64 A, .int .i64 B, .int .i64 C, .int .i64 N, .slice none 0 0]) R0.out (.inr (by omega)))
  exact ⟨rfl, _, results_cell_row rfl _ _ _ _ _ _ _ rfl HB8.out Try.underlying30 rfl (by rw [Try.infoIns]; rfl), rfl, R8.out⟩

end Go.Proofs.Ytkgcfllbkjlfcaa

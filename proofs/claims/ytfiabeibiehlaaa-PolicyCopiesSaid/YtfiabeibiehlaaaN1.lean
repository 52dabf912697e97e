import Derived.Test.YtfiabeibiehlaaaW9
namespace Go.Proofs.Ytfiabeibiehlaaa
open Go.RowKit

attribute [local go_sem] Program.isFuncB Program.isSliceB

/-- nil, or made by nobody -/
def Nobody (w : World) (v : Value) : Prop := v = .pointer none ∨ ∃ b, v = .pointer (some ⟨b, 0, none⟩) ∧ w.cell? ⟨b, 67, none⟩ = some .nilFunc

theorem Nobody.shape {w : World} {v : Value} (h : Nobody w v) : ∃ a, v = .pointer a := by
  rcases h with rfl | ⟨b, rfl, _⟩ <;> exact ⟨_, rfl⟩

theorem none_nobody {w : World} {v : Value} (h : Nobody w v) : Calls Try.prog 20 #[v] w fun e w' => e = .returned (.bool true) ∧ w = w' := by
  rcases h with rfl | ⟨b, rfl, h⟩
  · exact none_nil w
  · exact none_made b 0 w h

set_option maxHeartbeats 400000 in
theorem decide_nobody {w : World} {v : Value} (h : Nobody w v) (f : Int) : Calls Try.prog 11 #[v, .int .i64 f] w fun e w' => e = .returned (.bool false) ∧ w = w' := by
  have h' := h
  obtain ⟨a, rfl⟩ := h.shape
  clear h
  go_enter Try.func11, Try.ntmps11
  go_wp2_with fail
  refine (none_nobody h').mono ?_
  rintro e w' ⟨rfl, rfl⟩
  go_wp2_with fail
  go_ret
  exact ⟨rfl, rfl⟩

set_option maxHeartbeats 400000 in
theorem asked_nobody {w : World} {v : Value} (h : Nobody w v) : Calls Try.prog 13 #[v] w fun e w' => e = .returned (.int .i64 0) ∧ w = w' := by
  have h' := h
  obtain ⟨a, rfl⟩ := h.shape
  clear h
  go_enter Try.func13, Try.ntmps13
  go_wp2_with fail
  refine (none_nobody h').mono ?_
  rintro e w' ⟨rfl, rfl⟩
  go_wp2_with fail
  go_ret
  exact ⟨rfl, rfl⟩

set_option maxHeartbeats 400000 in
theorem count_nobody {w : World} {v : Value} (h : Nobody w v) (f : Int) : Calls Try.prog 14 #[v, .int .i64 f] w fun e w' => e = .returned (.int .i64 0) ∧ w = w' := by
  have h' := h
  obtain ⟨a, rfl⟩ := h.shape
  clear h
  go_enter Try.func14, Try.ntmps14
  go_wp2_with fail
  refine (none_nobody h').mono ?_
  rintro e w' ⟨rfl, rfl⟩
  go_wp2_with fail
  go_ret
  exact ⟨rfl, rfl⟩

set_option maxHeartbeats 400000 in
theorem copy_nobody {w : World} {v : Value} (h : Nobody w v) : Calls Try.prog 18 #[v] w fun e w' => e = .returned (.pointer none) ∧ w = w' := by
  have h' := h
  obtain ⟨a, rfl⟩ := h.shape
  clear h
  go_enter Try.func18, Try.ntmps18
  go_wp2_with fail
  refine (none_nobody h').mono ?_
  rintro e w' ⟨rfl, rfl⟩
  go_wp2_with fail
  go_ret
  exact ⟨rfl, rfl⟩

set_option maxHeartbeats 400000 in
theorem none_any (w : World) (f : Int) (_hf : (Lit.int .i64 f).wf = true) : Calls Try.prog 6 #[.int .i64 f] w fun e w' => e = .returned (.bool true) ∧ Fr no w w' := by
  have hz := Try.zero48
  have h67 : z48[67]? = some .nilFunc := by kernel_rfl
  go_enter Try.func6, Try.ntmps6
  go_wp2_with fail
  have hb : ((w.alloc (.cells z48 48)).alloc (.cells #[.pointer none, .pointer (some ⟨w.heap.size, 0, none⟩)] 25)).heap[w.heap.size + 1]? = some (.cells #[.pointer none, .pointer (some ⟨w.heap.size, 0, none⟩)] 25 (0, 0)) := heap_new2' _ _ _
  have hn : Nobody ((w.alloc (.cells z48 48)).alloc (.cells #[.pointer none, .pointer (some ⟨w.heap.size, 0, none⟩)] 25)) (.pointer (some ⟨w.heap.size, 0, none⟩)) := .inr ⟨_, rfl, cell_of_heap (heap_new2 _ _ _) h67⟩
  have r0 : Fr no w ((w.alloc (.cells z48 48)).alloc (.cells #[.pointer none, .pointer (some ⟨w.heap.size, 0, none⟩)] 25)) := ((Fr.refl no w).alloc _).alloc _
  clear hz h67
  generalize ((w.alloc (.cells z48 48)).alloc (.cells #[.pointer none, .pointer (some ⟨w.heap.size, 0, none⟩)] 25)) = w1 at hb hn r0 ⊢
  have hcell : ∀ k : Nat, k < 2 → ∃ v, w1.cell? ⟨w.heap.size + 1, k, none⟩ = some (.pointer v) ∧ Nobody w1 (.pointer v) := by
    intro k hk
    match k, hk with
    | 0, _ => exact ⟨_, cell_of_heap hb rfl, .inl rfl⟩
    | 1, _ => exact ⟨_, cell_of_heap hb rfl, hn⟩
  have HC := Lib.hid hcell
  clear hcell hb hn
  go_loop [4] (fun i => ∃ k : Nat, k ≤ 2 ∧ i = .int .i64 k) (fun i => 2 - (intOf i).toNat)
  case atStart => exact ⟨0, by omega, rfl⟩
  case round =>
    obtain ⟨k, hk, rfl⟩ := hrel
    by_cases hlt : k < 2
    · obtain ⟨v, c1, hv⟩ := HC.out k hlt
      have HV := Lib.hid hv
      clear hv
      go_wp2_with fail
      refine (decide_nobody HV.out f).mono ?_
      rintro e w' ⟨rfl, rfl⟩
      go_wp2_with fail
      refine (asked_nobody HV.out).mono ?_
      rintro e w' ⟨rfl, rfl⟩
      go_wp2_with fail
      refine (count_nobody HV.out f).mono ?_
      rintro e w' ⟨rfl, rfl⟩
      go_wp2_with fail
      refine (copy_nobody HV.out).mono ?_
      rintro e w' ⟨rfl, rfl⟩
      go_wp2_with fail
      go_round
      case rel => exact ⟨k + 1, by omega, by go_num⟩
      case measure => simp [intOf]; omega
    · go_wp2_with fail
      refine (awake_any _).mono ?_
      rintro e w2 ⟨rfl, r2⟩
      go_wp2_with fail
      go_ret
      exact ⟨rfl, r0.trans r2⟩

end Go.Proofs.Ytfiabeibiehlaaa

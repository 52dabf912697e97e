import Derived.Test.YtdklbmggljakkaaD12
import Derived.Laws.Rows
import Derived.Laws.Tables
set_option linter.unusedSimpArgs false
set_option linter.unusedVariables false
set_option linter.unusedSectionVars false
set_option linter.unnecessarySimpa false
namespace Go.Proofs.Ytdklbmggljakkaa
open Go.RowKit Go.Shelf

attribute [local go_sem] Program.isFuncB Program.isSliceB

variable {w w' w'' w0 : World}

theorem fr_setRow {S : Nat → Prop} {g : Nat} {cs : Array Value} (h : Fr S w w') (hS : S g ∨ w.heap.size ≤ g) : Fr S w (w'.setRow g cs) :=
  ⟨h.os, h.tape, h.output, by simp [World.setRow, h.size], fun k hk hs => by
    have : g ≠ k := fun e => by rcases hS with m | m; exact hs (e ▸ m); omega
    rw [show (w'.setRow g cs).heap[k]? = w'.heap[k]? from by simp [World.setRow, Array.getElem?_modify, this]]
    exact h.block k hk hs⟩

theorem Try.infoOut : (Try.prog.info? 52).map (·.size) = some 3 := by kernel_rfl

set_option maxHeartbeats 1000000 in
/-- an outcome without deeds -/
theorem of_ok (w : World) (k c : Int) : Calls Try.prog 35 #[.int .i64 k, .int .i64 c, .slice none 0 0] w fun e w' => e = .returned (.agg #[.slice none 0 0, .int .i64 k, .int .i64 c]) ∧ Fr no w w' := by
  have HB := Lib.hid (heap_new w (.cells #[.slice none 0 0, .int .i64 0, .int .i64 0] 52))
  have R0 := Lib.hid ((Fr.refl no w).alloc (.cells #[.slice none 0 0, .int .i64 0, .int .i64 0] 52))
  go_enter Try.func35, Try.ntmps35
  go_wp2_with (refine wpList_store_row rfl 52 (.tmp 6) (.tmp 11) rfl w.heap.size #[.slice none 0 0, .int .i64 k, .int .i64 c] rfl rfl _ _ HB.out (by rw [Try.infoOut]; rfl) rfl (by simp [Value.oneCell']) ?_; rw [act_put_none])
  have HB8 := Lib.hid (setRow_heap _ w.heap.size _ #[.slice none 0 0, .int .i64 k, .int .i64 c] _ _ HB.out)
  have R8 := Lib.hid (fr_setRow (g := w.heap.size) (cs := #[.slice none 0 0, .int .i64 k, .int .i64 c]) R0.out (.inr (by omega)))
  exact ⟨rfl, _, results_cell_row rfl _ _ _ _ _ _ _ rfl HB8.out Try.underlying52 rfl (by rw [Try.infoOut]; rfl), rfl, R8.out⟩

set_option maxHeartbeats 1000000 in
theorem got_ok (w : World) (b : Int) : Calls Try.prog 32 #[.int .i64 b] w fun e w' => e = .returned (.agg #[.int .i64 1, .int .i64 b]) ∧ Fr no w w' := by
  have HB := Lib.hid (heap_new w (.cells #[.int .i64 0, .int .i64 0] 59))
  have R0 := Lib.hid ((Fr.refl no w).alloc (.cells #[.int .i64 0, .int .i64 0] 59))
  go_enter Try.func32, Try.ntmps32
  go_wp2_with (refine wpList_store_row rfl 59 (.tmp 2) (.tmp 4) rfl w.heap.size #[.int .i64 1, .int .i64 b] rfl rfl _ _ HB.out (by rw [Try.infoDeed]; rfl) rfl (by simp [Value.oneCell']) ?_; rw [act_put_none])
  have HB8 := Lib.hid (setRow_heap _ w.heap.size _ #[.int .i64 1, .int .i64 b] _ _ HB.out)
  have R8 := Lib.hid (fr_setRow (g := w.heap.size) (cs := #[.int .i64 1, .int .i64 b]) R0.out (.inr (by omega)))
  exact ⟨rfl, _, results_cell_row rfl _ _ _ _ _ _ _ rfl HB8.out Try.underlying59 rfl (by rw [Try.infoDeed]; rfl), rfl, R8.out⟩
set_option maxHeartbeats 1000000 in
theorem putd_ok (w : World) (b : Int) : Calls Try.prog 33 #[.int .i64 b] w fun e w' => e = .returned (.agg #[.int .i64 2, .int .i64 b]) ∧ Fr no w w' := by
  have HB := Lib.hid (heap_new w (.cells #[.int .i64 0, .int .i64 0] 59))
  have R0 := Lib.hid ((Fr.refl no w).alloc (.cells #[.int .i64 0, .int .i64 0] 59))
  go_enter Try.func33, Try.ntmps33
  go_wp2_with (refine wpList_store_row rfl 59 (.tmp 2) (.tmp 4) rfl w.heap.size #[.int .i64 2, .int .i64 b] rfl rfl _ _ HB.out (by rw [Try.infoDeed]; rfl) rfl (by simp [Value.oneCell']) ?_; rw [act_put_none])
  have HB8 := Lib.hid (setRow_heap _ w.heap.size _ #[.int .i64 2, .int .i64 b] _ _ HB.out)
  have R8 := Lib.hid (fr_setRow (g := w.heap.size) (cs := #[.int .i64 2, .int .i64 b]) R0.out (.inr (by omega)))
  exact ⟨rfl, _, results_cell_row rfl _ _ _ _ _ _ _ rfl HB8.out Try.underlying59 rfl (by rw [Try.infoDeed]; rfl), rfl, R8.out⟩

set_option maxHeartbeats 2000000 in
/-- the trap's text is as the chapter says -/
theorem says_trap (w : World) : Calls Try.prog 34 #[.agg #[.slice none 0 0, .int .i64 2, .int .i64 1], .string trap1] w fun e w' => e = .returned (.bool true) ∧ Fr no w w' := by
  have R0 := Lib.hid ((Fr.refl no w).alloc (.cells #[.slice none 0 0, .int .i64 2, .int .i64 1] 52))
  obtain ⟨x0, x1, x2⟩ := cells3 (heap_new w (.cells #[.slice none 0 0, .int .i64 2, .int .i64 1] 52))
  have TT := Lib.hid (text_trap (w.alloc (.cells #[.slice none 0 0, .int .i64 2, .int .i64 1] 52)))
  go_enter Try.func34, Try.ntmps34
  go_wp2_with fail
  refine TT.out.mono ?_
  rintro e w1 ⟨rfl, r1⟩
  go_wp2_with fail
  go_ret
  exact ⟨rfl, R0.out.trans r1⟩

end Go.Proofs.Ytdklbmggljakkaa

import Derived.Test.YtkgcfllbkjlfcaaO8
import Derived.Lib.AppendZeros
namespace Go.Proofs.Ytkgcfllbkjlfcaa
open Go.RowKit

attribute [local go_sem] Program.isFuncB Program.isSliceB

variable {w w' w'' w0 : World}

theorem infoInt' : Try.prog.info? 3 = some { (Try.prog.info? 3).get! with zero := some (.int .i64 0), size := 1, bytes := 8 } := by kernel_rfl

set_option maxHeartbeats 1000000 in
theorem grow_nil (w : World) (n : Nat) (hn : n ≤ 1000000) : Calls Try.prog 49 #[.slice none 0 0, .int .i64 n] w fun e w' => ∃ v, e = .returned v ∧ w'.ownsRow w.heap.size 3 1 v 0 [] ∧ Fr no w w' := by
  by_cases h0 : n = 0
  · subst h0
    go_enter Try.func49, Try.ntmps49
    go_wp2_with fail
    go_ret
    exact ⟨_, rfl, World.ownsRow_nil _ _ _ _, Fr.refl _ _⟩
  · have hpos : (0 : Int) < n := by omega
    have hneg : ¬ (n : Int) < 0 := by omega
    have hap := Lib.run_append_nil_zeros (P := Try.prog) w 28 3 28 3 _ (.int .i64 0) .i64 .i64 Try.underlying28 Try.underlying3 infoInt' rfl n (by omega) (by decide) (by omega) (by show n * 8 ≤ _; omega)
    have hge := grownCap_ge w n 0 3
    have hcm := grownCap_le_maxLen w n 0 3 (by unfold maxLen; omega)
    have hcm' : grownCap w n 0 3 ≤ 9223372036854775807 := by unfold maxLen at hcm; omega
    have hfr : Fr no w (w.drew.alloc (.cells (Builtin.zeroCells (Value.int .i64 0).cells n ++ Builtin.zeroCells (Value.int .i64 0).cells (grownCap w n 0 3 - n)) 3)) := ((Fr.refl no w).drew).alloc _
    have hob := heap_new w.drew (.cells (Builtin.zeroCells (Value.int .i64 0).cells n ++ Builtin.zeroCells (Value.int .i64 0).cells (grownCap w n 0 3 - n)) 3)
    have hsz : (Builtin.zeroCells (Value.int .i64 0).cells n ++ Builtin.zeroCells (Value.int .i64 0).cells (grownCap w n 0 3 - n)).size = grownCap w n 0 3 := by
      rw [Array.size_append, size_zeroCells, size_zeroCells]
      show n * 1 + (_ - n) * 1 = _
      omega
    generalize w.drew.alloc (.cells (Builtin.zeroCells (Value.int .i64 0).cells n ++ Builtin.zeroCells (Value.int .i64 0).cells (grownCap w n 0 3 - n)) 3) = w1 at *
    generalize Builtin.zeroCells (Value.int .i64 0).cells n ++ Builtin.zeroCells (Value.int .i64 0).cells (grownCap w n 0 3 - n) = cur at *
    generalize grownCap w n 0 3 = cap at *
    have OWN : Hid (w1.ownsRow w.heap.size 3 1 (.slice (some ⟨w.heap.size, 0, none⟩) 0 cap) 0 []) := Lib.hid ⟨rfl, .inr ⟨w.heap.size, cap, cur, rfl, Nat.le_refl _, hob, Nat.zero_le _, hcm, by omega, by simp⟩⟩
    have HFR := Lib.hid hfr
    have HAP := Lib.hid hap
    clear hob hfr hcm hsz hap h0
    go_enter Try.func49, Try.ntmps49
    go_wp2_with (at_builtin; refine Lib.wpList_append_run _ rfl _ _ 28 3 rfl _ _ rfl rfl _ _ HAP.out ?_)
    go_ret
    exact ⟨_, rfl, OWN.out, HFR.out⟩

end Go.Proofs.Ytkgcfllbkjlfcaa

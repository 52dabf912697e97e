import Derived.Test.YtihnkijeefkefaaGreatQ26
set_option linter.unusedSimpArgs false
set_option linter.unusedVariables false
set_option linter.unusedSectionVars false
set_option linter.unnecessarySimpa false
set_option maxRecDepth 100000
/- A space that nobody made answers ErrNil. -/
namespace Go.Proofs.YtihnkijeefkefaaGreat
open Go.RowKit

attribute [local go_sem] Program.isFuncB Program.isSliceB

variable {w w' w'' w0 : World} {v : Value}

def zeroSp : Array Value := #[.int .u32 0, .int .i32 0, .int .u32 0, .int .i64 0, .slice none 0 0, .slice none 0 0, .slice none 0 0, .int .i64 0, .pointer none, .pointer none, .int .i64 0, .int .u64 0, .int .u64 0, .int .i64 0, .int .i64 0, .slice none 0 0, .int .i64 0, .int .i64 0]
def NoSp (w : World) (v : Value) : Prop := v = .pointer none ∨ ∃ b, v = .pointer (some ⟨b, 0, none⟩) ∧ w.heap[b]? = some (.cells zeroSp 94 (0, 0))
theorem NoSp.fr (h : NoSp w v) (r : Fr no w w') : NoSp w' v := by
  rcases h with rfl | ⟨b, rfl, h⟩
  · exact .inl rfl
  · exact .inr ⟨b, rfl, r.heap h (by simp)⟩
theorem none_ns (w : World) (h : NoSp w v) : Calls Tryz.prog 60 #[v] w fun e w' => e = .returned (.bool true) ∧ w = w' := by
  rcases h with rfl | ⟨b, rfl, h⟩
  · go_enter Tryz.func60, Tryz.ntmps60
    go_wp2_with fail
    go_ret
    exact ⟨rfl, rfl⟩
  · have c8 : w.cell? ⟨b, 8, none⟩ = some (.pointer none) := cell_of_heap h rfl
    clear h
    go_enter Tryz.func60, Tryz.ntmps60
    go_wp2_with fail
    go_ret
    exact ⟨rfl, rfl⟩
theorem asked_ns (w : World) (h : NoSp w v) : Calls Tryz.prog 61 #[v] w fun e w' => e = .returned (.int .i64 1) ∧ w = w' := by
  have HN := Lib.hid (none_ns w h)
  clear h
  go_enter Tryz.func61, Tryz.ntmps61
  go_wp2_with fail
  refine HN.out.mono ?_
  rintro e w' ⟨rfl, rfl⟩
  go_wp2_with fail
  go_ret
  exact ⟨rfl, rfl⟩
theorem ns_Memory (w : World) (h : NoSp w v) : Calls Tryz.prog 30 #[v] w fun e w' => e = .returned (.pointer none) ∧ w = w' := by
  have HN := Lib.hid (none_ns w h)
  clear h
  go_enter Tryz.func30, Tryz.ntmps30
  go_wp2_with fail
  refine HN.out.mono ?_
  rintro e w' ⟨rfl, rfl⟩
  go_wp2_with fail
  go_ret
  exact ⟨rfl, rfl⟩
theorem ns_Func (w : World) (h : NoSp w v) : Calls Tryz.prog 28 #[v] w fun e w' => e = .returned (.int .i64 0) ∧ w = w' := by
  have HN := Lib.hid (none_ns w h)
  clear h
  go_enter Tryz.func28, Tryz.ntmps28
  go_wp2_with fail
  refine HN.out.mono ?_
  rintro e w' ⟨rfl, rfl⟩
  go_wp2_with fail
  go_ret
  exact ⟨rfl, rfl⟩
theorem ns_Place (w : World) (h : NoSp w v) : Calls Tryz.prog 32 #[v] w fun e w' => e = .returned (.int .i64 0) ∧ w = w' := by
  have HN := Lib.hid (none_ns w h)
  clear h
  go_enter Tryz.func32, Tryz.ntmps32
  go_wp2_with fail
  refine HN.out.mono ?_
  rintro e w' ⟨rfl, rfl⟩
  go_wp2_with fail
  go_ret
  exact ⟨rfl, rfl⟩
theorem ns_At (w : World) (h : NoSp w v) : Calls Tryz.prog 29 #[v] w fun e w' => e = .returned (.int .u64 0) ∧ w = w' := by
  have HN := Lib.hid (none_ns w h)
  clear h
  go_enter Tryz.func29, Tryz.ntmps29
  go_wp2_with fail
  refine HN.out.mono ?_
  rintro e w' ⟨rfl, rfl⟩
  go_wp2_with fail
  go_ret
  exact ⟨rfl, rfl⟩
theorem ns_Fuel (w : World) (h : NoSp w v) : Calls Tryz.prog 40 #[v] w fun e w' => e = .returned (.int .i64 0) ∧ w = w' := by
  have HN := Lib.hid (none_ns w h)
  clear h
  go_enter Tryz.func40, Tryz.ntmps40
  go_wp2_with fail
  refine HN.out.mono ?_
  rintro e w' ⟨rfl, rfl⟩
  go_wp2_with fail
  go_ret
  exact ⟨rfl, rfl⟩
theorem ns_Depth (w : World) (h : NoSp w v) : Calls Tryz.prog 17 #[v] w fun e w' => e = .returned (.int .i64 0) ∧ w = w' := by
  have HN := Lib.hid (none_ns w h)
  clear h
  go_enter Tryz.func17, Tryz.ntmps17
  go_wp2_with fail
  refine HN.out.mono ?_
  rintro e w' ⟨rfl, rfl⟩
  go_wp2_with fail
  go_ret
  exact ⟨rfl, rfl⟩
theorem ns_Set (w : World) (r : Int) (x : Nat) (h : NoSp w v) : Calls Tryz.prog 25 #[v, .int .i64 r, .int .u64 x] w fun e w' => e = .returned (.int .i64 1) ∧ w = w' := by
  have HN := Lib.hid (none_ns w h)
  clear h
  go_enter Tryz.func25, Tryz.ntmps25
  go_wp2_with fail
  refine HN.out.mono ?_
  rintro e w' ⟨rfl, rfl⟩
  go_wp2_with fail
  go_ret
  exact ⟨rfl, rfl⟩
theorem ns_Copy (w : World) (h : NoSp w v) : Calls Tryz.prog 45 #[v] w fun e w' => e = .returned (.pointer none) ∧ w = w' := by
  have HN := Lib.hid (none_ns w h)
  clear h
  go_enter Tryz.func45, Tryz.ntmps45
  go_wp2_with fail
  refine HN.out.mono ?_
  rintro e w' ⟨rfl, rfl⟩
  go_wp2_with fail
  go_ret
  exact ⟨rfl, rfl⟩
theorem ns_Go (w : World) (n : Int) (h : NoSp w v) : Calls Tryz.prog 42 #[v, .int .i64 n] w fun e w' => e = .returned (.int .i64 1) ∧ w = w' := by
  have HN := Lib.hid (asked_ns w h)
  clear h
  go_enter Tryz.func42, Tryz.ntmps42
  go_wp2_with fail
  refine HN.out.mono ?_
  rintro e w' ⟨rfl, rfl⟩
  go_wp2_with fail
  go_ret
  exact ⟨rfl, rfl⟩
theorem ns_Burn (w : World) (n : Int) (h : NoSp w v) : Calls Tryz.prog 22 #[v, .int .i64 n] w fun e w' => e = .returned (.int .i64 1) ∧ w = w' := by
  have HN := Lib.hid (asked_ns w h)
  clear h
  go_enter Tryz.func22, Tryz.ntmps22
  go_wp2_with fail
  refine HN.out.mono ?_
  rintro e w' ⟨rfl, rfl⟩
  go_wp2_with fail
  go_ret
  exact ⟨rfl, rfl⟩
theorem ns_Return (w : World) (x : Nat) (h : NoSp w v) : Calls Tryz.prog 20 #[v, .int .u64 x] w fun e w' => e = .returned (.int .i64 1) ∧ w = w' := by
  have HN := Lib.hid (asked_ns w h)
  clear h
  go_enter Tryz.func20, Tryz.ntmps20
  go_wp2_with fail
  refine HN.out.mono ?_
  rintro e w' ⟨rfl, rfl⟩
  go_wp2_with fail
  go_ret
  exact ⟨rfl, rfl⟩
theorem ns_Putb (w : World) (n : Int) (h : NoSp w v) : Calls Tryz.prog 44 #[v, .int .i64 n] w fun e w' => e = .returned (.int .i64 1) ∧ w = w' := by
  have HN := Lib.hid (asked_ns w h)
  clear h
  go_enter Tryz.func44, Tryz.ntmps44
  go_wp2_with fail
  refine HN.out.mono ?_
  rintro e w' ⟨rfl, rfl⟩
  go_wp2_with fail
  go_ret
  exact ⟨rfl, rfl⟩
theorem ns_Get (w : World) (r : Int) (h : NoSp w v) : Calls Tryz.prog 21 #[v, .int .i64 r] w fun e w' => e = .returned (.tuple #[.int .u64 0, .int .i64 1]) ∧ w = w' := by
  have HN := Lib.hid (asked_ns w h)
  clear h
  go_enter Tryz.func21, Tryz.ntmps21
  go_wp2_with fail
  refine HN.out.mono ?_
  rintro e w' ⟨rfl, rfl⟩
  go_wp2_with fail
  go_ret2
  exact ⟨rfl, rfl⟩
theorem ns_Getb (w : World) (h : NoSp w v) : Calls Tryz.prog 39 #[v] w fun e w' => e = .returned (.tuple #[.int .i64 0, .int .i64 1]) ∧ w = w' := by
  have HN := Lib.hid (asked_ns w h)
  clear h
  go_enter Tryz.func39, Tryz.ntmps39
  go_wp2_with fail
  refine HN.out.mono ?_
  rintro e w' ⟨rfl, rfl⟩
  go_wp2_with fail
  go_ret2
  exact ⟨rfl, rfl⟩
theorem ns_Call (w : World) (f res back : Int) (a : Value) (h : NoSp w v) : Calls Tryz.prog 18 #[v, .int .i64 f, a, .int .i64 res, .int .i64 back] w fun e w' => e = .returned (.int .i64 1) ∧ Fr no w w' := by
  have r1 := (Fr.refl no w).alloc (.cells #[v] 30)
  have HN := Lib.hid (asked_ns _ (h.fr r1))
  have R1 := Lib.hid r1
  rcases h with rfl | ⟨b, rfl, h⟩
  · clear r1
    go_enter Tryz.func18, Tryz.ntmps18
    go_wp2_with fail
    refine HN.out.mono ?_
    rintro e w' ⟨rfl, rfl⟩
    go_wp2_with fail
    go_ret
    exact ⟨rfl, R1.out⟩
  · clear r1 h
    go_enter Tryz.func18, Tryz.ntmps18
    go_wp2_with fail
    refine HN.out.mono ?_
    rintro e w' ⟨rfl, rfl⟩
    go_wp2_with fail
    go_ret
    exact ⟨rfl, R1.out⟩
theorem ns_Stop (w : World) (k c : Int) (h : NoSp w v) : Calls Tryz.prog 43 #[v, .agg #[.int .i64 k, .int .i64 c]] w fun e w' => e = .returned (.int .i64 1) ∧ Fr no w w' := by
  have r1 := (Fr.refl no w).alloc (.cells #[.int .i64 k, .int .i64 c] 43)
  have HN := Lib.hid (asked_ns _ (h.fr r1))
  have R1 := Lib.hid r1
  rcases h with rfl | ⟨b, rfl, h⟩
  · clear r1
    go_enter Tryz.func43, Tryz.ntmps43
    go_wp2_with fail
    refine HN.out.mono ?_
    rintro e w' ⟨rfl, rfl⟩
    go_wp2_with fail
    go_ret
    exact ⟨rfl, R1.out⟩
  · clear r1 h
    go_enter Tryz.func43, Tryz.ntmps43
    go_wp2_with fail
    refine HN.out.mono ?_
    rintro e w' ⟨rfl, rfl⟩
    go_wp2_with fail
    go_ret
    exact ⟨rfl, R1.out⟩
theorem ns_Same (w : World) (h : NoSp w v) : Calls Tryz.prog 37 #[v, v] w fun e w' => e = .returned (.bool false) ∧ w = w' := by
  have HN := Lib.hid (none_ns w h)
  clear h
  go_enter Tryz.func37, Tryz.ntmps37
  go_wp2_with fail
  refine HN.out.mono ?_
  rintro e w' ⟨rfl, rfl⟩
  go_wp2_with fail
  go_ret
  exact ⟨rfl, rfl⟩
theorem ns_End (w : World) (h : NoSp w v) : Calls Tryz.prog 16 #[v] w fun e w' => e = .returned (.tuple #[.agg #[.int .i64 0, .int .i64 0], .bool false]) ∧ Fr no w w' := by
  have r1 := (Fr.refl no w).alloc (.cells #[.int .i64 0, .int .i64 0] 43)
  have hb := heap_new w (.cells #[.int .i64 0, .int .i64 0] 43)
  have HN := Lib.hid (none_ns _ (h.fr r1))
  have R1 := Lib.hid r1
  have HB := Lib.hid hb
  have b0 := cell_of_heap (o := 0) hb rfl
  have b1 := cell_of_heap (o := 1) hb rfl
  have g0 := frozen_of_heap (o := 0) hb
  have g1 := frozen_of_heap (o := 1) hb
  clear h r1 hb
  go_enter Tryz.func16, Tryz.ntmps16
  go_wp2_with fail
  refine HN.out.mono ?_
  rintro e w' ⟨rfl, rfl⟩
  generalize w.alloc (.cells #[.int .i64 0, .int .i64 0] 43) = w1 at *
  have HB2 := Lib.hid (Inv.row_heap w1 w.heap.size _ #[.int .i64 0, .int .i64 0] _ HB.out)
  have R2 := Lib.hid (Inv.fr_row (g := w.heap.size) (cs := #[.int .i64 0, .int .i64 0]) R1.out (.inr (Nat.le_refl _)))
  clear b0 b1 g0 g1
  go_upto_region 2 with (fail)
  go_wp2_with (refine wpList_store_row rfl 43 (.tmp 2) (.tmp 6) rfl w.heap.size #[.int .i64 0, .int .i64 0] rfl rfl _ _ HB.out (by rw [Tryz.infoEnd]; rfl) rfl (by simp [Value.oneCell']) ?_; rw [act_put_none])
  refine bodyPost_ret (results_cs rfl rfl rfl (run_loadVar_row _ w.heap.size _ _ _ _ _ HB2.out Tryz.underlying43 rfl (by rw [Tryz.infoEnd]; rfl))) rfl ?_
  exact ⟨rfl, R2.out⟩
theorem ns_Outcome (w : World) (h : NoSp w v) : Calls Tryz.prog 41 #[v] w fun e w' => e = .returned (.agg #[.slice none 0 0, .int .i64 0, .int .i64 0]) ∧ Fr no w w' := by
  have r1 := (Fr.refl no w).alloc (.cells #[.slice none 0 0, .int .i64 0, .int .i64 0] 99)
  have hb := heap_new w (.cells #[.slice none 0 0, .int .i64 0, .int .i64 0] 99)
  have HN := Lib.hid (none_ns _ (h.fr r1))
  have R1 := Lib.hid r1
  have HB := Lib.hid hb
  clear h r1 hb
  go_enter Tryz.func41, Tryz.ntmps41
  go_wp2_with fail
  refine HN.out.mono ?_
  rintro e w' ⟨rfl, rfl⟩
  generalize w.alloc (.cells #[.slice none 0 0, .int .i64 0, .int .i64 0] 99) = w1 at *
  have HB2 := Lib.hid (Inv.row_heap w1 w.heap.size _ #[.slice none 0 0, .int .i64 0, .int .i64 0] _ HB.out)
  have R2 := Lib.hid (Inv.fr_row (g := w.heap.size) (cs := #[.slice none 0 0, .int .i64 0, .int .i64 0]) R1.out (.inr (Nat.le_refl _)))
  go_upto_region 2 with (fail)
  go_wp2_with (refine wpList_store_row rfl 99 (.tmp 2) (.tmp 5) rfl w.heap.size #[.slice none 0 0, .int .i64 0, .int .i64 0] rfl rfl _ _ HB.out (by rw [Tryz.infoOut]; rfl) rfl (by simp [Value.oneCell']) ?_; rw [act_put_none])
  refine bodyPost_ret (results_one rfl rfl (run_loadVar_row _ w.heap.size _ _ _ _ _ HB2.out Tryz.underlying99 rfl (by rw [Tryz.infoOut]; rfl))) rfl ?_
  exact ⟨rfl, R2.out⟩

end Go.Proofs.YtihnkijeefkefaaGreat

import Derived.Test.YtkgcfllbkjlfcaaRd
import Derived.Test.YtkgcfllbkjlfcaaLex
import Derived.Test.YtkgcfllbkjlfcaaRun
import Derived.Deep.WholeRow
import Derived.Deep.CutRange
import Derived.Deep.CutBlock
namespace Go.Proofs.Ytkgcfllbkjlfcaa
open Go.RowKit

attribute [local go_sem] Program.isFuncB Program.isSliceB

variable {w w' w'' : World}

/-- the operations' names and shapes -/
def table : List (ByteArray × ByteArray) := [
  (⟨#[110, 111, 112]⟩, ⟨#[]⟩),
  (⟨#[99, 111, 110, 115, 116]⟩, ⟨#[119, 105]⟩),
  (⟨#[109, 111, 118]⟩, ⟨#[119, 114]⟩),
  (⟨#[97, 100, 100]⟩, ⟨#[119, 114, 114]⟩),
  (⟨#[115, 117, 98]⟩, ⟨#[119, 114, 114]⟩),
  (⟨#[109, 117, 108]⟩, ⟨#[119, 114, 114]⟩),
  (⟨#[100, 105, 118]⟩, ⟨#[119, 114, 114]⟩),
  (⟨#[100, 105, 118, 117]⟩, ⟨#[119, 114, 114]⟩),
  (⟨#[114, 101, 109]⟩, ⟨#[119, 114, 114]⟩),
  (⟨#[114, 101, 109, 117]⟩, ⟨#[119, 114, 114]⟩),
  (⟨#[97, 110, 100]⟩, ⟨#[119, 114, 114]⟩),
  (⟨#[111, 114]⟩, ⟨#[119, 114, 114]⟩),
  (⟨#[120, 111, 114]⟩, ⟨#[119, 114, 114]⟩),
  (⟨#[115, 104, 108]⟩, ⟨#[119, 114, 114]⟩),
  (⟨#[115, 104, 114]⟩, ⟨#[119, 114, 114]⟩),
  (⟨#[115, 97, 114]⟩, ⟨#[119, 114, 114]⟩),
  (⟨#[108, 116]⟩, ⟨#[119, 114, 114]⟩),
  (⟨#[108, 116, 117]⟩, ⟨#[119, 114, 114]⟩),
  (⟨#[101, 113]⟩, ⟨#[119, 114, 114]⟩),
  (⟨#[110, 101]⟩, ⟨#[119, 114, 114]⟩),
  (⟨#[101, 120, 116]⟩, ⟨#[119, 114, 107]⟩),
  (⟨#[108, 111, 97, 100]⟩, ⟨#[119, 114, 109]⟩),
  (⟨#[115, 116, 111, 114, 101]⟩, ⟨#[114, 114, 122]⟩),
  (⟨#[108, 101, 97]⟩, ⟨#[119, 102]⟩),
  (⟨#[100, 97, 116, 97]⟩, ⟨#[119, 100]⟩),
  (⟨#[106, 109, 112]⟩, ⟨#[116]⟩),
  (⟨#[98, 114, 122]⟩, ⟨#[114, 116]⟩),
  (⟨#[98, 114, 110, 122]⟩, ⟨#[114, 116]⟩),
  (⟨#[99, 97, 108, 108]⟩, ⟨#[119, 99, 108]⟩),
  (⟨#[114, 101, 116]⟩, ⟨#[114]⟩),
  (⟨#[103, 101, 116, 98]⟩, ⟨#[119]⟩),
  (⟨#[112, 117, 116, 98]⟩, ⟨#[114]⟩),
  (⟨#[101, 120, 105, 116]⟩, ⟨#[114]⟩)]

def rowsCells : Array Value := (table.flatMap fun x => [Value.string x.1, Value.string x.2]).toArray

theorem Try.zeroRows (w : World) : (zeroValue 48).run Try.prog w = .ok (.agg (Array.replicate 66 (.string ⟨#[]⟩))) w := by kernel_rfl
theorem Try.buildRow (n s : ByteArray) (w : World) : (Instr.build 43 #[(0, .string n), (1, .string s)]).run Try.prog w = .ok (.agg #[.string n, .string s]) w := by kernel_rfl
theorem Try.buildRows (w : World) : (Instr.build 48 #[(0, .agg #[.string ⟨#[110, 111, 112]⟩, .string ⟨#[]⟩]), (1, .agg #[.string ⟨#[99, 111, 110, 115, 116]⟩, .string ⟨#[119, 105]⟩]), (2, .agg #[.string ⟨#[109, 111, 118]⟩, .string ⟨#[119, 114]⟩]), (3, .agg #[.string ⟨#[97, 100, 100]⟩, .string ⟨#[119, 114, 114]⟩]), (4, .agg #[.string ⟨#[115, 117, 98]⟩, .string ⟨#[119, 114, 114]⟩]), (5, .agg #[.string ⟨#[109, 117, 108]⟩, .string ⟨#[119, 114, 114]⟩]), (6, .agg #[.string ⟨#[100, 105, 118]⟩, .string ⟨#[119, 114, 114]⟩]), (7, .agg #[.string ⟨#[100, 105, 118, 117]⟩, .string ⟨#[119, 114, 114]⟩]), (8, .agg #[.string ⟨#[114, 101, 109]⟩, .string ⟨#[119, 114, 114]⟩]), (9, .agg #[.string ⟨#[114, 101, 109, 117]⟩, .string ⟨#[119, 114, 114]⟩]), (10, .agg #[.string ⟨#[97, 110, 100]⟩, .string ⟨#[119, 114, 114]⟩]), (11, .agg #[.string ⟨#[111, 114]⟩, .string ⟨#[119, 114, 114]⟩]), (12, .agg #[.string ⟨#[120, 111, 114]⟩, .string ⟨#[119, 114, 114]⟩]), (13, .agg #[.string ⟨#[115, 104, 108]⟩, .string ⟨#[119, 114, 114]⟩]), (14, .agg #[.string ⟨#[115, 104, 114]⟩, .string ⟨#[119, 114, 114]⟩]), (15, .agg #[.string ⟨#[115, 97, 114]⟩, .string ⟨#[119, 114, 114]⟩]), (16, .agg #[.string ⟨#[108, 116]⟩, .string ⟨#[119, 114, 114]⟩]), (17, .agg #[.string ⟨#[108, 116, 117]⟩, .string ⟨#[119, 114, 114]⟩]), (18, .agg #[.string ⟨#[101, 113]⟩, .string ⟨#[119, 114, 114]⟩]), (19, .agg #[.string ⟨#[110, 101]⟩, .string ⟨#[119, 114, 114]⟩]), (20, .agg #[.string ⟨#[101, 120, 116]⟩, .string ⟨#[119, 114, 107]⟩]), (21, .agg #[.string ⟨#[108, 111, 97, 100]⟩, .string ⟨#[119, 114, 109]⟩]), (22, .agg #[.string ⟨#[115, 116, 111, 114, 101]⟩, .string ⟨#[114, 114, 122]⟩]), (23, .agg #[.string ⟨#[108, 101, 97]⟩, .string ⟨#[119, 102]⟩]), (24, .agg #[.string ⟨#[100, 97, 116, 97]⟩, .string ⟨#[119, 100]⟩]), (25, .agg #[.string ⟨#[106, 109, 112]⟩, .string ⟨#[116]⟩]), (26, .agg #[.string ⟨#[98, 114, 122]⟩, .string ⟨#[114, 116]⟩]), (27, .agg #[.string ⟨#[98, 114, 110, 122]⟩, .string ⟨#[114, 116]⟩]), (28, .agg #[.string ⟨#[99, 97, 108, 108]⟩, .string ⟨#[119, 99, 108]⟩]), (29, .agg #[.string ⟨#[114, 101, 116]⟩, .string ⟨#[114]⟩]), (30, .agg #[.string ⟨#[103, 101, 116, 98]⟩, .string ⟨#[119]⟩]), (31, .agg #[.string ⟨#[112, 117, 116, 98]⟩, .string ⟨#[114]⟩]), (32, .agg #[.string ⟨#[101, 120, 105, 116]⟩, .string ⟨#[114]⟩])]).run Try.prog w = .ok (.agg rowsCells) w := by kernel_rfl
theorem Try.infoRows : (Try.prog.info? 48).map (·.size) = some rowsCells.size := by kernel_rfl

theorem Try.infoRow : (Try.prog.info? 43).map (·.size) = some 2 := by kernel_rfl

attribute [local go_sem] Try.zeroRows


set_option maxRecDepth 100000 in
set_option maxHeartbeats 4000000 in
theorem rows_ok (w : World) : Calls Try.prog 31 #[] w fun e w' => e = .returned (.agg rowsCells) ∧ Fr no w w' := by
  have hst := run_storeAt_new (P := Try.prog) w 48 (Array.replicate 66 (.string ⟨#[]⟩)) rowsCells Try.infoRows (by kernel_rfl) (by kernel_rfl)
  have hld := run_loadVar_new (P := Try.prog) w 48 rowsCells 33 43 Try.underlying48 Try.infoRows
  go_enter Try.func31, Try.ntmps31
  go_upto_region 1 with (fail)
  refine wp_region_lit ?_
  refine wpList_still (still_build (v := .agg #[.string ⟨#[110, 111, 112]⟩, .string ⟨#[]⟩]) rfl rfl (Try.buildRow _ _)) ?_
  simp only [act_put, List.setIfInBounds_toArray, List.set_cons_zero, List.set_cons_succ]
  refine wpList_still (still_build (v := .agg #[.string ⟨#[99, 111, 110, 115, 116]⟩, .string ⟨#[119, 105]⟩]) rfl rfl (Try.buildRow _ _)) ?_
  simp only [act_put, List.setIfInBounds_toArray, List.set_cons_zero, List.set_cons_succ]
  refine wpList_still (still_build (v := .agg #[.string ⟨#[109, 111, 118]⟩, .string ⟨#[119, 114]⟩]) rfl rfl (Try.buildRow _ _)) ?_
  simp only [act_put, List.setIfInBounds_toArray, List.set_cons_zero, List.set_cons_succ]
  refine wpList_still (still_build (v := .agg #[.string ⟨#[97, 100, 100]⟩, .string ⟨#[119, 114, 114]⟩]) rfl rfl (Try.buildRow _ _)) ?_
  simp only [act_put, List.setIfInBounds_toArray, List.set_cons_zero, List.set_cons_succ]
  refine wpList_still (still_build (v := .agg #[.string ⟨#[115, 117, 98]⟩, .string ⟨#[119, 114, 114]⟩]) rfl rfl (Try.buildRow _ _)) ?_
  simp only [act_put, List.setIfInBounds_toArray, List.set_cons_zero, List.set_cons_succ]
  refine wpList_still (still_build (v := .agg #[.string ⟨#[109, 117, 108]⟩, .string ⟨#[119, 114, 114]⟩]) rfl rfl (Try.buildRow _ _)) ?_
  simp only [act_put, List.setIfInBounds_toArray, List.set_cons_zero, List.set_cons_succ]
  refine wpList_still (still_build (v := .agg #[.string ⟨#[100, 105, 118]⟩, .string ⟨#[119, 114, 114]⟩]) rfl rfl (Try.buildRow _ _)) ?_
  simp only [act_put, List.setIfInBounds_toArray, List.set_cons_zero, List.set_cons_succ]
  refine wpList_still (still_build (v := .agg #[.string ⟨#[100, 105, 118, 117]⟩, .string ⟨#[119, 114, 114]⟩]) rfl rfl (Try.buildRow _ _)) ?_
  simp only [act_put, List.setIfInBounds_toArray, List.set_cons_zero, List.set_cons_succ]
  refine wpList_still (still_build (v := .agg #[.string ⟨#[114, 101, 109]⟩, .string ⟨#[119, 114, 114]⟩]) rfl rfl (Try.buildRow _ _)) ?_
  simp only [act_put, List.setIfInBounds_toArray, List.set_cons_zero, List.set_cons_succ]
  refine wpList_still (still_build (v := .agg #[.string ⟨#[114, 101, 109, 117]⟩, .string ⟨#[119, 114, 114]⟩]) rfl rfl (Try.buildRow _ _)) ?_
  simp only [act_put, List.setIfInBounds_toArray, List.set_cons_zero, List.set_cons_succ]
  refine wpList_still (still_build (v := .agg #[.string ⟨#[97, 110, 100]⟩, .string ⟨#[119, 114, 114]⟩]) rfl rfl (Try.buildRow _ _)) ?_
  simp only [act_put, List.setIfInBounds_toArray, List.set_cons_zero, List.set_cons_succ]
  refine wpList_still (still_build (v := .agg #[.string ⟨#[111, 114]⟩, .string ⟨#[119, 114, 114]⟩]) rfl rfl (Try.buildRow _ _)) ?_
  simp only [act_put, List.setIfInBounds_toArray, List.set_cons_zero, List.set_cons_succ]
  refine wpList_still (still_build (v := .agg #[.string ⟨#[120, 111, 114]⟩, .string ⟨#[119, 114, 114]⟩]) rfl rfl (Try.buildRow _ _)) ?_
  simp only [act_put, List.setIfInBounds_toArray, List.set_cons_zero, List.set_cons_succ]
  refine wpList_still (still_build (v := .agg #[.string ⟨#[115, 104, 108]⟩, .string ⟨#[119, 114, 114]⟩]) rfl rfl (Try.buildRow _ _)) ?_
  simp only [act_put, List.setIfInBounds_toArray, List.set_cons_zero, List.set_cons_succ]
  refine wpList_still (still_build (v := .agg #[.string ⟨#[115, 104, 114]⟩, .string ⟨#[119, 114, 114]⟩]) rfl rfl (Try.buildRow _ _)) ?_
  simp only [act_put, List.setIfInBounds_toArray, List.set_cons_zero, List.set_cons_succ]
  refine wpList_still (still_build (v := .agg #[.string ⟨#[115, 97, 114]⟩, .string ⟨#[119, 114, 114]⟩]) rfl rfl (Try.buildRow _ _)) ?_
  simp only [act_put, List.setIfInBounds_toArray, List.set_cons_zero, List.set_cons_succ]
  refine wpList_still (still_build (v := .agg #[.string ⟨#[108, 116]⟩, .string ⟨#[119, 114, 114]⟩]) rfl rfl (Try.buildRow _ _)) ?_
  simp only [act_put, List.setIfInBounds_toArray, List.set_cons_zero, List.set_cons_succ]
  refine wpList_still (still_build (v := .agg #[.string ⟨#[108, 116, 117]⟩, .string ⟨#[119, 114, 114]⟩]) rfl rfl (Try.buildRow _ _)) ?_
  simp only [act_put, List.setIfInBounds_toArray, List.set_cons_zero, List.set_cons_succ]
  refine wpList_still (still_build (v := .agg #[.string ⟨#[101, 113]⟩, .string ⟨#[119, 114, 114]⟩]) rfl rfl (Try.buildRow _ _)) ?_
  simp only [act_put, List.setIfInBounds_toArray, List.set_cons_zero, List.set_cons_succ]
  refine wpList_still (still_build (v := .agg #[.string ⟨#[110, 101]⟩, .string ⟨#[119, 114, 114]⟩]) rfl rfl (Try.buildRow _ _)) ?_
  simp only [act_put, List.setIfInBounds_toArray, List.set_cons_zero, List.set_cons_succ]
  refine wpList_still (still_build (v := .agg #[.string ⟨#[101, 120, 116]⟩, .string ⟨#[119, 114, 107]⟩]) rfl rfl (Try.buildRow _ _)) ?_
  simp only [act_put, List.setIfInBounds_toArray, List.set_cons_zero, List.set_cons_succ]
  refine wpList_still (still_build (v := .agg #[.string ⟨#[108, 111, 97, 100]⟩, .string ⟨#[119, 114, 109]⟩]) rfl rfl (Try.buildRow _ _)) ?_
  simp only [act_put, List.setIfInBounds_toArray, List.set_cons_zero, List.set_cons_succ]
  refine wpList_still (still_build (v := .agg #[.string ⟨#[115, 116, 111, 114, 101]⟩, .string ⟨#[114, 114, 122]⟩]) rfl rfl (Try.buildRow _ _)) ?_
  simp only [act_put, List.setIfInBounds_toArray, List.set_cons_zero, List.set_cons_succ]
  refine wpList_still (still_build (v := .agg #[.string ⟨#[108, 101, 97]⟩, .string ⟨#[119, 102]⟩]) rfl rfl (Try.buildRow _ _)) ?_
  simp only [act_put, List.setIfInBounds_toArray, List.set_cons_zero, List.set_cons_succ]
  refine wpList_still (still_build (v := .agg #[.string ⟨#[100, 97, 116, 97]⟩, .string ⟨#[119, 100]⟩]) rfl rfl (Try.buildRow _ _)) ?_
  simp only [act_put, List.setIfInBounds_toArray, List.set_cons_zero, List.set_cons_succ]
  refine wpList_still (still_build (v := .agg #[.string ⟨#[106, 109, 112]⟩, .string ⟨#[116]⟩]) rfl rfl (Try.buildRow _ _)) ?_
  simp only [act_put, List.setIfInBounds_toArray, List.set_cons_zero, List.set_cons_succ]
  refine wpList_still (still_build (v := .agg #[.string ⟨#[98, 114, 122]⟩, .string ⟨#[114, 116]⟩]) rfl rfl (Try.buildRow _ _)) ?_
  simp only [act_put, List.setIfInBounds_toArray, List.set_cons_zero, List.set_cons_succ]
  refine wpList_still (still_build (v := .agg #[.string ⟨#[98, 114, 110, 122]⟩, .string ⟨#[114, 116]⟩]) rfl rfl (Try.buildRow _ _)) ?_
  simp only [act_put, List.setIfInBounds_toArray, List.set_cons_zero, List.set_cons_succ]
  refine wpList_still (still_build (v := .agg #[.string ⟨#[99, 97, 108, 108]⟩, .string ⟨#[119, 99, 108]⟩]) rfl rfl (Try.buildRow _ _)) ?_
  simp only [act_put, List.setIfInBounds_toArray, List.set_cons_zero, List.set_cons_succ]
  refine wpList_still (still_build (v := .agg #[.string ⟨#[114, 101, 116]⟩, .string ⟨#[114]⟩]) rfl rfl (Try.buildRow _ _)) ?_
  simp only [act_put, List.setIfInBounds_toArray, List.set_cons_zero, List.set_cons_succ]
  refine wpList_still (still_build (v := .agg #[.string ⟨#[103, 101, 116, 98]⟩, .string ⟨#[119]⟩]) rfl rfl (Try.buildRow _ _)) ?_
  simp only [act_put, List.setIfInBounds_toArray, List.set_cons_zero, List.set_cons_succ]
  refine wpList_still (still_build (v := .agg #[.string ⟨#[112, 117, 116, 98]⟩, .string ⟨#[114]⟩]) rfl rfl (Try.buildRow _ _)) ?_
  simp only [act_put, List.setIfInBounds_toArray, List.set_cons_zero, List.set_cons_succ]
  refine wpList_still (still_build (v := .agg #[.string ⟨#[101, 120, 105, 116]⟩, .string ⟨#[114]⟩]) rfl rfl (Try.buildRow _ _)) ?_
  simp only [act_put, List.setIfInBounds_toArray, List.set_cons_zero, List.set_cons_succ]
  refine wpList_still (still_build (v := .agg rowsCells) rfl rfl Try.buildRows) ?_
  simp only [act_put, List.setIfInBounds_toArray, List.set_cons_zero, List.set_cons_succ]
  refine wpList_store rfl rfl hst ?_
  rw [act_put_none]
  go_wp2_with fail
  refine ⟨rfl, .agg rowsCells, ?_, rfl, (Fr.refl no w).alloc _⟩
  exact results_cell (ad := ⟨w.heap.size, 0, none⟩) rfl rfl hld

/-! ### Name, Shape -/
def nameOf (n : Nat) : ByteArray := (table.getD n (⟨#[]⟩, ⟨#[]⟩)).1
def shapeOf (n : Nat) : ByteArray := (table.getD n (⟨#[]⟩, ⟨#[]⟩)).2

theorem is_yes (w : World) (n : Nat) (h : n < 33) : Calls Try.prog 34 #[.int .i64 n] w fun e w' => e = .returned (.bool true) ∧ w = w' := by
  have h1 : (n : Int) < 33 := by omega
  go_enter Try.func34, Try.ntmps34
  go_wp2_with fail
  go_ret
  exact ⟨rfl, rfl⟩
theorem is_no (w : World) (n : Int) (h : n < 0 ∨ 33 ≤ n) : Calls Try.prog 34 #[.int .i64 n] w fun e w' => e = .returned (.bool false) ∧ w = w' := by
  by_cases h0 : n < 0
  · clear h
    go_enter Try.func34, Try.ntmps34
    go_wp2_with fail
    go_ret
    exact ⟨rfl, rfl⟩
  · have h1 : ¬ n < 33 := by omega
    clear h
    go_enter Try.func34, Try.ntmps34
    go_wp2_with fail
    go_ret
    exact ⟨rfl, rfl⟩

theorem Try.zeroRow (w : World) : (zeroValue 43).run Try.prog w = .ok (.agg #[.string ⟨#[]⟩, .string ⟨#[]⟩]) w := by kernel_rfl
theorem rows_all : ((List.range 33).map fun n => Value.agg (rowsCells.extract (n * 2) (n * 2 + 2))) = (List.range 33).map fun n => Value.agg #[.string (nameOf n), .string (shapeOf n)] := by kernel_rfl
theorem rows_at (n : Nat) (h : n < 33) (w : World) : (Instr.index 48 (.agg rowsCells) (.int .i64 n)).run Try.prog w = .ok (.agg #[.string (nameOf n), .string (shapeOf n)]) w := by
  have h1 := congrArg (fun l => l[n]?) rows_all
  simp only [List.getElem?_map, List.getElem?_range h, Option.map_some, Option.some.injEq] at h1
  rw [← h1]
  generalize rowsCells = cs
  have h2 : (n : Int) < 33 := by omega
  simp [Instr.index, go_sem, h2]
  intro h3; omega

set_option maxHeartbeats 1000000 in
theorem of_yes (w : World) (n : Nat) (h : n < 33) : Calls Try.prog 28 #[.int .i64 n] w fun e w' => e = .returned (.agg #[.string (nameOf n), .string (shapeOf n)]) ∧ Fr no w w' := by
  have hix := rows_at n h
  generalize nameOf n = nm at *
  generalize shapeOf n = sh at *
  go_enter Try.func28, Try.ntmps28
  go_wp2_with fail
  refine (is_yes _ n h).mono ?_
  rintro e w' ⟨rfl, rfl⟩
  go_wp2_with fail
  refine (rows_ok _).mono ?_
  rintro e w1 ⟨rfl, r1⟩
  have R1 := Lib.hid (((Fr.refl no w).alloc _).trans r1)
  have hb := r1.heap (heap_new w (.cells #[.string ⟨#[]⟩, .string ⟨#[]⟩] 43)) (by simp)
  have c0 : w1.cell? ⟨w.heap.size, 0, none⟩ = some (.string ⟨#[]⟩) := cell_of_heap hb rfl
  have c1 : w1.cell? ⟨w.heap.size, 1, none⟩ = some (.string ⟨#[]⟩) := cell_of_heap hb rfl
  have z0 : w1.frozen? ⟨w.heap.size, 0, none⟩ = false := frozen_of_heap hb
  have z1 : w1.frozen? ⟨w.heap.size, 1, none⟩ = false := frozen_of_heap hb
  have HB := Lib.hid hb
  clear r1 hb
  go_wp2_with fail
  have hb2 := heap_setCell (o := 1) (v := .string sh) (heap_setCell (o := 0) (v := .string nm) HB.out)
  refine ⟨rfl, _, results_cell (ad := ⟨w.heap.size, 0, none⟩) rfl rfl (run_loadVar_row _ _ 43 43 #[.string nm, .string sh] (0, 0) _ (by simpa using hb2) Try.underlying43 rfl Try.infoRow), rfl, ?_⟩
  exact (R1.out.setCell _ _ (.inr (Nat.le_refl _))).setCell _ _ (.inr (Nat.le_refl _))

set_option maxHeartbeats 1000000 in
theorem of_no (w : World) (n : Int) (h : n < 0 ∨ 33 ≤ n) : Calls Try.prog 28 #[.int .i64 n] w fun e w' => e = .returned (.agg #[.string ⟨#[]⟩, .string ⟨#[]⟩]) ∧ Fr no w w' := by
  go_enter Try.func28, Try.ntmps28
  go_wp2_with fail
  refine (is_no _ n h).mono ?_
  rintro e w' ⟨rfl, rfl⟩
  go_wp2_with fail
  refine ⟨rfl, _, results_cell (ad := ⟨w.heap.size, 0, none⟩) rfl rfl (run_loadVar_row _ _ 43 43 #[.string ⟨#[]⟩, .string ⟨#[]⟩] (0, 0) _ (heap_new w _) Try.underlying43 rfl Try.infoRow), rfl, ?_⟩
  exact (Fr.refl no w).alloc _

/-- an operation's name and shape, of any number -/
def nameI (n : Int) : ByteArray := if 0 ≤ n ∧ n < 33 then nameOf n.toNat else ⟨#[]⟩
def shapeI (n : Int) : ByteArray := if 0 ≤ n ∧ n < 33 then shapeOf n.toNat else ⟨#[]⟩

theorem of_all (w : World) (n : Int) : Calls Try.prog 28 #[.int .i64 n] w fun e w' => e = .returned (.agg #[.string (nameI n), .string (shapeI n)]) ∧ Fr no w w' := by
  unfold nameI shapeI
  by_cases h : 0 ≤ n ∧ n < 33
  · rw [if_pos h, if_pos h]
    obtain ⟨m, rfl⟩ : ∃ m : Nat, n = m := ⟨n.toNat, by omega⟩
    exact of_yes w m (by omega)
  · rw [if_neg h, if_neg h]
    exact of_no w n (by omega)

theorem row_field0 (a b : Value) (w : World) : (Instr.field 43 (.agg #[a, b]) 0).run Try.prog w = .ok a w := by kernel_rfl
theorem row_field1 (a b : Value) (w : World) : (Instr.field 43 (.agg #[a, b]) 1).run Try.prog w = .ok b w := by kernel_rfl
attribute [local go_sem] row_field0 row_field1

theorem name_all (w : World) (n : Int) : Calls Try.prog 9 #[.int .i64 n] w fun e w' => e = .returned (.string (nameI n)) ∧ Fr no w w' := by
  have C := of_all w n
  generalize nameI n = nm at *
  generalize shapeI n = sh at *
  go_enter Try.func9, Try.ntmps9
  go_wp2_with fail
  refine C.mono ?_
  clear C
  rintro e w1 ⟨rfl, r1⟩
  have R1 := Lib.hid r1
  clear r1
  go_wp2_with fail
  go_ret
  exact ⟨rfl, R1.out⟩

theorem shape_all (w : World) (n : Int) : Calls Try.prog 11 #[.int .i64 n] w fun e w' => e = .returned (.string (shapeI n)) ∧ Fr no w w' := by
  have C := of_all w n
  generalize nameI n = nm at *
  generalize shapeI n = sh at *
  go_enter Try.func11, Try.ntmps11
  go_wp2_with fail
  refine C.mono ?_
  clear C
  rintro e w1 ⟨rfl, r1⟩
  have R1 := Lib.hid r1
  clear r1
  go_wp2_with fail
  go_ret
  exact ⟨rfl, R1.out⟩

/-! ### the document's names and shapes -/
theorem refis_all (w : World) (n : Int) : Calls Try.prog 29 #[.int .i64 n] w fun e w' => e = .returned (.bool (decide (0 ≤ n ∧ n < 33))) ∧ w = w' := by
  by_cases h0 : n < 0
  · have : Hid (decide (0 ≤ n ∧ n < 33) = false) := Lib.hid (decide_eq_false (by omega))
    rw [this.out]
    go_enter Try.func29, Try.ntmps29
    go_wp2_with fail
    go_ret
    exact ⟨rfl, rfl⟩
  by_cases h1 : n < 33
  · have : Hid (decide (0 ≤ n ∧ n < 33) = true) := Lib.hid (decide_eq_true (by omega))
    rw [this.out]
    go_enter Try.func29, Try.ntmps29
    go_wp2_with fail
    go_ret
    exact ⟨rfl, rfl⟩
  · have : Hid (decide (0 ≤ n ∧ n < 33) = false) := Lib.hid (decide_eq_false (by omega))
    rw [this.out]
    go_enter Try.func29, Try.ntmps29
    go_wp2_with fail
    go_ret
    exact ⟨rfl, rfl⟩

end Go.Proofs.Ytkgcfllbkjlfcaa

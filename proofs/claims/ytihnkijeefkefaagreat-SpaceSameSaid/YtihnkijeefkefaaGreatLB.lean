import Derived.Test.YtihnkijeefkefaaGreatLA
import Derived.Deep.WholeRow
import Derived.Deep.CutRange
import Derived.Deep.CutBlock
import Derived.Test.YtihnkijeefkefaaGreatShelf
import Derived.Lib.OthersKept
import Derived.Lib.AppendZeros
set_option linter.unusedSimpArgs false
set_option linter.unusedVariables false
set_option linter.unusedSectionVars false
set_option linter.unnecessarySimpa false
set_option maxRecDepth 100000
namespace Go.Proofs.YtihnkijeefkefaaGreat
open Go.RowKit

attribute [local go_sem] Program.isFuncB Program.isSliceB

variable {w w' w'' : World}

/-- the operations' names and shapes -/
def table : List (ByteArray × ByteArray) := [
  (⟨#[110, 111, 112]⟩, ⟨#[]⟩),
  (⟨#[99, 111, 110, 115, 116]⟩, ⟨#[119, 105]⟩),
  (⟨#[109, 111, 118]⟩, ⟨#[119, 114]⟩),
  (⟨#[97, 100, 100]⟩, ⟨#[119, 114, 114]⟩),
  (⟨#[115, 117, 98]⟩, ⟨#[119, 114, 114]⟩),
  (⟨#[109, 117, 108]⟩, ⟨#[119, 114, 114]⟩),
  (⟨#[100, 105, 118]⟩, ⟨#[119, 114, 114]⟩),
  (⟨#[100, 105, 118, 117]⟩, ⟨#[119, 114, 114]⟩),
  (⟨#[114, 101, 109]⟩, ⟨#[119, 114, 114]⟩),
  (⟨#[114, 101, 109, 117]⟩, ⟨#[119, 114, 114]⟩),
  (⟨#[97, 110, 100]⟩, ⟨#[119, 114, 114]⟩),
  (⟨#[111, 114]⟩, ⟨#[119, 114, 114]⟩),
  (⟨#[120, 111, 114]⟩, ⟨#[119, 114, 114]⟩),
  (⟨#[115, 104, 108]⟩, ⟨#[119, 114, 114]⟩),
  (⟨#[115, 104, 114]⟩, ⟨#[119, 114, 114]⟩),
  (⟨#[115, 97, 114]⟩, ⟨#[119, 114, 114]⟩),
  (⟨#[108, 116]⟩, ⟨#[119, 114, 114]⟩),
  (⟨#[108, 116, 117]⟩, ⟨#[119, 114, 114]⟩),
  (⟨#[101, 113]⟩, ⟨#[119, 114, 114]⟩),
  (⟨#[110, 101]⟩, ⟨#[119, 114, 114]⟩),
  (⟨#[101, 120, 116]⟩, ⟨#[119, 114, 107]⟩),
  (⟨#[108, 111, 97, 100]⟩, ⟨#[119, 114, 109]⟩),
  (⟨#[115, 116, 111, 114, 101]⟩, ⟨#[114, 114, 122]⟩),
  (⟨#[108, 101, 97]⟩, ⟨#[119, 102]⟩),
  (⟨#[100, 97, 116, 97]⟩, ⟨#[119, 100]⟩),
  (⟨#[106, 109, 112]⟩, ⟨#[116]⟩),
  (⟨#[98, 114, 122]⟩, ⟨#[114, 116]⟩),
  (⟨#[98, 114, 110, 122]⟩, ⟨#[114, 116]⟩),
  (⟨#[99, 97, 108, 108]⟩, ⟨#[119, 99, 108]⟩),
  (⟨#[114, 101, 116]⟩, ⟨#[114]⟩),
  (⟨#[103, 101, 116, 98]⟩, ⟨#[119]⟩),
  (⟨#[112, 117, 116, 98]⟩, ⟨#[114]⟩),
  (⟨#[101, 120, 105, 116]⟩, ⟨#[114]⟩)]

def rowsCells : Array Value := (table.flatMap fun x => [Value.string x.1, Value.string x.2]).toArray

theorem Tryz.zeroRows (w : World) : (zeroValue 245).run Tryz.prog w = .ok (.agg (Array.replicate 66 (.string ⟨#[]⟩))) w := by kernel_rfl
theorem Tryz.buildRow (n s : ByteArray) (w : World) : (Instr.build 230 #[(0, .string n), (1, .string s)]).run Tryz.prog w = .ok (.agg #[.string n, .string s]) w := by kernel_rfl
theorem Tryz.buildRows (w : World) : (Instr.build 245 #[(0, .agg #[.string ⟨#[110, 111, 112]⟩, .string ⟨#[]⟩]), (1, .agg #[.string ⟨#[99, 111, 110, 115, 116]⟩, .string ⟨#[119, 105]⟩]), (2, .agg #[.string ⟨#[109, 111, 118]⟩, .string ⟨#[119, 114]⟩]), (3, .agg #[.string ⟨#[97, 100, 100]⟩, .string ⟨#[119, 114, 114]⟩]), (4, .agg #[.string ⟨#[115, 117, 98]⟩, .string ⟨#[119, 114, 114]⟩]), (5, .agg #[.string ⟨#[109, 117, 108]⟩, .string ⟨#[119, 114, 114]⟩]), (6, .agg #[.string ⟨#[100, 105, 118]⟩, .string ⟨#[119, 114, 114]⟩]), (7, .agg #[.string ⟨#[100, 105, 118, 117]⟩, .string ⟨#[119, 114, 114]⟩]), (8, .agg #[.string ⟨#[114, 101, 109]⟩, .string ⟨#[119, 114, 114]⟩]), (9, .agg #[.string ⟨#[114, 101, 109, 117]⟩, .string ⟨#[119, 114, 114]⟩]), (10, .agg #[.string ⟨#[97, 110, 100]⟩, .string ⟨#[119, 114, 114]⟩]), (11, .agg #[.string ⟨#[111, 114]⟩, .string ⟨#[119, 114, 114]⟩]), (12, .agg #[.string ⟨#[120, 111, 114]⟩, .string ⟨#[119, 114, 114]⟩]), (13, .agg #[.string ⟨#[115, 104, 108]⟩, .string ⟨#[119, 114, 114]⟩]), (14, .agg #[.string ⟨#[115, 104, 114]⟩, .string ⟨#[119, 114, 114]⟩]), (15, .agg #[.string ⟨#[115, 97, 114]⟩, .string ⟨#[119, 114, 114]⟩]), (16, .agg #[.string ⟨#[108, 116]⟩, .string ⟨#[119, 114, 114]⟩]), (17, .agg #[.string ⟨#[108, 116, 117]⟩, .string ⟨#[119, 114, 114]⟩]), (18, .agg #[.string ⟨#[101, 113]⟩, .string ⟨#[119, 114, 114]⟩]), (19, .agg #[.string ⟨#[110, 101]⟩, .string ⟨#[119, 114, 114]⟩]), (20, .agg #[.string ⟨#[101, 120, 116]⟩, .string ⟨#[119, 114, 107]⟩]), (21, .agg #[.string ⟨#[108, 111, 97, 100]⟩, .string ⟨#[119, 114, 109]⟩]), (22, .agg #[.string ⟨#[115, 116, 111, 114, 101]⟩, .string ⟨#[114, 114, 122]⟩]), (23, .agg #[.string ⟨#[108, 101, 97]⟩, .string ⟨#[119, 102]⟩]), (24, .agg #[.string ⟨#[100, 97, 116, 97]⟩, .string ⟨#[119, 100]⟩]), (25, .agg #[.string ⟨#[106, 109, 112]⟩, .string ⟨#[116]⟩]), (26, .agg #[.string ⟨#[98, 114, 122]⟩, .string ⟨#[114, 116]⟩]), (27, .agg #[.string ⟨#[98, 114, 110, 122]⟩, .string ⟨#[114, 116]⟩]), (28, .agg #[.string ⟨#[99, 97, 108, 108]⟩, .string ⟨#[119, 99, 108]⟩]), (29, .agg #[.string ⟨#[114, 101, 116]⟩, .string ⟨#[114]⟩]), (30, .agg #[.string ⟨#[103, 101, 116, 98]⟩, .string ⟨#[119]⟩]), (31, .agg #[.string ⟨#[112, 117, 116, 98]⟩, .string ⟨#[114]⟩]), (32, .agg #[.string ⟨#[101, 120, 105, 116]⟩, .string ⟨#[114]⟩])]).run Tryz.prog w = .ok (.agg rowsCells) w := by kernel_rfl
theorem Tryz.infoRows : (Tryz.prog.info? 245).map (·.size) = some rowsCells.size := by kernel_rfl

theorem Tryz.infoRow : (Tryz.prog.info? 230).map (·.size) = some 2 := by kernel_rfl

attribute [local go_sem] Tryz.zeroRows

set_option maxRecDepth 100000 in
set_option maxHeartbeats 4000000 in
theorem rows_ok (w : World) : Calls Tryz.prog 230 #[] w fun e w' => e = .returned (.agg rowsCells) ∧ Fr no w w' := by
  have hst := run_storeAt_new (P := Tryz.prog) w 245 (Array.replicate 66 (.string ⟨#[]⟩)) rowsCells Tryz.infoRows (by kernel_rfl) (by kernel_rfl)
  have hld := run_loadVar_new (P := Tryz.prog) w 245 rowsCells 33 230 Tryz.underlying245 Tryz.infoRows
  go_enter Tryz.func230, Tryz.ntmps230
  go_upto_region 1 with (fail)
  refine wp_region_lit ?_
  refine wpList_still (still_build (v := .agg #[.string ⟨#[110, 111, 112]⟩, .string ⟨#[]⟩]) rfl rfl (Tryz.buildRow _ _)) ?_
  simp only [act_put, List.setIfInBounds_toArray, List.set_cons_zero, List.set_cons_succ]
  refine wpList_still (still_build (v := .agg #[.string ⟨#[99, 111, 110, 115, 116]⟩, .string ⟨#[119, 105]⟩]) rfl rfl (Tryz.buildRow _ _)) ?_
  simp only [act_put, List.setIfInBounds_toArray, List.set_cons_zero, List.set_cons_succ]
  refine wpList_still (still_build (v := .agg #[.string ⟨#[109, 111, 118]⟩, .string ⟨#[119, 114]⟩]) rfl rfl (Tryz.buildRow _ _)) ?_
  simp only [act_put, List.setIfInBounds_toArray, List.set_cons_zero, List.set_cons_succ]
  refine wpList_still (still_build (v := .agg #[.string ⟨#[97, 100, 100]⟩, .string ⟨#[119, 114, 114]⟩]) rfl rfl (Tryz.buildRow _ _)) ?_
  simp only [act_put, List.setIfInBounds_toArray, List.set_cons_zero, List.set_cons_succ]
  refine wpList_still (still_build (v := .agg #[.string ⟨#[115, 117, 98]⟩, .string ⟨#[119, 114, 114]⟩]) rfl rfl (Tryz.buildRow _ _)) ?_
  simp only [act_put, List.setIfInBounds_toArray, List.set_cons_zero, List.set_cons_succ]
  refine wpList_still (still_build (v := .agg #[.string ⟨#[109, 117, 108]⟩, .string ⟨#[119, 114, 114]⟩]) rfl rfl (Tryz.buildRow _ _)) ?_
  simp only [act_put, List.setIfInBounds_toArray, List.set_cons_zero, List.set_cons_succ]
  refine wpList_still (still_build (v := .agg #[.string ⟨#[100, 105, 118]⟩, .string ⟨#[119, 114, 114]⟩]) rfl rfl (Tryz.buildRow _ _)) ?_
  simp only [act_put, List.setIfInBounds_toArray, List.set_cons_zero, List.set_cons_succ]
  refine wpList_still (still_build (v := .agg #[.string ⟨#[100, 105, 118, 117]⟩, .string ⟨#[119, 114, 114]⟩]) rfl rfl (Tryz.buildRow _ _)) ?_
  simp only [act_put, List.setIfInBounds_toArray, List.set_cons_zero, List.set_cons_succ]
  refine wpList_still (still_build (v := .agg #[.string ⟨#[114, 101, 109]⟩, .string ⟨#[119, 114, 114]⟩]) rfl rfl (Tryz.buildRow _ _)) ?_
  simp only [act_put, List.setIfInBounds_toArray, List.set_cons_zero, List.set_cons_succ]
  refine wpList_still (still_build (v := .agg #[.string ⟨#[114, 101, 109, 117]⟩, .string ⟨#[119, 114, 114]⟩]) rfl rfl (Tryz.buildRow _ _)) ?_
  simp only [act_put, List.setIfInBounds_toArray, List.set_cons_zero, List.set_cons_succ]
  refine wpList_still (still_build (v := .agg #[.string ⟨#[97, 110, 100]⟩, .string ⟨#[119, 114, 114]⟩]) rfl rfl (Tryz.buildRow _ _)) ?_
  simp only [act_put, List.setIfInBounds_toArray, List.set_cons_zero, List.set_cons_succ]
  refine wpList_still (still_build (v := .agg #[.string ⟨#[111, 114]⟩, .string ⟨#[119, 114, 114]⟩]) rfl rfl (Tryz.buildRow _ _)) ?_
  simp only [act_put, List.setIfInBounds_toArray, List.set_cons_zero, List.set_cons_succ]
  refine wpList_still (still_build (v := .agg #[.string ⟨#[120, 111, 114]⟩, .string ⟨#[119, 114, 114]⟩]) rfl rfl (Tryz.buildRow _ _)) ?_
  simp only [act_put, List.setIfInBounds_toArray, List.set_cons_zero, List.set_cons_succ]
  refine wpList_still (still_build (v := .agg #[.string ⟨#[115, 104, 108]⟩, .string ⟨#[119, 114, 114]⟩]) rfl rfl (Tryz.buildRow _ _)) ?_
  simp only [act_put, List.setIfInBounds_toArray, List.set_cons_zero, List.set_cons_succ]
  refine wpList_still (still_build (v := .agg #[.string ⟨#[115, 104, 114]⟩, .string ⟨#[119, 114, 114]⟩]) rfl rfl (Tryz.buildRow _ _)) ?_
  simp only [act_put, List.setIfInBounds_toArray, List.set_cons_zero, List.set_cons_succ]
  refine wpList_still (still_build (v := .agg #[.string ⟨#[115, 97, 114]⟩, .string ⟨#[119, 114, 114]⟩]) rfl rfl (Tryz.buildRow _ _)) ?_
  simp only [act_put, List.setIfInBounds_toArray, List.set_cons_zero, List.set_cons_succ]
  refine wpList_still (still_build (v := .agg #[.string ⟨#[108, 116]⟩, .string ⟨#[119, 114, 114]⟩]) rfl rfl (Tryz.buildRow _ _)) ?_
  simp only [act_put, List.setIfInBounds_toArray, List.set_cons_zero, List.set_cons_succ]
  refine wpList_still (still_build (v := .agg #[.string ⟨#[108, 116, 117]⟩, .string ⟨#[119, 114, 114]⟩]) rfl rfl (Tryz.buildRow _ _)) ?_
  simp only [act_put, List.setIfInBounds_toArray, List.set_cons_zero, List.set_cons_succ]
  refine wpList_still (still_build (v := .agg #[.string ⟨#[101, 113]⟩, .string ⟨#[119, 114, 114]⟩]) rfl rfl (Tryz.buildRow _ _)) ?_
  simp only [act_put, List.setIfInBounds_toArray, List.set_cons_zero, List.set_cons_succ]
  refine wpList_still (still_build (v := .agg #[.string ⟨#[110, 101]⟩, .string ⟨#[119, 114, 114]⟩]) rfl rfl (Tryz.buildRow _ _)) ?_
  simp only [act_put, List.setIfInBounds_toArray, List.set_cons_zero, List.set_cons_succ]
  refine wpList_still (still_build (v := .agg #[.string ⟨#[101, 120, 116]⟩, .string ⟨#[119, 114, 107]⟩]) rfl rfl (Tryz.buildRow _ _)) ?_
  simp only [act_put, List.setIfInBounds_toArray, List.set_cons_zero, List.set_cons_succ]
  refine wpList_still (still_build (v := .agg #[.string ⟨#[108, 111, 97, 100]⟩, .string ⟨#[119, 114, 109]⟩]) rfl rfl (Tryz.buildRow _ _)) ?_
  simp only [act_put, List.setIfInBounds_toArray, List.set_cons_zero, List.set_cons_succ]
  refine wpList_still (still_build (v := .agg #[.string ⟨#[115, 116, 111, 114, 101]⟩, .string ⟨#[114, 114, 122]⟩]) rfl rfl (Tryz.buildRow _ _)) ?_
  simp only [act_put, List.setIfInBounds_toArray, List.set_cons_zero, List.set_cons_succ]
  refine wpList_still (still_build (v := .agg #[.string ⟨#[108, 101, 97]⟩, .string ⟨#[119, 102]⟩]) rfl rfl (Tryz.buildRow _ _)) ?_
  simp only [act_put, List.setIfInBounds_toArray, List.set_cons_zero, List.set_cons_succ]
  refine wpList_still (still_build (v := .agg #[.string ⟨#[100, 97, 116, 97]⟩, .string ⟨#[119, 100]⟩]) rfl rfl (Tryz.buildRow _ _)) ?_
  simp only [act_put, List.setIfInBounds_toArray, List.set_cons_zero, List.set_cons_succ]
  refine wpList_still (still_build (v := .agg #[.string ⟨#[106, 109, 112]⟩, .string ⟨#[116]⟩]) rfl rfl (Tryz.buildRow _ _)) ?_
  simp only [act_put, List.setIfInBounds_toArray, List.set_cons_zero, List.set_cons_succ]
  refine wpList_still (still_build (v := .agg #[.string ⟨#[98, 114, 122]⟩, .string ⟨#[114, 116]⟩]) rfl rfl (Tryz.buildRow _ _)) ?_
  simp only [act_put, List.setIfInBounds_toArray, List.set_cons_zero, List.set_cons_succ]
  refine wpList_still (still_build (v := .agg #[.string ⟨#[98, 114, 110, 122]⟩, .string ⟨#[114, 116]⟩]) rfl rfl (Tryz.buildRow _ _)) ?_
  simp only [act_put, List.setIfInBounds_toArray, List.set_cons_zero, List.set_cons_succ]
  refine wpList_still (still_build (v := .agg #[.string ⟨#[99, 97, 108, 108]⟩, .string ⟨#[119, 99, 108]⟩]) rfl rfl (Tryz.buildRow _ _)) ?_
  simp only [act_put, List.setIfInBounds_toArray, List.set_cons_zero, List.set_cons_succ]
  refine wpList_still (still_build (v := .agg #[.string ⟨#[114, 101, 116]⟩, .string ⟨#[114]⟩]) rfl rfl (Tryz.buildRow _ _)) ?_
  simp only [act_put, List.setIfInBounds_toArray, List.set_cons_zero, List.set_cons_succ]
  refine wpList_still (still_build (v := .agg #[.string ⟨#[103, 101, 116, 98]⟩, .string ⟨#[119]⟩]) rfl rfl (Tryz.buildRow _ _)) ?_
  simp only [act_put, List.setIfInBounds_toArray, List.set_cons_zero, List.set_cons_succ]
  refine wpList_still (still_build (v := .agg #[.string ⟨#[112, 117, 116, 98]⟩, .string ⟨#[114]⟩]) rfl rfl (Tryz.buildRow _ _)) ?_
  simp only [act_put, List.setIfInBounds_toArray, List.set_cons_zero, List.set_cons_succ]
  refine wpList_still (still_build (v := .agg #[.string ⟨#[101, 120, 105, 116]⟩, .string ⟨#[114]⟩]) rfl rfl (Tryz.buildRow _ _)) ?_
  simp only [act_put, List.setIfInBounds_toArray, List.set_cons_zero, List.set_cons_succ]
  refine wpList_still (still_build (v := .agg rowsCells) rfl rfl Tryz.buildRows) ?_
  simp only [act_put, List.setIfInBounds_toArray, List.set_cons_zero, List.set_cons_succ]
  refine wpList_store rfl rfl hst ?_
  rw [act_put_none]
  go_wp2_with fail
  refine ⟨rfl, .agg rowsCells, ?_, rfl, (Fr.refl no w).alloc _⟩
  exact results_cell (ad := ⟨w.heap.size, 0, none⟩) rfl rfl hld

/-! ### Name, Shape -/
def nameOf (n : Nat) : ByteArray := (table.getD n (⟨#[]⟩, ⟨#[]⟩)).1
def shapeOf (n : Nat) : ByteArray := (table.getD n (⟨#[]⟩, ⟨#[]⟩)).2

theorem is_yes (w : World) (n : Nat) (h : n < 33) : Calls Tryz.prog 186 #[.int .i64 n] w fun e w' => e = .returned (.bool true) ∧ w = w' := by
  have h1 : (n : Int) < 33 := by omega
  go_enter Tryz.func186, Tryz.ntmps186
  go_wp2_with fail
  go_ret
  exact ⟨rfl, rfl⟩
theorem is_no (w : World) (n : Int) (h : n < 0 ∨ 33 ≤ n) : Calls Tryz.prog 186 #[.int .i64 n] w fun e w' => e = .returned (.bool false) ∧ w = w' := by
  by_cases h0 : n < 0
  · clear h
    go_enter Tryz.func186, Tryz.ntmps186
    go_wp2_with fail
    go_ret
    exact ⟨rfl, rfl⟩
  · have h1 : ¬ n < 33 := by omega
    clear h
    go_enter Tryz.func186, Tryz.ntmps186
    go_wp2_with fail
    go_ret
    exact ⟨rfl, rfl⟩

theorem rows_all : ((List.range 33).map fun n => Value.agg (rowsCells.extract (n * 2) (n * 2 + 2))) = (List.range 33).map fun n => Value.agg #[.string (nameOf n), .string (shapeOf n)] := by kernel_rfl
theorem rows_at (n : Nat) (h : n < 33) (w : World) : (Instr.index 245 (.agg rowsCells) (.int .i64 n)).run Tryz.prog w = .ok (.agg #[.string (nameOf n), .string (shapeOf n)]) w := by
  have h1 := congrArg (fun l => l[n]?) rows_all
  simp only [List.getElem?_map, List.getElem?_range h, Option.map_some, Option.some.injEq] at h1
  rw [← h1]
  generalize rowsCells = cs
  have h2 : (n : Int) < 33 := by omega
  simp [Instr.index, go_sem]
  intro h3; omega

set_option maxHeartbeats 1000000 in
theorem of_yes (w : World) (n : Nat) (h : n < 33) : Calls Tryz.prog 212 #[.int .i64 n] w fun e w' => e = .returned (.agg #[.string (nameOf n), .string (shapeOf n)]) ∧ Fr no w w' := by
  have hix := rows_at n h
  generalize nameOf n = nm at *
  generalize shapeOf n = sh at *
  go_enter Tryz.func212, Tryz.ntmps212
  go_wp2_with fail
  refine (is_yes _ n h).mono ?_
  rintro e w' ⟨rfl, rfl⟩
  go_wp2_with fail
  refine (rows_ok _).mono ?_
  rintro e w1 ⟨rfl, r1⟩
  have R1 := Lib.hid (((Fr.refl no w).alloc _).trans r1)
  have hb := r1.heap (heap_new w (.cells #[.string ⟨#[]⟩, .string ⟨#[]⟩] 230)) (by simp)
  have c0 : w1.cell? ⟨w.heap.size, 0, none⟩ = some (.string ⟨#[]⟩) := cell_of_heap hb rfl
  have c1 : w1.cell? ⟨w.heap.size, 1, none⟩ = some (.string ⟨#[]⟩) := cell_of_heap hb rfl
  have z0 : w1.frozen? ⟨w.heap.size, 0, none⟩ = false := frozen_of_heap hb
  have z1 : w1.frozen? ⟨w.heap.size, 1, none⟩ = false := frozen_of_heap hb
  have HB := Lib.hid hb
  clear r1 hb
  go_wp2_with fail
  have hb2 := heap_setCell (o := 1) (v := .string sh) (heap_setCell (o := 0) (v := .string nm) HB.out)
  refine ⟨rfl, _, results_cell (ad := ⟨w.heap.size, 0, none⟩) rfl rfl (run_loadVar_row _ _ 230 230 #[.string nm, .string sh] (0, 0) _ (by simpa using hb2) Tryz.underlying230 rfl Tryz.infoRow), rfl, ?_⟩
  exact (R1.out.setCell _ _ (.inr (Nat.le_refl _))).setCell _ _ (.inr (Nat.le_refl _))

set_option maxHeartbeats 1000000 in
theorem of_no (w : World) (n : Int) (h : n < 0 ∨ 33 ≤ n) : Calls Tryz.prog 212 #[.int .i64 n] w fun e w' => e = .returned (.agg #[.string ⟨#[]⟩, .string ⟨#[]⟩]) ∧ Fr no w w' := by
  go_enter Tryz.func212, Tryz.ntmps212
  go_wp2_with fail
  refine (is_no _ n h).mono ?_
  rintro e w' ⟨rfl, rfl⟩
  go_wp2_with fail
  refine ⟨rfl, _, results_cell (ad := ⟨w.heap.size, 0, none⟩) rfl rfl (run_loadVar_row _ _ 230 230 #[.string ⟨#[]⟩, .string ⟨#[]⟩] (0, 0) _ (heap_new w _) Tryz.underlying230 rfl Tryz.infoRow), rfl, ?_⟩
  exact (Fr.refl no w).alloc _

/-- an operation's name and shape, of any number -/
def nameI (n : Int) : ByteArray := if 0 ≤ n ∧ n < 33 then nameOf n.toNat else ⟨#[]⟩
def shapeI (n : Int) : ByteArray := if 0 ≤ n ∧ n < 33 then shapeOf n.toNat else ⟨#[]⟩

theorem of_all (w : World) (n : Int) : Calls Tryz.prog 212 #[.int .i64 n] w fun e w' => e = .returned (.agg #[.string (nameI n), .string (shapeI n)]) ∧ Fr no w w' := by
  unfold nameI shapeI
  by_cases h : 0 ≤ n ∧ n < 33
  · rw [if_pos h, if_pos h]
    obtain ⟨m, rfl⟩ : ∃ m : Nat, n = m := ⟨n.toNat, by omega⟩
    exact of_yes w m (by omega)
  · rw [if_neg h, if_neg h]
    exact of_no w n (by omega)

theorem row_field0 (a b : Value) (w : World) : (Instr.field 230 (.agg #[a, b]) 0).run Tryz.prog w = .ok a w := by kernel_rfl
theorem row_field1 (a b : Value) (w : World) : (Instr.field 230 (.agg #[a, b]) 1).run Tryz.prog w = .ok b w := by kernel_rfl
attribute [local go_sem] row_field0 row_field1

theorem shape_all (w : World) (n : Int) : Calls Tryz.prog 191 #[.int .i64 n] w fun e w' => e = .returned (.string (shapeI n)) ∧ Fr no w w' := by
  have C := of_all w n
  generalize nameI n = nm at *
  generalize shapeI n = sh at *
  go_enter Tryz.func191, Tryz.ntmps191
  go_wp2_with fail
  refine C.mono ?_
  clear C
  rintro e w1 ⟨rfl, r1⟩
  have R1 := Lib.hid r1
  clear r1
  go_wp2_with fail
  go_ret
  exact ⟨rfl, R1.out⟩

/-! ### the document's names and shapes -/
end Go.Proofs.YtihnkijeefkefaaGreat

namespace Go.Proofs.YtihnkijeefkefaaGreat
open Go.RowKit

attribute [local go_sem] Program.isFuncB Program.isSliceB

variable {w w' w'' : World}

end Go.Proofs.YtihnkijeefkefaaGreat

namespace Go.Proofs.YtihnkijeefkefaaGreat
open Go.RowKit

attribute [local go_sem] Program.isFuncB Program.isSliceB

variable {w w' w'' w0 : World}

theorem Tryz.infoInt : (Tryz.prog.info? 3).map (fun i => (i.zero, i.size, i.bytes)) = some (some (.int .i64 0), 1, 8) := by kernel_rfl

def ints (l : List Int) : List Value := l.map (.int .i64)

/-- an instruction's registers, and which are read, by its shape's letters -/
def stepF (regs : List Int) (st : List Int × List Int × Int) (c : UInt8) : List Int × List Int × Int :=
  if c = 119 then (st.1 ++ [regs.getD st.1.length 0], st.2.1, regs.getD st.1.length 0)
  else if c = 114 then (st.1 ++ [regs.getD st.1.length 0], st.2.1 ++ [regs.getD st.1.length 0], st.2.2) else st
def fieldsOf (regs : List Int) (s : List UInt8) : List Int × List Int × Int := s.foldl (stepF regs) ([], [], -1)

structure FS (w0 w : World) (lb it : Nat) (A B C : Int) (s : ByteArray) (k : Nat) (x y : Value) (a r : List Int) : Prop where
  all : w.ownsRow w0.heap.size 3 1 x a.length (ints a)
  read : w.ownsRow w0.heap.size 3 1 y r.length (ints r)
  ap : ∀ k, x.ownBlock = some k → y.ownBlock ≠ some k
  l : w.heap[lb]? = some (.cells #[.int .i64 A, .int .i64 B, .int .i64 C] 3 (0, 0))
  iter : w.heap[it]? = some (.stringIter s k)
  fr : Fr (fun k => k = it ∨ w0.heap.size ≤ k) w0 w
  lt : lb < w0.heap.size ∧ it < w0.heap.size ∧ lb ≠ it

section
variable {lb it k : Nat} {A B C : Int} {s : ByteArray} {x y x' y' : Value} {a r : List Int}

theorem fr_iterAt {S : Nat → Prop} {s : ByteArray} {p : Nat} (h : Fr S w0 w) (hS : S it) : Fr S w0 (w.iterAt it s p) :=
  ⟨h.os, h.tape, h.output, by simp [World.iterAt, h.size], fun k hk hs => by
    have : it ≠ k := fun e => hs (e ▸ hS)
    rw [show (w.iterAt it s p).heap[k]? = w.heap[k]? from by simp [World.iterAt, Array.getElem?_setIfInBounds_ne this]]
    exact h.block k hk hs⟩

theorem FS.next (h : FS w0 w lb it A B C s k x y a r) : FS w0 (w.iterAt it s (k + 1)) lb it A B C s (k + 1) x y a r := by
  have hr : Fr (only [it]) w (w.iterAt it s (k + 1)) := fr_iterAt (Fr.refl _ _) (by simp)
  have h1 := h.lt
  exact ⟨owns_fr h.all hr (fun i hi => by have := (h.all.lt i hi).1; simp; omega), owns_fr h.read hr (fun i hi => by have := (h.read.lt i hi).1; simp; omega), h.ap,
    hr.heap h.l (by simp; omega), Lib.iterAt_heap _ _ _ _ _ h.iter, fr_iterAt h.fr (.inl rfl), h.lt⟩

theorem FS.new (h : FS w0 w lb it A B C s k x y a r) (o : Obj) : FS w0 (w.alloc o) lb it A B C s k x y a r := by
  have hr : Fr no w (w.alloc o) := (Fr.refl _ _).alloc o
  exact ⟨owns_fr h.all hr (by simp), owns_fr h.read hr (by simp), h.ap, hr.heap h.l (by simp), hr.heap h.iter (by simp), h.fr.trans hr.to, h.lt⟩

theorem FS.appA {n : Int} (h : FS w0 w lb it A B C s k x y a r) (ho : w'.ownsRow w0.heap.size 3 1 x' (a.length + 1) (ints a ++ [.int .i64 n])) (hg : w.grownBy w' x.ownBlock)
    (hb : ∀ k, x'.ownBlock = some k → x.ownBlock = some k ∨ k = w.heap.size) : FS w0 w' lb it A B C s k x' y (a ++ [n]) r := by
  have hr : Fr (fun k => x.ownBlock = some k) w w' := (Fr.refl _ w).grown hg (fun k hk => .inl hk)
  have h1 := h.lt
  refine ⟨by simpa [ints] using ho, owns_fr h.read hr (fun i hi he => h.ap i he hi), fun i hi he => ?_, hr.heap h.l (fun e => by have := (h.all.lt _ e).1; omega), hr.heap h.iter (fun e => by have := (h.all.lt _ e).1; omega),
    h.fr.trans (hr.mono fun i hi _ => .inr (h.all.lt i hi).1), h.lt⟩
  rcases hb i hi with h2 | rfl
  · exact h.ap i h2 he
  · have := (h.read.lt _ he).2; omega

theorem FS.appR {n : Int} (h : FS w0 w lb it A B C s k x y a r) (ho : w'.ownsRow w0.heap.size 3 1 y' (r.length + 1) (ints r ++ [.int .i64 n])) (hg : w.grownBy w' y.ownBlock)
    (hb : ∀ k, y'.ownBlock = some k → y.ownBlock = some k ∨ k = w.heap.size) : FS w0 w' lb it A B C s k x y' a (r ++ [n]) := by
  have hr : Fr (fun k => y.ownBlock = some k) w w' := (Fr.refl _ w).grown hg (fun k hk => .inl hk)
  have h1 := h.lt
  refine ⟨owns_fr h.all hr (fun i hi he => h.ap i hi he), by simpa [ints] using ho, fun i hi he => ?_, hr.heap h.l (fun e => by have := (h.read.lt _ e).1; omega), hr.heap h.iter (fun e => by have := (h.read.lt _ e).1; omega),
    h.fr.trans (hr.mono fun i hi _ => .inr (h.read.lt i hi).1), h.lt⟩
  rcases hb i he with h2 | rfl
  · exact h.ap i hi h2
  · have := (h.all.lt _ hi).2; omega
end

theorem fieldsOf_snoc (regs : List Int) (s : List UInt8) (c : UInt8) : fieldsOf regs (s ++ [c]) = stepF regs (fieldsOf regs s) c := by simp [fieldsOf]
theorem stepF_len (regs : List Int) (st : List Int × List Int × Int) (c : UInt8) : (stepF regs st c).1.length ≤ st.1.length + 1 ∧ (stepF regs st c).2.1.length ≤ st.2.1.length + 1 := by
  unfold stepF
  split
  · simp
  · split <;> simp
theorem fieldsOf_len (regs : List Int) : ∀ (n : Nat) (s : List UInt8), s.length = n → (fieldsOf regs s).1.length ≤ n ∧ (fieldsOf regs s).2.1.length ≤ n
  | 0, s, h => by rw [List.length_eq_zero_iff.1 h]; simp [fieldsOf]
  | n + 1, s, h => by
    have hne : s ≠ [] := by rintro rfl; simp at h
    rw [← List.dropLast_concat_getLast hne, fieldsOf_snoc]
    have ih := fieldsOf_len regs n s.dropLast (by simp [h])
    have := stepF_len regs (fieldsOf regs s.dropLast) (s.getLast hne)
    omega

theorem blen (s : ByteArray) : s.data.toList.length = s.size := by rw [Array.length_toList]; rfl
theorem blen_take (s : ByteArray) (k : Nat) (h : k ≤ s.size) : (s.data.toList.take k).length = k := by rw [List.length_take, blen]; omega
theorem btake_succ (s : ByteArray) (k : Nat) (h : k < s.size) : s.data.toList.take (k + 1) = s.data.toList.take k ++ [s[k]'h] := by
  rw [List.take_succ_eq_append_getElem (by rw [blen]; exact h)]; rfl

/-- how many bytes a string's iterator has ahead -/
def itLeft (w : World) (b : Nat) : Nat := match w.heap[b]? with | some (.stringIter s k) => s.size - k | _ => 0
theorem itLeft_at {w : World} {b k : Nat} {s : ByteArray} (h : w.heap[b]? = some (.stringIter s k)) : itLeft w b = s.size - k := by unfold itLeft; rw [h]

/-- what holds of every shape -/
structure ShapeOk (s : ByteArray) : Prop where
  ascii : ∀ k (h : k < s.size), (s[k]'h).toNat < 128
  size : s.size ≤ 3

theorem shape_okB : ((List.range 33).all fun n => decide ((shapeOf n).size ≤ 3) && (shapeOf n).data.toList.all fun c => decide (c.toNat < 128)) = true := by decide
theorem shape_ok (n : Int) : ShapeOk (shapeI n) := by
  unfold shapeI
  split
  · rename_i h
    have h1 := List.all_eq_true.1 shape_okB n.toNat (by simp; omega)
    simp only [Bool.and_eq_true, decide_eq_true_eq, List.all_eq_true] at h1
    refine ⟨fun k hk => ?_, h1.1⟩
    refine h1.2 _ ?_
    show (shapeOf n.toNat).data[k] ∈ _
    simp
  · exact ⟨fun k hk => by exact absurd hk (by simp [ByteArray.size]), by simp [ByteArray.size]⟩

end Go.Proofs.YtihnkijeefkefaaGreat

namespace Go.Proofs.YtihnkijeefkefaaGreat
open Go.RowKit

attribute [local go_sem] Program.isFuncB Program.isSliceB

variable {w w' w'' w0 : World}

/-- an instruction, as a value -/
def insV (o A B C N : Int) (args : Value) : Value := .agg #[.int .i64 o, .int .i64 A, .int .i64 B, .int .i64 C, .int .i64 N, args]

set_option maxRecDepth 100000 in
set_option maxHeartbeats 4000000 in
theorem fields_ok (w : World) (o A B C N : Int) (args : Value) : Calls Tryz.prog 188 #[insV o A B C N args] w fun e w' => ∃ x y,
    e = .returned (.tuple #[x, y, .int .i64 (fieldsOf [A, B, C] (shapeI o).data.toList).2.2]) ∧ Fr no w w' ∧
    w'.ownsRow w.heap.size 3 1 x (fieldsOf [A, B, C] (shapeI o).data.toList).1.length (ints (fieldsOf [A, B, C] (shapeI o).data.toList).1) ∧
    w'.ownsRow w.heap.size 3 1 y (fieldsOf [A, B, C] (shapeI o).data.toList).2.1.length (ints (fieldsOf [A, B, C] (shapeI o).data.toList).2.1) ∧ ∀ k, x.ownBlock = some k → y.ownBlock ≠ some k := by
  have hok := shape_ok o
  have HSH := Lib.hid (fun w => shape_all w o)
  generalize shapeI o = s at *
  have HOK := Lib.hid hok
  have hsz := hok.size
  clear hok
  unfold insV
  go_enter Tryz.func188, Tryz.ntmps188
  go_wp2_with fail
  refine (HSH.out _).mono ?_
  rintro e w3 ⟨rfl, r3⟩
  have ra : Fr no w w3 := (((Fr.refl no w).alloc _).alloc _).trans r3
  have hl := r3.heap (heap_new (w.alloc (.cells #[.int .i64 o, .int .i64 A, .int .i64 B, .int .i64 C, .int .i64 N, args] 112)) (.cells #[.int .i64 A, .int .i64 B, .int .i64 C] 3)) (by simp)
  simp only [World.size_alloc] at hl
  have hs3 := r3.size
  simp only [World.size_alloc] at hs3
  have RA := Lib.hid ra
  have HL := Lib.hid hl
  clear ra r3 hl
  go_wp2_with fail
  have fs0 : FS (w3.iter s 0) (w3.iter s 0) (w.heap.size + 1) w3.heap.size A B C s 0 (.slice none 0 0) (.slice none 0 0) (fieldsOf [A, B, C] (s.data.toList.take 0)).1 (fieldsOf [A, B, C] (s.data.toList.take 0)).2.1 := by
    have e : (w3.iter s 0).heap.size = w3.heap.size + 1 := World.size_alloc _ _
    exact ⟨World.ownsRow_nil _ _ _ _, World.ownsRow_nil _ _ _ _, (fun k hk => by cases hk), ((Fr.refl no w3).alloc _).heap HL.out (by simp), heap_new w3 _, Fr.refl _ _, by omega, by omega, by omega⟩
  have R4 : Hid (Fr no w (w3.iter s 0)) := Lib.hid (RA.out.alloc _)
  have HF0 := Lib.hid fs0
  have hs4 : (w3.iter s 0).heap.size = w3.heap.size + 1 := World.size_alloc _ _
  generalize w3.iter s 0 = w4 at *
  have HS4 := Lib.hid hs4
  generalize hlb : w.heap.size + 1 = lb at *
  generalize hit : w3.heap.size = itb at *
  have HLB := Lib.hid hlb
  have HIT := Lib.hid hit
  clear fs0 hs4 hs3 hlb hit
  go_loopw [2, 3, 4] (fun x y z wr => ∃ k : Nat, z = .int .i64 (fieldsOf [A, B, C] (s.data.toList.take k)).2.2 ∧ k ≤ s.size ∧ Hid (FS w4 wr lb itb A B C s k x y (fieldsOf [A, B, C] (s.data.toList.take k)).1 (fieldsOf [A, B, C] (s.data.toList.take k)).2.1)) (fun _ _ _ wr => itLeft wr itb)
  case atStart => exact ⟨0, rfl, by omega, HF0⟩
  case round =>
    obtain ⟨k, rfl, hk, hfs⟩ := hrel
    have hlen := fieldsOf_len [A, B, C] k (s.data.toList.take k) (blen_take s k hk)
    by_cases hks : k < s.size
    · have hnext : ∀ ty, (Instr.next (.pointer (some ⟨itb, 0, none⟩)) true ty).run Tryz.prog wr = .ok (.tuple #[.bool true, .int .i64 k, .int .i32 (s[k]'hks).toNat]) (wr.iterAt itb s (k + 1)) := fun ty =>
        Lib.run_next_ascii_at wr itb s k ty hfs.out.iter hks (HOK.out.ascii k hks)
      have hsnoc : fieldsOf [A, B, C] (s.data.toList.take (k + 1)) = stepF [A, B, C] (fieldsOf [A, B, C] (s.data.toList.take k)) (s[k]'hks) := by
        rw [btake_succ s k hks, fieldsOf_snoc]
      have HS5 := Lib.hid hfs.out.next
      have MK := Lib.hid hfs.out.iter
      obtain ⟨xa, xc, rfl⟩ := owns_shape hfs.out.all
      obtain ⟨ya, yc, rfl⟩ := owns_shape hfs.out.read
      generalize hst : fieldsOf [A, B, C] (s.data.toList.take k) = st at *
      obtain ⟨la, lr, lw⟩ := st
      dsimp only at hlen
      have ck : (wr.iterAt itb s (k + 1)).cell? ⟨lb, la.length, none⟩ = some (.int .i64 ([A, B, C].getD la.length 0)) := by
        refine cell_of_heap HS5.out.l ?_
        obtain h | h | h : la.length = 0 ∨ la.length = 1 ∨ la.length = 2 := by omega
        all_goals (rw [h]; rfl)
      have OA := Lib.hid (HS5.out.all.alloc (.cells #[.int .i64 ([A, B, C].getD la.length 0)] 3))
      have HSN := Lib.hid hsnoc
      have HST := Lib.hid hst
      have hl3 : la.length < 3 := by omega
      have hl3' : (la.length : Int) < 3 := by omega
      have hsz4 : w4.heap.size ≤ (wr.iterAt itb s (k + 1)).heap.size := HS5.out.fr.size
      have HZ4 := Lib.hid hsz4
      generalize wr.iterAt itb s (k + 1) = w5 at *
      generalize hn : [A, B, C].getD la.length 0 = n at *
      have HN := Lib.hid hn
      have hcs : ((s[k]'hks).toNat : Int) = 119 → s[k]'hks = 119 := fun e => by
        apply UInt8.toNat_inj.1
        have : (119 : UInt8).toNat = 119 := rfl
        omega
      have hcr : ((s[k]'hks).toNat : Int) = 114 → s[k]'hks = 114 := fun e => by
        apply UInt8.toNat_inj.1
        have : (114 : UInt8).toNat = 114 := rfl
        omega
      have HCS := Lib.hid hcs
      have HCR := Lib.hid hcr
      generalize hc : ((s[k]'hks).toNat : Int) = c at *
      have HC := Lib.hid hc
      clear hsnoc hst hcs hcr hc hn hsz4
      by_cases h119 : c = 119
      · subst h119
        have HSN2 : Hid (fieldsOf [A, B, C] (s.data.toList.take (k + 1)) = (la ++ [n], lr, n)) := Lib.hid (by rw [HSN.out, HCS.out rfl]; unfold stepF; rw [if_pos rfl]; simp only [HN.out])
        go_wp2_with (at_builtin; (refine wpList_append_at rfl (.tmp 34) _ 26 rfl w4.heap.size 3 (.int .i64 0) 1 8 Tryz.underlying26 Tryz.infoInt rfl (by decide) _ la.length _ rfl OA.out 1 [.int .i64 n] (reads_one _ _ _) int_one (by unfold maxLen; omega) (by omega) (by have := HZ4.out; simp; omega) ?_); intro ga gc w6 ho hg hb)
        have HS6 := Lib.hid ((HS5.out.new (.cells #[.int .i64 n] 3)).appA (x' := .slice ga (la.length + 1) gc) (n := n) ho hg hb)
        clear ho hg hb ck
        go_roundw
        case rel => exact ⟨k + 1, by rw [HSN2.out], by omega, by rw [HSN2.out]; exact HS6⟩
        case measure => rw [itLeft_at HS6.out.iter, itLeft_at MK.out]; omega
      by_cases h114 : c = 114
      · subst h114
        have HSN2 : Hid (fieldsOf [A, B, C] (s.data.toList.take (k + 1)) = (la ++ [n], lr ++ [n], lw)) := Lib.hid (by rw [HSN.out, HCR.out rfl]; unfold stepF; rw [if_neg (by decide), if_pos rfl]; simp only [HN.out])
        go_wp2_with (at_builtin; first
          | ((refine wpList_append_at rfl (.tmp 34) _ 26 rfl w4.heap.size 3 (.int .i64 0) 1 8 Tryz.underlying26 Tryz.infoInt rfl (by decide) _ la.length _ rfl OA.out 1 [.int .i64 n] (reads_one _ _ _) int_one (by unfold maxLen; omega) (by omega) (by have := HZ4.out; simp; omega) ?_); intro ga gc w6 ho hg hb; go_must (have HS6 := Lib.hid ((HS5.out.new (.cells #[.int .i64 n] 3)).appA (x' := .slice ga (la.length + 1) gc) (n := n) ho hg hb)); go_must (have OR := Lib.hid (HS6.out.read.alloc (.cells #[.int .i64 n] 3))); clear ho hg hb)
          | ((refine wpList_append_at rfl (.tmp 41) _ 26 rfl w4.heap.size 3 (.int .i64 0) 1 8 Tryz.underlying26 Tryz.infoInt rfl (by decide) _ lr.length _ rfl OR.out 1 [.int .i64 n] (reads_one _ _ _) int_one (by unfold maxLen; omega) (by omega) (by have := HS6.out.fr.size; simp; omega) ?_); intro ga2 gc2 w7 ho hg hb; go_must (have HS7 := Lib.hid ((HS6.out.new (.cells #[.int .i64 n] 3)).appR (y' := .slice ga2 (lr.length + 1) gc2) (n := n) ho hg hb)); clear ho hg hb))
        go_roundw
        case rel => exact ⟨k + 1, by rw [HSN2.out], by omega, by rw [HSN2.out]; exact HS7⟩
        case measure => rw [itLeft_at HS7.out.iter, itLeft_at MK.out]; omega
      · have HSN2 : Hid (fieldsOf [A, B, C] (s.data.toList.take (k + 1)) = (la, lr, lw)) := Lib.hid (by
          have h1 : ¬ s[k]'hks = 119 := fun e => h119 (by rw [← HC.out, e]; rfl)
          have h2 : ¬ s[k]'hks = 114 := fun e => h114 (by rw [← HC.out, e]; rfl)
          rw [HSN.out]; unfold stepF; rw [if_neg h1, if_neg h2])
        have e1 : (c != 119) = true := by simpa using h119
        have e2 : (c != 114) = true := by simpa using h114
        clear ck h119 h114
        go_wp2_with fail
        go_roundw
        case rel => exact ⟨k + 1, by rw [HSN2.out], by omega, by rw [HSN2.out]; exact HS5⟩
        case measure => rw [itLeft_at HS5.out.iter, itLeft_at MK.out]; omega
    · obtain rfl : k = s.size := by omega
      have hnext : ∀ ty, (Instr.next (.pointer (some ⟨itb, 0, none⟩)) true ty).run Tryz.prog wr = .ok (.tuple #[.bool false]) wr := fun ty =>
        Lib.run_next_end_at wr itb s s.size ty hfs.out.iter (by omega)
      obtain ⟨xa, xc, rfl⟩ := owns_shape hfs.out.all
      obtain ⟨ya, yc, rfl⟩ := owns_shape hfs.out.read
      have hall : s.data.toList.take s.size = s.data.toList := by rw [← blen, List.take_length]
      have hfs2 := hfs.out
      rw [hall] at hfs2 ⊢
      have HFS := Lib.hid hfs2
      clear hall hlen hfs2 hfs
      go_wp2_with fail
      go_ret3
      refine ⟨_, _, rfl, ?_, owns_base HFS.out.all (fun k hk => ?_), owns_base HFS.out.read (fun k hk => ?_), HFS.out.ap⟩
      · exact R4.out.trans' HFS.out.fr (fun k hk _ => by have := R4.out.size; have := RA.out.size; have := HIT.out; omega)
      · have := (HFS.out.all.lt k hk).1; have := R4.out.size; omega
      · have := (HFS.out.read.lt k hk).1; have := R4.out.size; omega

end Go.Proofs.YtihnkijeefkefaaGreat

namespace Go.Proofs.YtihnkijeefkefaaGreat
open Go.RowKit

attribute [local go_sem] Program.isFuncB Program.isSliceB

variable {w w' w'' w0 : World}

theorem insObj (w : World) (o A B C N : Int) (args : Value) : (w.alloc (.cells #[.int .i64 o, .int .i64 A, .int .i64 B, .int .i64 C, .int .i64 N, args] 112)).heap[w.heap.size]? = some (.cells #[.int .i64 o, .int .i64 A, .int .i64 B, .int .i64 C, .int .i64 N, args] 112 (0, 0)) := heap_new _ _

def sh (o : Int) : List UInt8 := (shapeI o).data.toList
def hasB (s : List UInt8) (c : UInt8) : Bool := decide (0 ≤ Lib.indexByte s c)

theorem is_all (w : World) (n : Int) : Calls Tryz.prog 186 #[.int .i64 n] w fun e w' => e = .returned (.bool (decide (0 ≤ n ∧ n < 33))) ∧ w = w' := by
  by_cases h : 0 ≤ n ∧ n < 33
  · rw [decide_eq_true h]
    obtain ⟨m, rfl⟩ : ∃ m : Nat, n = m := ⟨n.toNat, by omega⟩
    exact is_yes w m (by omega)
  · rw [decide_eq_false h]
    exact is_no w n (by omega)
end Go.Proofs.YtihnkijeefkefaaGreat

namespace Go.Proofs.YtihnkijeefkefaaGreat
open Go.RowKit

attribute [local go_sem] Program.isFuncB Program.isSliceB

variable {w w' w'' w0 : World}

theorem reads_plain {v : Value} {x : Int} {l : List Int} (h : Reads w v 1 (x :: l).length (ints (x :: l))) : ∃ b o c, v = .slice (some ⟨b, o, none⟩) (x :: l).length c ∧ ∀ j, j < (x :: l).length → w.cell? ⟨b, o + j, none⟩ = some (.int .i64 ((x :: l).getD j 0)) := by
  obtain ⟨sa, c, rfl⟩ := h.shape
  obtain ⟨b, o, rfl, _⟩ := h.at1 (k := 0) (u := .int .i64 x) (by simp [ints])
  refine ⟨b, o, c, rfl, fun j hj => ?_⟩
  obtain ⟨b', o', e, hc⟩ := h.at1 (k := j) (u := .int .i64 ((x :: l).getD j 0)) (by simp only [ints, List.getElem?_map]; rw [List.getElem?_eq_getElem hj, List.getD_eq_getElem?_getD, List.getElem?_eq_getElem hj]; rfl)
  cases e
  exact hc

theorem equal_all (w : World) (u v : Value) (l m : List Int) (hu : Reads w u 1 l.length (ints l)) (hv : Reads w v 1 m.length (ints m)) (hl : l.length ≤ 9223372036854775807) (hm : m.length ≤ 9223372036854775807) :
    Calls Tryz.prog 200 #[u, v] w fun e w' => e = .returned (.bool (decide (l = m))) ∧ ∃ q, w' = w.drewN q := by
  by_cases hne : l.length = m.length
  · cases l with
    | nil =>
      have hm0 : m = [] := List.length_eq_zero_iff.1 (by simpa using hne.symm)
      subst hm0
      obtain ⟨a, c, rfl⟩ := hu.shape
      obtain ⟨a', c', rfl⟩ := hv.shape
      refine (Tryz.slices_Equal_int_empty a a' c 0 c' w (by omega)).mono ?_
      rintro e w' ⟨rfl, rfl⟩
      exact ⟨rfl, 0, rfl⟩
    | cons x l =>
      cases m with
      | nil => simp at hne
      | cons y m =>
        obtain ⟨b, o, c, rfl, h1⟩ := reads_plain hu
        obtain ⟨b', o', c', rfl, h2⟩ := reads_plain hv
        refine (Tryz.slices_Equal_int b o _ c b' o' _ c' (x :: l) (y :: m) w (Nat.le_refl _) (Nat.le_refl _) hl hm h1 h2).mono ?_
        rintro e w' ⟨rfl, h⟩
        refine ⟨?_, h⟩
        rw [List.take_length, List.take_length]
        congr 2
        rw [Bool.eq_iff_iff]; simp
  · obtain ⟨a, c, rfl⟩ := hu.shape
    obtain ⟨a', c', rfl⟩ := hv.shape
    refine (Tryz.slices_Equal_int_lens a a' _ c _ c' w hne).mono ?_
    rintro e w' ⟨rfl, rfl⟩
    exact ⟨by rw [decide_eq_false (fun e => hne (by rw [e]))], 0, rfl⟩

set_option maxHeartbeats 1000000 in
theorem same_ok (w : World) (o A B C N o' A' B' C' N' : Int) (u v : Value) (l m : List Int) (hu : Reads w u 1 l.length (ints l)) (hv : Reads w v 1 m.length (ints m)) (hl : l.length ≤ 9223372036854775807) (hm : m.length ≤ 9223372036854775807) :
    Calls Tryz.prog 178 #[insV o A B C N u, insV o' A' B' C' N' v] w fun e w' => e = .returned (.bool (decide (o = o' ∧ A = A' ∧ B = B' ∧ C = C' ∧ N = N' ∧ l = m))) ∧ Fr no w w' := by
  unfold insV
  have r : Fr no w ((w.alloc (.cells #[.int .i64 o, .int .i64 A, .int .i64 B, .int .i64 C, .int .i64 N, u] 112)).alloc (.cells #[.int .i64 o', .int .i64 A', .int .i64 B', .int .i64 C', .int .i64 N', v] 112)) := ((Fr.refl no w).alloc _).alloc _
  have HE := Lib.hid (equal_all _ u v l m (hu.fr r (by simp)) (hv.fr r (by simp)) hl hm)
  have R := Lib.hid r
  obtain ⟨ua, uc, rfl⟩ := hu.shape
  obtain ⟨va, vc, rfl⟩ := hv.shape
  clear hu hv r
  by_cases h1 : o = o'
  case neg =>
    have hd : Hid (decide (o = o' ∧ A = A' ∧ B = B' ∧ C = C' ∧ N = N' ∧ l = m) = false) := Lib.hid (decide_eq_false (fun h => h1 h.1))
    have e1 : (o == o') = false := by rw [beq_eq_false_iff_ne]; exact h1
    rw [hd.out]
    clear h1
    go_enter Tryz.func178, Tryz.ntmps178
    go_wp2_with fail
    go_ret
    exact ⟨rfl, R.out⟩
  subst h1
  by_cases h1 : A = A'
  case neg =>
    have hd : Hid (decide (o = o ∧ A = A' ∧ B = B' ∧ C = C' ∧ N = N' ∧ l = m) = false) := Lib.hid (decide_eq_false (fun h => h1 h.2.1))
    have e1 : (A == A') = false := by rw [beq_eq_false_iff_ne]; exact h1
    rw [hd.out]
    clear h1
    go_enter Tryz.func178, Tryz.ntmps178
    go_wp2_with fail
    go_ret
    exact ⟨rfl, R.out⟩
  subst h1
  by_cases h1 : B = B'
  case neg =>
    have hd : Hid (decide (o = o ∧ A = A ∧ B = B' ∧ C = C' ∧ N = N' ∧ l = m) = false) := Lib.hid (decide_eq_false (fun h => h1 h.2.2.1))
    have e1 : (B == B') = false := by rw [beq_eq_false_iff_ne]; exact h1
    rw [hd.out]
    clear h1
    go_enter Tryz.func178, Tryz.ntmps178
    go_wp2_with fail
    go_ret
    exact ⟨rfl, R.out⟩
  subst h1
  by_cases h1 : C = C'
  case neg =>
    have hd : Hid (decide (o = o ∧ A = A ∧ B = B ∧ C = C' ∧ N = N' ∧ l = m) = false) := Lib.hid (decide_eq_false (fun h => h1 h.2.2.2.1))
    have e1 : (C == C') = false := by rw [beq_eq_false_iff_ne]; exact h1
    rw [hd.out]
    clear h1
    go_enter Tryz.func178, Tryz.ntmps178
    go_wp2_with fail
    go_ret
    exact ⟨rfl, R.out⟩
  subst h1
  by_cases h1 : N = N'
  case neg =>
    have hd : Hid (decide (o = o ∧ A = A ∧ B = B ∧ C = C ∧ N = N' ∧ l = m) = false) := Lib.hid (decide_eq_false (fun h => h1 h.2.2.2.2.1))
    have e1 : (N == N') = false := by rw [beq_eq_false_iff_ne]; exact h1
    rw [hd.out]
    clear h1
    go_enter Tryz.func178, Tryz.ntmps178
    go_wp2_with fail
    go_ret
    exact ⟨rfl, R.out⟩
  subst h1
  have hd : Hid (decide (o = o ∧ A = A ∧ B = B ∧ C = C ∧ N = N ∧ l = m) = decide (l = m)) := Lib.hid (by simp)
  rw [hd.out]
  generalize decide (l = m) = b at *
  go_enter Tryz.func178, Tryz.ntmps178
  go_wp2_with fail
  refine HE.out.mono ?_
  rintro e w' ⟨rfl, q, hq⟩
  have R2 := Lib.hid (R.out.trans (show Fr no _ w' from by rw [hq]; exact (Fr.refl _ _).drewN q))
  clear hq
  go_wp2_with fail
  go_ret
  exact ⟨rfl, R2.out⟩

end Go.Proofs.YtihnkijeefkefaaGreat

namespace Go.Proofs.YtihnkijeefkefaaGreat
open Go.RowKit

attribute [local go_sem] Program.isFuncB Program.isSliceB

variable {w w' w'' w0 : World}

theorem infoInt' : Tryz.prog.info? 3 = some { (Tryz.prog.info? 3).get! with zero := some (.int .i64 0), size := 1, bytes := 8 } := by kernel_rfl

set_option maxRecDepth 100000 in
set_option maxHeartbeats 1000000 in
theorem grow_nil (w : World) (n : Nat) (hn : n ≤ 1000000) : Calls Tryz.prog 211 #[.slice none 0 0, .int .i64 n] w fun e w' => ∃ v, e = .returned v ∧ w'.ownsRow w.heap.size 3 1 v 0 [] ∧ Fr no w w' := by
  by_cases h0 : n = 0
  · subst h0
    go_enter Tryz.func211, Tryz.ntmps211
    go_wp2_with fail
    go_ret
    exact ⟨_, rfl, World.ownsRow_nil _ _ _ _, Fr.refl _ _⟩
  · have hpos : (0 : Int) < n := by omega
    have hneg : ¬ (n : Int) < 0 := by omega
    have hap := Lib.run_append_nil_zeros (P := Tryz.prog) w 26 3 26 3 _ (.int .i64 0) .i64 .i64 Tryz.underlying26 Tryz.underlying3 infoInt' rfl n (by omega) (by decide) (by omega) (by show n * 8 ≤ _; omega)
    have hge := grownCap_ge w n 0 3
    have hcm := grownCap_le_maxLen w n 0 3 (by unfold maxLen; omega)
    have hcm' : grownCap w n 0 3 ≤ 9223372036854775807 := by unfold maxLen at hcm; omega
    have hfr : Fr no w (w.drew.alloc (.cells (Builtin.zeroCells (Value.int .i64 0).cells n ++ Builtin.zeroCells (Value.int .i64 0).cells (grownCap w n 0 3 - n)) 3)) := ((Fr.refl no w).drew).alloc _
    have hob := heap_new w.drew (.cells (Builtin.zeroCells (Value.int .i64 0).cells n ++ Builtin.zeroCells (Value.int .i64 0).cells (grownCap w n 0 3 - n)) 3)
    have hsz : (Builtin.zeroCells (Value.int .i64 0).cells n ++ Builtin.zeroCells (Value.int .i64 0).cells (grownCap w n 0 3 - n)).size = grownCap w n 0 3 := by
      rw [Array.size_append, size_zeroCells, size_zeroCells]
      show n * 1 + (_ - n) * 1 = _
      omega
    generalize w.drew.alloc (.cells (Builtin.zeroCells (Value.int .i64 0).cells n ++ Builtin.zeroCells (Value.int .i64 0).cells (grownCap w n 0 3 - n)) 3) = w1 at *
    generalize Builtin.zeroCells (Value.int .i64 0).cells n ++ Builtin.zeroCells (Value.int .i64 0).cells (grownCap w n 0 3 - n) = cur at *
    generalize grownCap w n 0 3 = cap at *
    have OWN : Hid (w1.ownsRow w.heap.size 3 1 (.slice (some ⟨w.heap.size, 0, none⟩) 0 cap) 0 []) := Lib.hid ⟨rfl, .inr ⟨w.heap.size, cap, cur, rfl, Nat.le_refl _, hob, Nat.zero_le _, hcm, by omega, by simp⟩⟩
    have HFR := Lib.hid hfr
    have HAP := Lib.hid hap
    clear hob hfr hcm hsz hap h0
    go_enter Tryz.func211, Tryz.ntmps211
    go_wp2_with (at_builtin; refine Lib.wpList_append_run _ rfl _ _ 26 3 rfl _ _ rfl rfl _ _ HAP.out ?_)
    go_ret
    exact ⟨_, rfl, OWN.out, HFR.out⟩

end Go.Proofs.YtihnkijeefkefaaGreat

namespace Go.Proofs.YtihnkijeefkefaaGreat
open Go.RowKit

attribute [local go_sem] Program.isFuncB Program.isSliceB

variable {w w' w'' w0 : World}

theorem ints_one' (l : List Int) : ∀ u ∈ ints l, u.oneCell' = true := by
  intro u hu; simp only [ints, List.mem_map] at hu; obtain ⟨x, _, rfl⟩ := hu; rfl

set_option maxHeartbeats 2000000 in
theorem concat2 (w : World) (cb : Nat) (u v : Value) (l m : List Int) (hc : w.heap[cb]? = some (.cells #[u, v] 26 (0, 0))) (hu : Reads w u 1 l.length (ints l)) (hv : Reads w v 1 m.length (ints m)) (hl : l.length ≤ 100000) (hm : m.length ≤ 100000) :
    Calls Tryz.prog 189 #[.slice (some ⟨cb, 0, none⟩) 2 2] w fun e w' => ∃ x, e = .returned x ∧ w'.ownsRow w.heap.size 3 1 x (l ++ m).length (ints (l ++ m)) ∧ Fr no w w' := by
  obtain ⟨ua, uc, rfl⟩ := hu.shape
  obtain ⟨va, vc, rfl⟩ := hv.shape
  have k0 : w.cell? ⟨cb, 0, none⟩ = some (.slice ua l.length uc) := cell_of_heap hc rfl
  have k1 : w.cell? ⟨cb, 1, none⟩ = some (.slice va m.length vc) := cell_of_heap hc rfl
  have HU := Lib.hid hu
  have HV := Lib.hid hv
  have K0 := Lib.hid k0
  have K1 := Lib.hid k1
  clear hc hu hv
  go_enter Tryz.func189, Tryz.ntmps189
  go_wp2_with fail
  go_loopw [3, 11] (fun x z wr => ((x = .int .i64 0 ∧ z = .int .i64 0) ∨ (x = .int .i64 l.length ∧ z = .int .i64 1) ∨ (x = .int .i64 (l.length + m.length : Nat) ∧ z = .int .i64 2)) ∧ wr = w) (fun _ z _ => (2 - intOf z).toNat)
  case atStart => exact ⟨.inl ⟨rfl, rfl⟩, rfl⟩
  case round =>
    obtain ⟨⟨rfl, rfl⟩ | ⟨rfl, rfl⟩ | ⟨rfl, rfl⟩, rfl⟩ := hrel
    · have hlt : ¬ (l.length : Int) < 0 := by omega
      go_wp2_with fail
      go_roundw
      case rel => exact ⟨.inr (.inl ⟨rfl, rfl⟩), by trivial⟩
      case measure => simp [intOf]
    · have hlt : ¬ ((l.length : Int) + m.length) < 0 := by omega
      go_wp2_with fail
      go_roundw
      case rel => exact ⟨.inr (.inr ⟨by go_num, rfl⟩), by trivial⟩
      case measure => simp [intOf]
    · clear k0 k1
      obtain ⟨wz, hwz⟩ : ∃ x, x = wr := ⟨_, rfl⟩
      subst hwz
      go_wp2_with fail
      refine (grow_nil _ _ (by omega)).mono ?_
      rintro e w1 ⟨nv, rfl, ho, r1⟩
      have HO := Lib.hid ho
      have R1 := Lib.hid r1
      clear ho r1
      go_wp2_with fail
      go_loopw [6, 27] (fun x z w2 => ∃ (k : Nat) (acc : List Int), z = .int .i64 k ∧ (k = 0 ∧ acc = [] ∨ k = 1 ∧ acc = l ∨ k = 2 ∧ acc = l ++ m) ∧ Hid (w2.ownsRow wz.heap.size 3 1 x acc.length (ints acc)) ∧ Hid (Fr no wz w2)) (fun _ z _ => (2 - intOf z).toNat)
      case atStart => exact ⟨0, [], rfl, .inl ⟨rfl, rfl⟩, HO, R1⟩
      case round =>
        obtain ⟨k, acc, rfl, hk, hown, hfr⟩ := hrel
        obtain ⟨xa, xc, rfl⟩ := owns_shape hown.out
        rcases hk with ⟨rfl, rfl⟩ | ⟨rfl, rfl⟩ | ⟨rfl, rfl⟩
        · have c0 := hfr.out.cell K0.out (by simp)
          have HS := Lib.hid (HU.out.fr hfr.out (by simp))
          go_wp2_with (at_builtin; (refine wpList_append_at rfl _ _ 26 rfl wz.heap.size 3 (.int .i64 0) 1 8 Tryz.underlying26 Tryz.infoInt rfl (by decide) _ 0 _ rfl hown.out l.length _ HS.out (ints_one' l) (by unfold maxLen; omega) (by omega) hfr.out.size ?_); intro ga gc w6 ho hg hb)
          have HO2 : Hid (w6.ownsRow wz.heap.size 3 1 (.slice ga l.length gc) l.length (ints l)) := Lib.hid (by simpa [ints] using ho)
          have R6 := Lib.hid (hfr.out.trans' ((Fr.refl (fun k => (Value.slice xa 0 xc).ownBlock = some k) wr).grown hg (fun k hk => .inl hk)) (fun k hk _ => (hown.out.lt k hk).1))
          clear ho hg hb c0
          go_roundw
          case rel => exact ⟨1, l, rfl, .inr (.inl ⟨rfl, rfl⟩), HO2, R6⟩
          case measure => simp [intOf]
        · have c0 := hfr.out.cell K1.out (by simp)
          have HS := Lib.hid (HV.out.fr hfr.out (by simp))
          go_wp2_with (at_builtin; (refine wpList_append_at rfl _ _ 26 rfl wz.heap.size 3 (.int .i64 0) 1 8 Tryz.underlying26 Tryz.infoInt rfl (by decide) _ _ _ rfl hown.out m.length _ HS.out (ints_one' m) (by unfold maxLen; omega) (by omega) hfr.out.size ?_); intro ga gc w6 ho hg hb)
          have HO2 : Hid (w6.ownsRow wz.heap.size 3 1 (.slice ga (acc.length + m.length) gc) (acc ++ m).length (ints (acc ++ m))) := Lib.hid (by simpa [ints] using ho)
          have R6 := Lib.hid (hfr.out.trans' ((Fr.refl (fun k => (Value.slice xa acc.length xc).ownBlock = some k) wr).grown hg (fun k hk => .inl hk)) (fun k hk _ => (hown.out.lt k hk).1))
          clear ho hg hb c0
          go_roundw
          case rel => exact ⟨2, acc ++ m, rfl, .inr (.inr ⟨rfl, rfl⟩), HO2, R6⟩
          case measure => simp [intOf]
        · go_wp2_with fail
          go_ret
          exact ⟨_, rfl, hown.out, hfr.out⟩

end Go.Proofs.YtihnkijeefkefaaGreat

namespace Go.Proofs.YtihnkijeefkefaaGreat
open Go.RowKit

attribute [local go_sem] Program.isFuncB Program.isSliceB

variable {w w' w'' w0 : World}

theorem fields_few (o A B C : Int) : (fieldsOf [A, B, C] (sh o)).1.length ≤ 3 ∧ (fieldsOf [A, B, C] (sh o)).2.1.length ≤ 3 := by
  have h := fieldsOf_len [A, B, C] (sh o).length (sh o) rfl
  have h2 : (sh o).length ≤ 3 := by unfold sh; rw [blen]; exact (shape_ok o).size
  omega

end Go.Proofs.YtihnkijeefkefaaGreat

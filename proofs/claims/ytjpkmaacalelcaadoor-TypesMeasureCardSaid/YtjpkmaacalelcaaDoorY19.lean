/- A type in memory of its own: the kit's and the document's (law24). -/
import Derived.Test.YtjpkmaacalelcaaDoorY16
set_option linter.unusedSimpArgs false
set_option linter.unusedVariables false
set_option linter.unusedSectionVars false
set_option linter.unnecessarySimpa false
set_option maxRecDepth 100000
namespace Go.Proofs.YtjpkmaacalelcaaDoor
open Go.RowKit Go.Ty Go.Deep

attribute [local go_sem] Program.isFuncB Program.isSliceB

variable {w w' w'' w0 : World}

theorem ints1 (l : List Int) : ∀ u ∈ ints l, u.oneCell' = true := by
  intro u hu
  unfold ints at hu
  obtain ⟨x, _, rfl⟩ := List.mem_map.1 hu
  rfl

set_option maxHeartbeats 1000000 in
theorem copyt_ok (w : World) (t : Ty) (ma : Option Addr) (mc : Nat) (hm : TIn w ma mc t.ms) (hl : t.ms.length ≤ 100000) :
    Calls Tryd.prog 11 #[.agg #[.int .i64 t.b, .int .i64 t.s, .slice ma t.ms.length mc]] w fun e w' => ∃ a c, e = .returned (.agg #[.int .i64 t.b, .int .i64 t.s, .slice a t.ms.length c]) ∧ w'.ownsRow w.heap.size 3 1 (.slice a t.ms.length c) t.ms.length (ints t.ms) ∧ Fr no w w' := by
  obtain ⟨tb, ts, tms⟩ := t
  dsimp only at *
  have R0 : Hid (Fr no w (((w.alloc (.cells #[.int .i64 tb, .int .i64 ts, .slice ma tms.length mc] 25)).alloc (.cells #[.int .i64 0, .int .i64 0, .slice none 0 0] 25)).alloc (.cells #[] 3))) := Lib.hid ((((Fr.refl no w).alloc _).alloc _).alloc _)
  have HA := Lib.hid ((Fr.refl no ((w.alloc (.cells #[.int .i64 tb, .int .i64 ts, .slice ma tms.length mc] 25)).alloc (.cells #[.int .i64 0, .int .i64 0, .slice none 0 0] 25))).alloc (.cells #[] 3) |>.heap (heap_new2 w (.cells #[.int .i64 tb, .int .i64 ts, .slice ma tms.length mc] 25) (.cells #[.int .i64 0, .int .i64 0, .slice none 0 0] 25)) (by simp))
  have HB := Lib.hid ((Fr.refl no ((w.alloc (.cells #[.int .i64 tb, .int .i64 ts, .slice ma tms.length mc] 25)).alloc (.cells #[.int .i64 0, .int .i64 0, .slice none 0 0] 25))).alloc (.cells #[] 3) |>.heap (heap_new2' w (.cells #[.int .i64 tb, .int .i64 ts, .slice ma tms.length mc] 25) (.cells #[.int .i64 0, .int .i64 0, .slice none 0 0] 25)) (by simp))
  have ho0 := (owns_new ((w.alloc (.cells #[.int .i64 tb, .int .i64 ts, .slice ma tms.length mc] 25)).alloc (.cells #[.int .i64 0, .int .i64 0, .slice none 0 0] 25)) 3 1)
  simp only [World.size_alloc] at ho0
  have HO := Lib.hid ho0
  clear ho0
  have HU := Lib.hid (hm.fr R0.out)
  clear hm
  go_enter Tryd.func11, Tryd.ntmps11
  go_upto_region 2 with (at_builtin; go_must (refine wpList_append_at rfl (.tmp 3) _ 23 rfl (w.heap.size + 1 + 1) 3 (.int .i64 0) 1 8 Tryd.underlying23 infoI3 rfl (by decide) _ 0 _ rfl HO.out tms.length _ HU.out (ints1 tms) (by unfold maxLen; omega) (by omega) (by simp only [World.size_alloc]; omega) ?_); intro ga gc w6 ho hg hb; go_must (have r6 := (Fr.refl (fun k => k = w.heap.size + 1 + 1) _).grown hg (fun k hk => .inl (by cases hk; rfl))); go_must (have HA6 := Lib.hid (r6.heap HA.out (by omega))); go_must (have HB6 := Lib.hid (r6.heap HB.out (by omega))); go_must (have R6 := Lib.hid (R0.out.trans' r6 (fun k hk _ => by omega))); go_must (have cA : w6.cell? ⟨w.heap.size, 2, none⟩ = some (.slice ma tms.length mc) := cell_of_heap HA6.out rfl); go_must (have fA : w6.frozen? ⟨w.heap.size, 2, none⟩ = false := frozen_of_heap HA6.out); go_must (have HO6 := Lib.hid (owns_base ho (base' := w.heap.size) (fun k hk => by have := (ho.lt k hk).1; omega))); go_must (have HL6 := Lib.hid (fun k (hk : (Value.slice ga (0 + tms.length) gc).ownBlock = some k) => (ho.lt k hk).1)); clear ho hg hb r6)
  simp only [Nat.zero_add] at *
  have HA7 := Lib.hid (heap_setCell (o := 2) (v := .slice ga tms.length gc) HA6.out)
  have R7 := Lib.hid (R6.out.setCell ⟨w.heap.size, 2, none⟩ (.slice ga tms.length gc) (.inr (Nat.le_refl _)))
  have r7 : Fr (only [w.heap.size]) w6 (w6.setCell ⟨w.heap.size, 2, none⟩ (.slice ga tms.length gc)) := (Fr.refl _ _).setCell _ _ (.inl (by simp))
  have HB7 := Lib.hid (r7.heap HB6.out (by simp))
  have HO7 := Lib.hid (owns_fr HO6.out r7 (fun k hk => by have := HL6.out k hk; simp; omega))
  clear r7 cA fA
  generalize w6.setCell ⟨w.heap.size, 2, none⟩ (.slice ga tms.length gc) = w7 at *
  refine wp_region_lit ?_
  refine wpList_load_row rfl _ _ rfl w.heap.size rfl _ _ _ _ HA7.out Tryd.underlying25 rfl (by rw [infoTy]; rfl) ?_
  simp only [act_put, List.setIfInBounds_toArray, List.set_cons_zero, List.set_cons_succ]
  refine wpList_store_row rfl _ _ _ rfl (w.heap.size + 1) _ rfl rfl _ _ HB7.out (by rw [infoTy]; rfl) rfl (by simp [Value.oneCell']) ?_
  rw [act_put_none]
  have HB8 := Lib.hid (setRow_heap w7 (w.heap.size + 1) _ #[.int .i64 tb, .int .i64 ts, .slice ga tms.length gc] _ _ HB7.out)
  have R8 := Lib.hid (fr_setRow (g := w.heap.size + 1) (cs := #[.int .i64 tb, .int .i64 ts, .slice ga tms.length gc]) R7.out (.inr (by omega)))
  have HO8 := Lib.hid (owns_fr HO7.out (fr_setRow (S := only [w.heap.size + 1]) (g := w.heap.size + 1) (cs := #[.int .i64 tb, .int .i64 ts, .slice ga tms.length gc]) (Fr.refl _ w7) (.inl (by simp))) (fun k hk => by have := HL6.out k hk; simp; omega))
  go_wp2_with fail
  exact ⟨rfl, _, results_cell_row rfl _ _ _ _ _ _ _ rfl HB8.out Tryd.underlying25 rfl (by rw [infoTy]; rfl), _, _, rfl, HO8.out, R8.out⟩

end Go.Proofs.YtjpkmaacalelcaaDoor

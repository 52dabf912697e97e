import Derived.Test.YtdklbmggljakkaaD8
set_option linter.unusedSimpArgs false
set_option linter.unusedVariables false
set_option linter.unusedSectionVars false
set_option linter.unnecessarySimpa false
namespace Go.Proofs.Ytdklbmggljakkaa
open Go.RowKit Go.Shelf

attribute [local go_sem] Program.isFuncB Program.isSliceB

variable {w w' w'' w0 : World}

theorem fr_of_below (h : Below w.heap.size w w') : Fr no w w' := Fr.of_below h

/-- an ending that may not be -/
theorem check_badend (w : World) (k c : Int) (h : mayE (k, c) = false) : Calls Try.prog 26 #[.agg #[.slice none 0 0, .int .i64 k, .int .i64 c]] w fun e w' => e = .returned (.int .i64 2) ∧ Fr no w w' := by
  have HO := Lib.hid (heap_new2 w (.cells #[.slice none 0 0, .int .i64 k, .int .i64 c] 52) (.cells #[.int .i64 0] 35))
  have HR := Lib.hid (heap_new2' w (.cells #[.slice none 0 0, .int .i64 k, .int .i64 c] 52) (.cells #[.int .i64 0] 35))
  have R0 := Lib.hid (((Fr.refl no w).alloc (.cells #[.slice none 0 0, .int .i64 k, .int .i64 c] 52)).alloc (.cells #[.int .i64 0] 35))
  have EN := ending_ok ((w.alloc (.cells #[.slice none 0 0, .int .i64 k, .int .i64 c] 52)).alloc (.cells #[.int .i64 0] 35)) k c
  rw [h] at EN
  have EN2 := Lib.hid EN
  clear h EN
  obtain ⟨x0, x1, x2⟩ := cells3 HO.out
  go_enter Try.func26, Try.ntmps26
  go_wp2_with fail
  refine EN2.out.mono ?_
  rintro e w1 ⟨rfl, r1⟩
  have R1 := Lib.hid (R0.out.trans r1)
  have HR1 := Lib.hid (r1.heap HR.out (by simp))
  clear r1 x0 x1 x2
  have y0 : w1.cell? ⟨w.heap.size + 1, 0, none⟩ = some (.int .i64 0) := cell_of_heap HR1.out rfl
  have y1 : w1.frozen? ⟨w.heap.size + 1, 0, none⟩ = false := frozen_of_heap HR1.out
  go_wp2_with fail
  have HR2 := heap_setCell (o := 0) (v := .int .i64 2) HR1.out
  have z0 : (w1.setCell ⟨w.heap.size + 1, 0, none⟩ (.int .i64 2)).cell? ⟨w.heap.size + 1, 0, none⟩ = some (.int .i64 2) := cell_of_heap HR2 rfl
  exact bodyPost_ret (v := .int .i64 2) (by simp [results, Try.f26, go_sem, z0]) rfl ⟨rfl, R1.out.setCell _ _ (.inr (by simp))⟩

attribute [local go_sem] Oper.semAt_some

set_option maxRecDepth 100000 in
set_option maxHeartbeats 4000000 in
/-- no deeds, and an ending that may be -/
theorem check_nil (w : World) (k c : Int) (h : mayE (k, c) = true) : Calls Try.prog 26 #[.agg #[.slice none 0 0, .int .i64 k, .int .i64 c]] w fun e w' => e = .returned (.int .i64 0) ∧ Fr no w w' := by
  have HO := Lib.hid (heap_new2 w (.cells #[.slice none 0 0, .int .i64 k, .int .i64 c] 52) (.cells #[.int .i64 0] 35))
  have HR := Lib.hid (heap_new2' w (.cells #[.slice none 0 0, .int .i64 k, .int .i64 c] 52) (.cells #[.int .i64 0] 35))
  have R0 := Lib.hid (((Fr.refl no w).alloc (.cells #[.slice none 0 0, .int .i64 k, .int .i64 c] 52)).alloc (.cells #[.int .i64 0] 35))
  have EN := ending_ok ((w.alloc (.cells #[.slice none 0 0, .int .i64 k, .int .i64 c] 52)).alloc (.cells #[.int .i64 0] 35)) k c
  rw [h] at EN
  have EN2 := Lib.hid EN
  clear h EN
  obtain ⟨x0, x1, x2⟩ := cells3 HO.out
  refine (callsIn_wide (n := 3)).1 ?_
  refine callsIn_of_wp_marks Try.func26 rfl trivial ?_ rfl
  simp only [Try.ntmps26, List.size_toArray, List.length_cons, List.length_nil, Nat.reduceAdd, Nat.reduceSub, Array.replicate_succ, Array.replicate_zero, List.push_toArray, List.append_toArray, List.nil_append, List.cons_append]
  gi_wp2_with fail
  refine ⟨trivial, ?_⟩
  refine (callsIn_wide.2 EN2.out).mono ?_
  rintro e w1 ⟨rfl, r1⟩
  have R1 := Lib.hid (R0.out.trans r1)
  have HR1 := Lib.hid (r1.heap HR.out (by simp))
  have HO1 := Lib.hid (r1.heap HO.out (by simp))
  clear r1 x0 x1 x2
  obtain ⟨x0, x1, x2⟩ := cells3 HO1.out
  gi_wp2_with fail
  refine ⟨trivial, ?_⟩
  refine (callsIn_wide.2 (all_nil w1)).mono ?_
  rintro e w2 ⟨rfl, rfl⟩
  gi_wp2_with fail
  have HB0 : Hid (Below w.heap.size w (w1.alloc (.cells #[.slice none 0 0] 73))) := Lib.hid ((R1.out.below (Nat.le_refl _) (fun k hk => hk.elim)).alloc R1.out.size _)
  have rn := (Fr.refl no w1).alloc (.cells #[.slice none 0 0] 73)
  have HR2 := Lib.hid (rn.heap HR1.out (by simp))
  have hsz : w.heap.size ≤ w1.heap.size := R1.out.size
  have hnew : (w1.alloc (.cells #[.slice none 0 0] 73)).cell? ⟨w1.heap.size, 0, none⟩ = some (.slice none 0 0) := cell_of_heap (heap_new w1 _) rfl
  clear rn x0 x1 x2
  refine wpIn_rangeFunc_ownF (α := Empty) rfl (by omega) (gf := 52) (lb := #[.pointer (some ⟨w1.heap.size, 0, none⟩)]) rfl trivial (enters_of Try.func52 (by kernel_rfl) rfl)
    (all_stops_nil 2 (by omega) w1.heap.size w.heap.size _ (by simp) hnew) belowK_t (belowK_b (by simp; omega)) (Below.refl _ _) (fun x => x.elim)
    (fun _ W => (W.cell? ⟨w.heap.size + 1, 0, none⟩ = some (.int .i64 0) ∧ W.frozen? ⟨w.heap.size + 1, 0, none⟩ = false) ∧ Below w.heap.size w W)
    (fun _ _ _ => False)
    (OwnFrom.and (Own.from (fun s A B row hs hg hr => ⟨cell_kept hs.1 hg hr, (frozen_kept hs.1 hg hr).trans hs.2⟩) _) (ownFrom_below (Nat.le_refl _) (by simp; omega)))
    (fun _ _ _ _ _ hs _ _ => hs)
    ⟨⟨cell_of_heap HR2.out rfl, frozen_of_heap HR2.out⟩, HB0.out⟩
    (fun x => x.elim) ?assign ?body ?done ?stop
  case assign => intro l x; exact x.elim
  case body => intro l pre x; exact x.elim
  case done =>
    rintro D ys W hD rfl ⟨⟨hc, hf⟩, hB⟩ hK
    gi_wp2
    have hK' := (KeepsOthers.setCell W ⟨w.heap.size + 1, 0, none⟩ (.int .i64 0)).same D _ hK rfl
    refine ⟨by simp, .inl ⟨_, _, rfl, run_takeDeferred hK', ?_⟩⟩
    have hc5 := cell_kept (World.cell?_setCell_same' W ⟨w.heap.size + 1, 0, none⟩ (.int .i64 0) (by rw [hc]; rfl)) (grownBy_putObj' _ D (.deferred none)) (fun r e => by cases e; exact ⟨_, hK', rfl⟩)
    refine ⟨.int .i64 0, ?_, rfl, fr_of_below ((hB.setCell (p := ⟨w.heap.size + 1, 0, none⟩) (by simp) _).trans (belowK_b (w := w) (Nat.le_refl _) _ D _ _ (by simp at hD; omega) hK' rfl rfl))⟩
    simp [results, Try.f26, go_sem, hc5]
  case stop =>
    rintro D c pre W _ _ h _
    exact h.elim

end Go.Proofs.Ytdklbmggljakkaa

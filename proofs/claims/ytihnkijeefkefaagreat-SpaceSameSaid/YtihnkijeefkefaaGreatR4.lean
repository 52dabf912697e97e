import Derived.Test.YtihnkijeefkefaaGreatR3
set_option linter.unusedSimpArgs false
set_option linter.unusedVariables false
set_option linter.unusedSectionVars false
set_option linter.unnecessarySimpa false
set_option maxRecDepth 100000
/- The document's space: End, Outcome. -/
namespace Go.Proofs.YtihnkijeefkefaaGreat
open Go.RowKit

attribute [local go_sem] Program.isFuncB Program.isSliceB

variable {w w' w'' w0 : World} {O R : Nat → Prop} {p : Nat} {s s' : Zp} {z : Rz}

theorem RSpAt.endAt (h : RSpAt w O R p s z) : At w p 9 [.int .i64 s.e.1, .int .i64 s.e.2] := fun j v hj => by
  match j, hj with
  | 0, hj => cases hj; exact cell_of_heap h.obj rfl
  | 1, hj => cases hj; exact cell_of_heap h.obj rfl

set_option maxHeartbeats 1000000 in
theorem rend_ok (w : World) (h : RSpAt w O R p s z) : Calls Tryz.prog 115 #[.pointer (some ⟨p, 0, none⟩)] w fun e w' => e = .returned (.tuple #[.agg #[.int .i64 s.e.1, .int .i64 s.e.2], .bool (s.e.1 != 0)]) ∧ Fr no w w' := by
  have r0 := (Fr.refl no w).alloc (.cells #[.int .i64 0, .int .i64 0] 43)
  have HB := Lib.hid (heap_new w (.cells #[.int .i64 0, .int .i64 0] 43))
  have HS : Hid (∀ w', Fr no w w' → (fun w' => At w' p 9 [.int .i64 s.e.1, .int .i64 s.e.2] ∧ w'.cell? ⟨p, 9, none⟩ = some (.int .i64 s.e.1)) w') := Lib.hid (fun w' r => ⟨(h.fr r).endAt, cell_of_heap (h.fr r).obj rfl⟩)
  have R0 := Lib.hid r0
  clear r0 h
  go_enter Tryz.func115, Tryz.ntmps115
  go_wp2_with fail
  generalize hw1 : w.alloc (.cells #[.int .i64 0, .int .i64 0] 43) = w1 at *
  have HB1 : Hid (w1.drew.heap[w.heap.size]? = some (.cells #[.int .i64 0, .int .i64 0] 43 (0, 0))) := Lib.hid HB.out
  have HB2 := Lib.hid (Inv.row_heap w1.drew w.heap.size _ #[.int .i64 s.e.1, .int .i64 s.e.2] _ HB1.out)
  have R2 := Lib.hid (Inv.fr_row (g := w.heap.size) (cs := #[.int .i64 s.e.1, .int .i64 s.e.2]) R0.out.drew (.inr (Nat.le_refl _)))
  clear hw1
  refine Lex.region [10] [11, 1] (by kernel_rfl) (by kernel_rfl) ?_
  refine Lex.opens (fun w' => At w' p 9 [.int .i64 s.e.1, .int .i64 s.e.2] ∧ w'.cell? ⟨p, 9, none⟩ = some (.int .i64 s.e.1)) ((HS.out _ R0.out.drew)) ?_
  repeat (first
    | (refine Lex.skips (by rfl) ?_; (try simp only [Act.put, List.setIfInBounds_toArray, List.set_cons_zero, List.set_cons_succ]))
    | (refine Lex.into (by rfl) (by rfl) _ _ rfl _ _ rfl _ _ (fun w' h => h.1) Tryz.underlying43 rfl (by rw [Tryz.infoEnd]; rfl) ?_; (try simp only [Act.put, List.setIfInBounds_toArray, List.set_cons_zero, List.set_cons_succ]))
    | (refine Lex.quiet (v := ?_) (by rfl) (by rfl) ?_ ?_; rotate_left; (focus (intro w' hS'; go_simp; try rfl)); (try simp only [Act.put, List.setIfInBounds_toArray, List.set_cons_zero, List.set_cons_succ])))
  refine Lex.loud (by rfl) (by rfl) ?_
  intro K' hK'
  refine wp_store_row 43 (.tmp 2) (.tmp 7) rfl w.heap.size #[.int .i64 s.e.1, .int .i64 s.e.2] rfl rfl _ _ HB1.out (by rw [Tryz.infoEnd]; rfl) rfl (by simp [Value.oneCell']) ?_
  refine hK' _ _ ((HS.out _ R2.out)) ?_
  clear hK'
  try simp only [Act.put, List.setIfInBounds_toArray, List.set_cons_zero, List.set_cons_succ]
  repeat (first
    | (refine Lex.skips (by rfl) ?_; (try simp only [Act.put, List.setIfInBounds_toArray, List.set_cons_zero, List.set_cons_succ]))
    | (refine Lex.quiet (v := ?_) (by rfl) (by rfl) ?_ ?_; rotate_left; (focus (intro w' hS'; go_simp; try rfl)); (try simp only [Act.put, List.setIfInBounds_toArray, List.set_cons_zero, List.set_cons_succ])))
  refine Lex.done ?_
  refine Lex.opens (fun _ => True) (trivial) ?_
  repeat (first
    | (refine Lex.skips (by rfl) ?_; (try simp only [Act.put, List.setIfInBounds_toArray, List.set_cons_zero, List.set_cons_succ]))
    | (refine Lex.quiet (v := ?_) (by rfl) (by rfl) ?_ ?_; rotate_left; (focus (intro w' hS'; go_simp; try rfl)); (try simp only [Act.put, List.setIfInBounds_toArray, List.set_cons_zero, List.set_cons_succ])))
  refine Lex.done ?_
  refine Lex.ends ?_
  go_wp2_with fail
  refine bodyPost_ret (results_cs rfl rfl rfl (run_loadVar_row _ w.heap.size _ _ _ _ _ HB2.out Tryz.underlying43 rfl (by rw [Tryz.infoEnd]; rfl))) rfl ?_
  exact ⟨rfl, R2.out⟩

set_option maxHeartbeats 1000000 in
theorem rout_ok (w : World) (h : RSpAt w O R p s z) (hl : s.ds.length ≤ 1000000000) : Calls Tryz.prog 101 #[.pointer (some ⟨p, 0, none⟩)] w fun e w' => ∃ x, e = .returned (.agg #[x, .int .i64 s.e.1, .int .i64 s.e.2]) ∧ w'.ownsRow w.heap.size 179 2 x s.ds.length (deedsC s.ds) ∧ Fr no w w' := by
  have r0 := (Fr.refl no w).alloc (.cells #[.slice none 0 0, .int .i64 0, .int .i64 0] 99)
  have HB := Lib.hid (heap_new w (.cells #[.slice none 0 0, .int .i64 0, .int .i64 0] 99))
  have HLR : Hid (∀ w', Fr no w w' → Reads w' z.lv 2 s.ds.length (deedsC s.ds)) := Lib.hid (fun w' r => owns_reads (h.fr r).tape.out)
  have HS : Hid (∀ w', Fr no w w' → (fun w' => At w' p 9 [.int .i64 s.e.1, .int .i64 s.e.2] ∧ w'.cell? ⟨p, 3, none⟩ = some (.pointer (some ⟨z.t, 0, none⟩)) ∧ w'.cell? ⟨z.t, 2, none⟩ = some z.lv) w') := Lib.hid (fun w' r => ⟨(h.fr r).endAt, cell_of_heap (h.fr r).obj rfl, cell_of_heap (h.fr r).tape.obj rfl⟩)
  obtain ⟨la, lc, hlv⟩ := owns_shape h.tape.out
  have R0 := Lib.hid r0
  rw [hlv] at HLR HS
  clear r0 h hlv
  go_enter Tryz.func101, Tryz.ntmps101
  go_wp2_with fail
  generalize hw1 : w.alloc (.cells #[.slice none 0 0, .int .i64 0, .int .i64 0] 99) = w1 at *
  have HB1 : Hid (w1.drew.heap[w.heap.size]? = some (.cells #[.slice none 0 0, .int .i64 0, .int .i64 0] 99 (0, 0))) := Lib.hid HB.out
  have HSZ : Hid (w.heap.size < w1.drew.heap.size) := Lib.hid (Array.getElem?_eq_some_iff.1 HB1.out).1
  clear hw1
  refine Lex.region [0, 8, 14] [14, 1] (by kernel_rfl) (by kernel_rfl) ?_
  refine Lex.opens (fun w' => At w' p 9 [.int .i64 s.e.1, .int .i64 s.e.2] ∧ w'.cell? ⟨p, 3, none⟩ = some (.pointer (some ⟨z.t, 0, none⟩)) ∧ w'.cell? ⟨z.t, 2, none⟩ = some (.slice la s.ds.length lc)) ((HS.out _ R0.out.drew)) ?_
  refine Lex.loud (by rfl) (by rfl) ?_
  intro K' hK'
  go_simp
  have q2 := (Fr.refl no w1.drew).alloc (.cells #[] 179)
  have R2 := Lib.hid (R0.out.drew.trans q2)
  have HO2 := Lib.hid (owns_new w1.drew 179 2)
  have HR2 := Lib.hid (HLR.out _ R2.out)
  have HB2 := Lib.hid (q2.heap HB1.out (by simp))
  have SZ2 := Lib.hid q2.size
  clear q2
  refine hK' _ _ ((HS.out _ R2.out)) ?_
  clear hK'
  try simp only [Act.put, List.setIfInBounds_toArray, List.set_cons_zero, List.set_cons_succ]
  repeat (first
    | (refine Lex.skips (by rfl) ?_; (try simp only [Act.put, List.setIfInBounds_toArray, List.set_cons_zero, List.set_cons_succ]))
    | (refine Lex.quiet (v := ?_) (by rfl) (by rfl) ?_ ?_; rotate_left; (focus (intro w' hS'; go_simp; try rfl)); (try simp only [Act.put, List.setIfInBounds_toArray, List.set_cons_zero, List.set_cons_succ])))
  refine Lex.loud (by rfl) (by rfl) ?_
  intro K' hK'
  refine wp_append_at (.tmp 3) (.tmp 10) 97 rfl w1.drew.heap.size 179 (.agg #[.int .i64 0, .int .i64 0]) 2 16 Tryz.underlying97 Tryz.infoDeed3 rfl (by decide) _ 0 _ rfl HO2.out s.ds.length _ HR2.out (deedsC_one _) (by unfold maxLen; omega) (by omega) SZ2.out ?_
  intro ga gc w3 ho hg hb
  have g3 := (Fr.refl (fun k => (Value.slice (some ⟨w1.drew.heap.size, 0, none⟩) 0 0).ownBlock = some k) _).grown hg (fun k hk => .inl hk)
  have R3 := Lib.hid (R2.out.trans' g3 (fun k hk _ => by have h1 := HSZ.out; simp [Value.ownBlock] at hk h1; omega))
  have HB3 := Lib.hid (g3.heap HB2.out (fun e => by have h1 := HSZ.out; simp [Value.ownBlock] at e h1; omega))
  have HO3 : Hid (w3.ownsRow w1.drew.heap.size 179 2 (.slice ga s.ds.length gc) s.ds.length (deedsC s.ds)) := Lib.hid (by simpa using ho)
  have HB4 := Lib.hid (Inv.row_heap w3 w.heap.size _ #[.slice ga s.ds.length gc, .int .i64 s.e.1, .int .i64 s.e.2] _ HB3.out)
  have R4 := Lib.hid (Inv.fr_row (g := w.heap.size) (cs := #[.slice ga s.ds.length gc, .int .i64 s.e.1, .int .i64 s.e.2]) R3.out (.inr (Nat.le_refl _)))
  have HX := Lib.hid (owns_base (base' := w.heap.size) (owns_fr HO3.out (Inv.fr_row (S := only [w.heap.size]) (g := w.heap.size) (cs := #[.slice ga s.ds.length gc, .int .i64 s.e.1, .int .i64 s.e.2]) (Fr.refl _ w3) (.inl (by simp))) (fun k hk e => by simp at e; subst e; have h1 := (HO3.out.lt _ hk).1; have h2 := HSZ.out; exact absurd h1 (by simp at h2 ⊢; omega)))
    (fun k hk => by have h1 := (HO3.out.lt _ hk).1; have h2 := HSZ.out; simp at h1 h2; omega))
  clear ho hg hb g3
  refine hK' _ _ ((HS.out _ R3.out)) ?_
  clear hK'
  try simp only [Act.put, List.setIfInBounds_toArray, List.set_cons_zero, List.set_cons_succ]
  repeat (first
    | (refine Lex.skips (by rfl) ?_; (try simp only [Act.put, List.setIfInBounds_toArray, List.set_cons_zero, List.set_cons_succ]))
    | (refine Lex.into (by rfl) (by rfl) _ _ rfl _ _ rfl _ _ (fun w' h => h.1) Tryz.underlying43 rfl (by rw [Tryz.infoEnd]; rfl) ?_; (try simp only [Act.put, List.setIfInBounds_toArray, List.set_cons_zero, List.set_cons_succ]))
    | (refine Lex.quiet (v := ?_) (by rfl) (by rfl) ?_ ?_; rotate_left; (focus (intro w' hS'; go_simp; try rfl)); (try simp only [Act.put, List.setIfInBounds_toArray, List.set_cons_zero, List.set_cons_succ])))
  refine Lex.done ?_
  refine Lex.opens (fun w' => At w' p 9 [.int .i64 s.e.1, .int .i64 s.e.2] ∧ w'.cell? ⟨p, 3, none⟩ = some (.pointer (some ⟨z.t, 0, none⟩)) ∧ w'.cell? ⟨z.t, 2, none⟩ = some (.slice la s.ds.length lc)) ((HS.out _ R3.out)) ?_
  refine Lex.loud (by rfl) (by rfl) ?_
  intro K' hK'
  refine wp_store_row 99 (.tmp 2) (.tmp 16) rfl w.heap.size #[.slice ga s.ds.length gc, .int .i64 s.e.1, .int .i64 s.e.2] rfl rfl _ _ HB3.out (by rw [Tryz.infoOut]; rfl) rfl (by simp [Value.oneCell']) ?_
  refine hK' _ _ ((HS.out _ R4.out)) ?_
  clear hK'
  try simp only [Act.put, List.setIfInBounds_toArray, List.set_cons_zero, List.set_cons_succ]
  repeat (first
    | (refine Lex.skips (by rfl) ?_; (try simp only [Act.put, List.setIfInBounds_toArray, List.set_cons_zero, List.set_cons_succ]))
    | (refine Lex.quiet (v := ?_) (by rfl) (by rfl) ?_ ?_; rotate_left; (focus (intro w' hS'; go_simp; try rfl)); (try simp only [Act.put, List.setIfInBounds_toArray, List.set_cons_zero, List.set_cons_succ])))
  refine Lex.done ?_
  refine Lex.ends ?_
  go_wp2_with fail
  refine bodyPost_ret (results_one rfl rfl (run_loadVar_row _ w.heap.size _ _ _ _ _ HB4.out Tryz.underlying99 rfl (by rw [Tryz.infoOut]; rfl))) rfl ?_
  exact ⟨_, rfl, HX.out, R4.out⟩

end Go.Proofs.YtihnkijeefkefaaGreat

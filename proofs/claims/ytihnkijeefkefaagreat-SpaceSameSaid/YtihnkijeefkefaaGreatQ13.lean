import Derived.Test.YtihnkijeefkefaaGreatQ12
set_option linter.unusedSimpArgs false
set_option linter.unusedVariables false
set_option linter.unusedSectionVars false
set_option linter.unnecessarySimpa false
set_option maxRecDepth 100000
/- The program's space: End, Outcome. -/
namespace Go.Proofs.YtihnkijeefkefaaGreat
open Go.RowKit

attribute [local go_sem] Program.isFuncB Program.isSliceB

variable {w w' w'' w0 : World} {O R : Nat → Prop} {p : Nat} {s s' : Zp} {z : Pz}

theorem results_cs {P : Program} {fn : Func} {tmps : Array Value} {w : World} {d1 d2 : Tmp} {t1 : TypeId} {a1 : Addr} {v1 v2 : Value} (hr : fn.results = #[.cell d1 t1, .tmp d2])
    (h1 : tmps.getD d1 undef = .pointer (some a1)) (h2 : tmps.getD d2 undef = v2) (l1 : (loadVar t1 a1).run P w = .ok v1 w) : (results fn tmps).run P w = .ok (.tuple #[v1, v2]) w := by
  have h1' : tmps[d1]?.getD undef = .pointer (some a1) := by rw [← h1]; simp [Array.getD_eq_getD_getElem?]
  have h2' : tmps[d2]?.getD undef = v2 := by rw [← h2]; simp [Array.getD_eq_getD_getElem?]
  simp only [results, hr]
  simp [h1', h2', asAddr, l1]
theorem SpAt.endAt (h : SpAt w O R p s z) : At w p 16 [.int .i64 s.e.1, .int .i64 s.e.2] := fun j v hj => by
  match j, hj with
  | 0, hj => cases hj; exact cell_of_heap h.obj rfl
  | 1, hj => cases hj; exact cell_of_heap h.obj rfl

set_option maxHeartbeats 1000000 in
theorem send_ok (w : World) (h : SpAt w O R p s z) : Calls Tryz.prog 16 #[.pointer (some ⟨p, 0, none⟩)] w fun e w' => e = .returned (.tuple #[.agg #[.int .i64 s.e.1, .int .i64 s.e.2], .bool (s.e.1 != 0)]) ∧ Fr no w w' := by
  have r0 := (Fr.refl no w).alloc (.cells #[.int .i64 0, .int .i64 0] 43)
  have HB := Lib.hid (heap_new w (.cells #[.int .i64 0, .int .i64 0] 43))
  have HN := Lib.hid (snone_ok _ (h.fr r0))
  have HS : Hid (∀ w', Fr no w w' → (fun w' => At w' p 16 [.int .i64 s.e.1, .int .i64 s.e.2] ∧ w'.cell? ⟨p, 16, none⟩ = some (.int .i64 s.e.1)) w') := Lib.hid (fun w' r => ⟨(h.fr r).endAt, cell_of_heap (h.fr r).obj rfl⟩)
  have R0 := Lib.hid r0
  clear r0 h
  go_enter Tryz.func16, Tryz.ntmps16
  go_wp2_with fail
  refine HN.out.mono ?_
  rintro e w' ⟨rfl, rfl⟩
  go_wp2_with fail
  generalize hw1 : w.alloc (.cells #[.int .i64 0, .int .i64 0] 43) = w1 at *
  have HB1 : Hid (w1.drew.heap[w.heap.size]? = some (.cells #[.int .i64 0, .int .i64 0] 43 (0, 0))) := Lib.hid HB.out
  have HB2 := Lib.hid (Inv.row_heap w1.drew w.heap.size _ #[.int .i64 s.e.1, .int .i64 s.e.2] _ HB1.out)
  have R2 := Lib.hid (Inv.fr_row (g := w.heap.size) (cs := #[.int .i64 s.e.1, .int .i64 s.e.2]) R0.out.drew (.inr (Nat.le_refl _)))
  clear hw1
  refine Lex.region [10] [11, 1] (by kernel_rfl) (by kernel_rfl) ?_
  refine Lex.opens (fun w' => At w' p 16 [.int .i64 s.e.1, .int .i64 s.e.2] ∧ w'.cell? ⟨p, 16, none⟩ = some (.int .i64 s.e.1)) ((HS.out _ R0.out.drew)) ?_
  repeat (first
    | (refine Lex.skips (by rfl) ?_; (try simp only [Act.put, List.setIfInBounds_toArray, List.set_cons_zero, List.set_cons_succ]))
    | (refine Lex.into (by rfl) (by rfl) _ _ rfl _ _ rfl _ _ (fun w' h => h.1) Tryz.underlying43 rfl (by rw [Tryz.infoEnd]; rfl) ?_; (try simp only [Act.put, List.setIfInBounds_toArray, List.set_cons_zero, List.set_cons_succ]))
    | (refine Lex.quiet (v := ?_) (by rfl) (by rfl) ?_ ?_; rotate_left; (focus (intro w' hS'; go_simp; try rfl)); (try simp only [Act.put, List.setIfInBounds_toArray, List.set_cons_zero, List.set_cons_succ])))
  refine Lex.loud (by rfl) (by rfl) ?_
  intro K' hK'
  refine wp_store_row 43 (.tmp 2) (.tmp 10) rfl w.heap.size #[.int .i64 s.e.1, .int .i64 s.e.2] rfl rfl _ _ HB1.out (by rw [Tryz.infoEnd]; rfl) rfl (by simp [Value.oneCell']) ?_
  refine hK' _ _ ((HS.out _ R2.out)) ?_
  clear hK'
  try simp only [Act.put, List.setIfInBounds_toArray, List.set_cons_zero, List.set_cons_succ]
  repeat (first
    | (refine Lex.skips (by rfl) ?_; (try simp only [Act.put, List.setIfInBounds_toArray, List.set_cons_zero, List.set_cons_succ]))
    | (refine Lex.quiet (v := ?_) (by rfl) (by rfl) ?_ ?_; rotate_left; (focus (intro w' hS'; go_simp; try rfl)); (try simp only [Act.put, List.setIfInBounds_toArray, List.set_cons_zero, List.set_cons_succ])))
  refine Lex.done ?_
  refine Lex.opens (fun _ => True) (trivial) ?_
  repeat (first
    | (refine Lex.skips (by rfl) ?_; (try simp only [Act.put, List.setIfInBounds_toArray, List.set_cons_zero, List.set_cons_succ]))
    | (refine Lex.quiet (v := ?_) (by rfl) (by rfl) ?_ ?_; rotate_left; (focus (intro w' hS'; go_simp; try rfl)); (try simp only [Act.put, List.setIfInBounds_toArray, List.set_cons_zero, List.set_cons_succ])))
  refine Lex.done ?_
  refine Lex.ends ?_
  go_wp2_with fail
  refine bodyPost_ret (results_cs rfl rfl rfl (run_loadVar_row _ w.heap.size _ _ _ _ _ HB2.out Tryz.underlying43 rfl (by rw [Tryz.infoEnd]; rfl))) rfl ?_
  exact ⟨rfl, R2.out⟩

theorem Tryz.infoOut : (Tryz.prog.info? 99).map (·.size) = some 3 := by kernel_rfl
set_option maxHeartbeats 1000000 in
theorem sout_ok (w : World) (h : SpAt w O R p s z) (hl : s.ds.length ≤ 1000000000) : Calls Tryz.prog 41 #[.pointer (some ⟨p, 0, none⟩)] w fun e w' => ∃ x, e = .returned (.agg #[x, .int .i64 s.e.1, .int .i64 s.e.2]) ∧ w'.ownsRow w.heap.size 179 2 x s.ds.length (deedsC s.ds) ∧ Fr no w w' := by
  have r0 := (Fr.refl no w).alloc (.cells #[.slice none 0 0, .int .i64 0, .int .i64 0] 99)
  have HB := Lib.hid (heap_new w (.cells #[.slice none 0 0, .int .i64 0, .int .i64 0] 99))
  have HN := Lib.hid (snone_ok _ (h.fr r0))
  have HD := Lib.hid (fun w' (r : Fr no w w') => deeds_ok w' (h.fr r).tape hl)
  have HS : Hid (∀ w', Fr no w w' → (fun w' => At w' p 16 [.int .i64 s.e.1, .int .i64 s.e.2] ∧ w'.cell? ⟨p, 9, none⟩ = some (.pointer (some ⟨z.t, 0, none⟩))) w') := Lib.hid (fun w' r => ⟨(h.fr r).endAt, cell_of_heap (h.fr r).obj rfl⟩)
  have R0 := Lib.hid r0
  clear r0 h
  go_enter Tryz.func41, Tryz.ntmps41
  go_wp2_with fail
  refine HN.out.mono ?_
  rintro e w' ⟨rfl, rfl⟩
  go_wp2_with fail
  generalize hw1 : w.alloc (.cells #[.slice none 0 0, .int .i64 0, .int .i64 0] 99) = w1 at *
  have HB1 : Hid (w1.drew.heap[w.heap.size]? = some (.cells #[.slice none 0 0, .int .i64 0, .int .i64 0] 99 (0, 0))) := Lib.hid HB.out
  have HSZ : Hid (w.heap.size < w1.drew.heap.size) := Lib.hid (Array.getElem?_eq_some_iff.1 HB1.out).1
  clear hw1
  refine Lex.region [4, 10] [10, 1] (by kernel_rfl) (by kernel_rfl) ?_
  refine Lex.opens (fun w' => At w' p 16 [.int .i64 s.e.1, .int .i64 s.e.2] ∧ w'.cell? ⟨p, 9, none⟩ = some (.pointer (some ⟨z.t, 0, none⟩))) ((HS.out _ R0.out.drew)) ?_
  repeat (first
    | (refine Lex.skips (by rfl) ?_; (try simp only [Act.put, List.setIfInBounds_toArray, List.set_cons_zero, List.set_cons_succ]))
    | (refine Lex.into (by rfl) (by rfl) _ _ rfl _ _ rfl _ _ (fun w' h => h.1) Tryz.underlying43 rfl (by rw [Tryz.infoEnd]; rfl) ?_; (try simp only [Act.put, List.setIfInBounds_toArray, List.set_cons_zero, List.set_cons_succ]))
    | (refine Lex.quiet (v := ?_) (by rfl) (by rfl) ?_ ?_; rotate_left; (focus (intro w' hS'; go_simp; try rfl)); (try simp only [Act.put, List.setIfInBounds_toArray, List.set_cons_zero, List.set_cons_succ])))
  refine Lex.loud (by rfl) (by rfl) ?_
  intro K' hK'
  go_simp
  refine (HD.out _ R0.out.drew).mono ?_
  rintro e w2 ⟨x, rfl, hx, r2⟩
  obtain ⟨xa, xc, rfl⟩ := owns_shape hx
  have R2 := Lib.hid (R0.out.drew.trans r2)
  have HB2 := Lib.hid (r2.heap HB1.out (by simp))
  have HB3 := Lib.hid (Inv.row_heap w2 w.heap.size _ #[.slice xa s.ds.length xc, .int .i64 s.e.1, .int .i64 s.e.2] _ HB2.out)
  have R3 := Lib.hid (Inv.fr_row (g := w.heap.size) (cs := #[.slice xa s.ds.length xc, .int .i64 s.e.1, .int .i64 s.e.2]) R2.out (.inr (Nat.le_refl _)))
  have HX := Lib.hid (owns_base (base' := w.heap.size) (owns_fr hx (Inv.fr_row (S := only [w.heap.size]) (g := w.heap.size) (cs := #[.slice xa s.ds.length xc, .int .i64 s.e.1, .int .i64 s.e.2]) (Fr.refl _ w2) (.inl (by simp))) (fun k hk e => by simp at e; subst e; have h1 := (hx.lt _ hk).1; have h2 := HSZ.out; exact absurd h1 (by simp at h2 ⊢; omega)))
    (fun k hk => by have h1 := (hx.lt _ hk).1; have h2 := HSZ.out; simp at h1 h2; omega))
  clear r2 hx
  refine hK' _ _ ((HS.out _ R2.out)) ?_
  clear hK'
  try simp only [Act.put, List.setIfInBounds_toArray, List.set_cons_zero, List.set_cons_succ]
  repeat (first
    | (refine Lex.skips (by rfl) ?_; (try simp only [Act.put, List.setIfInBounds_toArray, List.set_cons_zero, List.set_cons_succ]))
    | (refine Lex.into (by rfl) (by rfl) _ _ rfl _ _ rfl _ _ (fun w' h => h.1) Tryz.underlying43 rfl (by rw [Tryz.infoEnd]; rfl) ?_; (try simp only [Act.put, List.setIfInBounds_toArray, List.set_cons_zero, List.set_cons_succ]))
    | (refine Lex.quiet (v := ?_) (by rfl) (by rfl) ?_ ?_; rotate_left; (focus (intro w' hS'; go_simp; try rfl)); (try simp only [Act.put, List.setIfInBounds_toArray, List.set_cons_zero, List.set_cons_succ])))
  refine Lex.done ?_
  refine Lex.opens (fun w' => At w' p 16 [.int .i64 s.e.1, .int .i64 s.e.2] ∧ w'.cell? ⟨p, 9, none⟩ = some (.pointer (some ⟨z.t, 0, none⟩))) ((HS.out _ R2.out)) ?_
  refine Lex.loud (by rfl) (by rfl) ?_
  intro K' hK'
  refine wp_store_row 99 (.tmp 2) (.tmp 15) rfl w.heap.size #[.slice xa s.ds.length xc, .int .i64 s.e.1, .int .i64 s.e.2] rfl rfl _ _ HB2.out (by rw [Tryz.infoOut]; rfl) rfl (by simp [Value.oneCell']) ?_
  refine hK' _ _ ((HS.out _ R3.out)) ?_
  clear hK'
  try simp only [Act.put, List.setIfInBounds_toArray, List.set_cons_zero, List.set_cons_succ]
  repeat (first
    | (refine Lex.skips (by rfl) ?_; (try simp only [Act.put, List.setIfInBounds_toArray, List.set_cons_zero, List.set_cons_succ]))
    | (refine Lex.quiet (v := ?_) (by rfl) (by rfl) ?_ ?_; rotate_left; (focus (intro w' hS'; go_simp; try rfl)); (try simp only [Act.put, List.setIfInBounds_toArray, List.set_cons_zero, List.set_cons_succ])))
  refine Lex.done ?_
  refine Lex.ends ?_
  go_wp2_with fail
  refine bodyPost_ret (results_one rfl rfl (run_loadVar_row _ w.heap.size _ _ _ _ _ HB3.out Tryz.underlying99 rfl (by rw [Tryz.infoOut]; rfl))) rfl ?_
  exact ⟨_, rfl, HX.out, R3.out⟩

end Go.Proofs.YtihnkijeefkefaaGreat

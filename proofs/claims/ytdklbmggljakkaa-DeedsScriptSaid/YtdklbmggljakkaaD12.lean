import Derived.Test.YtdklbmggljakkaaD11
set_option linter.unusedSimpArgs false
set_option linter.unusedVariables false
set_option linter.unusedSectionVars false
set_option linter.unnecessarySimpa false
namespace Go.Proofs.Ytdklbmggljakkaa
open Go.RowKit Go.Shelf

attribute [local go_sem] Program.isFuncB Program.isSliceB

variable {w w' w'' w0 : World}
attribute [local go_sem] Oper.semAt_some

theorem method_trap (w' : World) : (Go.method 219 81 (.agg #[.int .i64 2, .int .i64 1]) "twinshaft/deeds.text").run Try.prog w' = .ok (87, .agg #[.int .i64 2, .int .i64 1]) w' := by kernel_rfl

set_option maxRecDepth 100000 in
set_option maxHeartbeats 4000000 in
/-- the text of no deeds and a trap -/
theorem text_trap (w : World) : Calls Try.prog 24 #[.agg #[.slice none 0 0, .int .i64 2, .int .i64 1]] w fun e w' => e = .returned (.tuple #[.string trap1, .int .i64 0]) ∧ Fr no w w' := by
  have HO := Lib.hid (outObj w (.slice none 0 0) 2 1 52)
  have R0 := Lib.hid ((Fr.refl no w).alloc (.cells #[.slice none 0 0, .int .i64 2, .int .i64 1] 52))
  have CK := Lib.hid (check_nil (w.alloc (.cells #[.slice none 0 0, .int .i64 2, .int .i64 1] 52)) 2 1 rfl)
  obtain ⟨x0, x1, x2⟩ := cells3 HO.out
  refine (callsIn_wide (n := 3)).1 ?_
  refine callsIn_of_wp_marks Try.func24 rfl trivial ?_ rfl
  simp only [Try.ntmps24, List.size_toArray, List.length_cons, List.length_nil, Nat.reduceAdd, Nat.reduceSub, Array.replicate_succ, Array.replicate_zero, List.push_toArray, List.append_toArray, List.nil_append, List.cons_append]
  gi_wp2_with fail
  refine ⟨trivial, ?_⟩
  refine (callsIn_wide.2 CK.out).mono ?_
  rintro e w1 ⟨rfl, r1⟩
  have R1 := Lib.hid (R0.out.trans r1)
  have HO1 := Lib.hid (r1.heap HO.out (by simp))
  clear r1 x0 x1 x2 CK HO R0
  have ra := ((Fr.refl no w1).alloc (.cells #[.pointer none, .slice none 0 0] 68)).alloc (.cells #[.nilIface] 70)
  have HO3 := Lib.hid (ra.heap HO1.out (by simp))
  have HB3 := Lib.hid (heap_new2 w1 (.cells #[.pointer none, .slice none 0 0] 68) (.cells #[.nilIface] 70))
  have HT3 := Lib.hid (heap_new2' w1 (.cells #[.pointer none, .slice none 0 0] 68) (.cells #[.nilIface] 70))
  have R3 := Lib.hid (R1.out.trans ra)
  have hsz1 : w.heap.size < w1.heap.size := (Array.getElem?_eq_some_iff.1 HO1.out).1
  have HS3 := Lib.hid (World.size_alloc (w1.alloc (.cells #[.pointer none, .slice none 0 0] 68)) (.cells #[.nilIface] 70))
  obtain ⟨x0, x1, x2⟩ := cells3 HO3.out
  clear ra
  gi_wp2_with fail
  generalize (w1.alloc (.cells #[.pointer none, .slice none 0 0] 68)).alloc (.cells #[.nilIface] 70) = w3 at *
  refine ⟨trivial, ?_⟩
  refine (callsIn_wide.2 (all_nil w3)).mono ?_
  rintro e w4 ⟨rfl, rfl⟩
  gi_wp2_with fail
  have HB0 : Hid (Below w.heap.size w (w3.alloc (.cells #[.slice none 0 0] 73))) := Lib.hid ((R3.out.below (Nat.le_refl _) (fun k hk => hk.elim)).alloc R3.out.size _)
  have rn := (Fr.refl no w3).alloc (.cells #[.slice none 0 0] 73)
  have HO4 := Lib.hid (rn.heap HO3.out (by simp))
  have HB4 := Lib.hid (rn.heap HB3.out (by simp))
  have HT4 := Lib.hid (rn.heap HT3.out (by simp))
  have hsz : w.heap.size ≤ w3.heap.size := R3.out.size
  have hnew : (w3.alloc (.cells #[.slice none 0 0] 73)).cell? ⟨w3.heap.size, 0, none⟩ = some (.slice none 0 0) := cell_of_heap (heap_new w3 _) rfl
  clear rn x0 x1 x2
  refine wpIn_rangeFunc_ownF (α := Empty) rfl (by omega) (gf := 52) (lb := #[.pointer (some ⟨w3.heap.size, 0, none⟩)]) rfl trivial (enters_of Try.func52 (by kernel_rfl) rfl)
    (all_stops_nil 2 (by omega) w3.heap.size w.heap.size _ (by simp) hnew) belowK_t (belowK_b (by simp; omega)) (Below.refl _ _) (fun x => x.elim)
    (fun _ W => (W.heap[w.heap.size]? = some (.cells #[.slice none 0 0, .int .i64 2, .int .i64 1] 52 (0, 0)) ∧ W.heap[w1.heap.size]? = some (.cells #[.pointer none, .slice none 0 0] 68 (0, 0)) ∧ W.heap[w1.heap.size + 1]? = some (.cells #[.nilIface] 70 (0, 0))) ∧ Below w.heap.size w W)
    (fun _ _ _ => False)
    (OwnFrom.and (Own.from (fun s A B row hs hg hr => ⟨heap_own _ _ _ _ s A B row hs.1 hg hr, heap_own _ _ _ _ s A B row hs.2.1 hg hr, heap_own _ _ _ _ s A B row hs.2.2 hg hr⟩) _) (ownFrom_below (Nat.le_refl _) (by simp; omega)))
    (fun _ _ _ _ _ hs _ _ => hs)
    ⟨⟨HO4.out, HB4.out, HT4.out⟩, HB0.out⟩
    (fun x => x.elim) ?assign ?body ?done ?stop
  case assign => intro l x; exact x.elim
  case body => intro l pre x; exact x.elim
  case done =>
    rintro D ys W hD rfl ⟨⟨hO, hB, hT⟩, hBe⟩ hK
    obtain ⟨x0, x1, x2⟩ := cells3 hO
    have t0 : W.cell? ⟨w1.heap.size + 1, 0, none⟩ = some .nilIface := cell_of_heap hT rfl
    have tf : W.frozen? ⟨w1.heap.size + 1, 0, none⟩ = false := frozen_of_heap hT
    have hm := method_trap
    gi_wp2_with fail
    have r5 := (Fr.refl (only [w1.heap.size + 1]) W).setCell ⟨w1.heap.size + 1, 0, none⟩ (.iface 81 (.agg #[.int .i64 2, .int .i64 1])) (.inl (by simp))
    have HB5 := Lib.hid (r5.heap hB (by simp))
    generalize W.setCell ⟨w1.heap.size + 1, 0, none⟩ (.iface 81 (.agg #[.int .i64 2, .int .i64 1])) = w5 at *
    refine ⟨trivial, ?_⟩
    refine (callsIn_wide.2 (endtext_trap w5)).mono ?_
    rintro e w6 ⟨rfl, r6⟩
    have HB6 := Lib.hid (r6.heap HB5.out (by simp))
    gi_wp2_with fail
    refine ⟨trivial, ?_⟩
    refine (callsIn_wide.2 (write_new w6 _ trap1 HB6.out (by decide))).mono ?_
    rintro e w7 ⟨rfl, ⟨v7, hb7, ho7⟩, r7⟩
    have HB7 := Lib.hid hb7
    have HO7 := Lib.hid ho7
    clear hb7 ho7
    gi_wp2_with fail
    refine ⟨trivial, ?_⟩
    refine (callsIn_wide.2 (string_new w7 w6.heap.size _ _ v7 [116, 114, 97, 112, 32, 49] HB7.out HO7.out (by simp) r7.size)).mono ?_
    rintro e w8 ⟨rfl, r8⟩
    gi_wp2_with fail
    have hDW : D < W.heap.size := (Array.getElem?_eq_some_iff.1 hK).1
    have hs3 : w3.heap.size = w1.heap.size + 1 + 1 := by rw [HS3.out]; simp
    have hD' : w3.heap.size + 1 ≤ D := by simpa using hD
    have k5 := r5.heap hK (by simp; omega)
    have k6 := r6.heap k5 (by simp)
    have k7 := r7.heap k6 (by simp; omega)
    have k8 := r8.heap k7 (by have := r5.size; have := r6.size; omega)
    have hfin : Fr no w w8 := by
      have q5 : Fr no w w5 := (Fr.of_below hBe).trans' r5 (fun i hi _ => by simp at hi; omega)
      have q6 := q5.trans r6
      have q7 := q6.trans' r7 (fun i hi _ => by simp at hi; omega)
      exact q7.trans' r8 (fun i hi _ => by have := q6.size; omega)
    refine ⟨by simp, .inl ⟨_, _, rfl, run_takeDeferred k8, ?_⟩⟩
    refine ⟨.tuple #[.string trap1, .int .i64 0], ?_, rfl, fr_of_below ((hfin.below (Nat.le_refl _) (fun k hk => hk.elim)).trans (belowK_b (w := w) (Nat.le_refl _) _ D _ _ (by omega) k8 rfl rfl))⟩
    simp [results, Try.f24, go_sem]
    rfl
  case stop =>
    rintro D c pre W _ _ h _
    exact h.elim

end Go.Proofs.Ytdklbmggljakkaa

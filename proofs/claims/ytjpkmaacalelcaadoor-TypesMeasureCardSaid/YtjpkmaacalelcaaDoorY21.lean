/- What types are made of one: Pointer, Elem, and the document's (law24). -/
import Derived.Test.YtjpkmaacalelcaaDoorY20
set_option linter.unusedSimpArgs false
set_option linter.unusedVariables false
set_option linter.unusedSectionVars false
set_option linter.unnecessarySimpa false
set_option maxRecDepth 100000
namespace Go.Proofs.YtjpkmaacalelcaaDoor
open Go.RowKit Go.Ty Go.Deep

attribute [local go_sem] Program.isFuncB Program.isSliceB

variable {w w' w'' w0 : World}

def ptrS (t : Ty) : Ty × Nat := if 8 ≤ t.ms.length then (⟨0, 0, []⟩, 3) else (⟨t.b, t.s, -1 :: t.ms⟩, 0)
def elemS (t : Ty) : Ty × Nat := match t.ms with | [] => (⟨0, 0, []⟩, 11) | _ :: r => (⟨t.b, t.s, r⟩, 0)
/-- an answer: a type in memory of its own, and a fault -/
def TyPost (T : Ty × Nat) (w : World) (e : Ending) (w' : World) : Prop :=
  ∃ b s ms a c er, e = .returned (.tuple #[.agg #[.int .i64 b, .int .i64 s, .slice a (List.length ms) c], .int .i64 (er : Nat)]) ∧ w'.ownsRow w.heap.size 3 1 (.slice a ms.length c) ms.length (ints ms) ∧ T = (⟨b, s, ms⟩, er) ∧ Fr no w w'
theorem TyPost.none {T : Ty × Nat} {er : Nat} (h : T = (⟨0, 0, []⟩, er)) (r : Fr no w w') : TyPost T w (.returned (.tuple #[.agg #[.int .i64 0, .int .i64 0, .slice none 0 0], .int .i64 er])) w' :=
  ⟨0, 0, [], Option.none, 0, er, rfl, World.ownsRow_nil _ _ _ _, h, r⟩
theorem results_cs {P : Program} {fn : Func} {tmps : Array Value} {w : World} {d1 d2 : Tmp} {t1 : TypeId} {a1 : Addr} {v1 v2 : Value} (hr : fn.results = #[.cell d1 t1, .tmp d2])
    (h1 : tmps.getD d1 undef = .pointer (some a1)) (h2 : tmps.getD d2 undef = v2) (l1 : (loadVar t1 a1).run P w = .ok v1 w) : (results fn tmps).run P w = .ok (.tuple #[v1, v2]) w := by
  have h1' : tmps[d1]?.getD undef = .pointer (some a1) := by rw [← h1]; simp [Array.getD_eq_getD_getElem?]
  have h2' : tmps[d2]?.getD undef = v2 := by rw [← h2]; simp [Array.getD_eq_getD_getElem?]
  simp only [results, hr]
  simp [h1', h2', asAddr, l1]
theorem owns_lit1 {b B : Nat} {v : Value} {e : TypeId} (h : w.heap[b]? = some (.cells #[v] e (0, 0))) (hB : B ≤ b) : w.ownsRow B e 1 (.slice (some ⟨b, 0, none⟩) 1 1) 1 [v] :=
  ⟨rfl, .inr ⟨b, 1, #[v], rfl, hB, h, Nat.le_refl _, by unfold maxLen; omega, by simp, by simp⟩⟩

set_option maxHeartbeats 1000000 in
theorem pointer_ok (w : World) (t : Ty) (ma : Option Addr) (mc : Nat) (hm : TIn w ma mc t.ms) :
    Calls Tryd.prog 32 #[.agg #[.int .i64 t.b, .int .i64 t.s, .slice ma t.ms.length mc]] w (TyPost (ptrS t) w) := by
  obtain ⟨tb, ts, tms⟩ := t
  dsimp only at *
  have q1 := (Fr.refl no w).alloc (.cells #[.int .i64 tb, .int .i64 ts, .slice ma tms.length mc] 25)
  have h1 := heap_new w (.cells #[.int .i64 tb, .int .i64 ts, .slice ma tms.length mc] 25)
  have z1 := World.size_alloc w (.cells #[.int .i64 tb, .int .i64 ts, .slice ma tms.length mc] 25)
  have HM := Lib.hid hm
  clear hm
  go_enter Tryd.func32, Tryd.ntmps32
  go_upto_region 1 with fail
  generalize w.alloc (.cells #[.int .i64 tb, .int .i64 ts, .slice ma tms.length mc] 25) = w1 at *
  rw [← z1]
  have q2 := (Fr.refl no w1).alloc (.cells #[.int .i64 0, .int .i64 0, .slice none 0 0] 25)
  have h2 := heap_new w1 (.cells #[.int .i64 0, .int .i64 0, .slice none 0 0] 25)
  have H1 := Lib.hid (q2.heap h1 (by simp))
  have H2 := Lib.hid h2
  have R2 := Lib.hid (q1.trans q2)
  have q3 := World.size_alloc w1 (.cells #[.int .i64 0, .int .i64 0, .slice none 0 0] 25)
  generalize w1.alloc (.cells #[.int .i64 0, .int .i64 0, .slice none 0 0] 25) = w2 at *
  obtain ⟨TB, hTB⟩ : ∃ b, b = w.heap.size := ⟨_, rfl⟩
  obtain ⟨RB, hRB⟩ : ∃ b, b = w1.heap.size := ⟨_, rfl⟩
  rw [← hTB] at H1 ⊢
  rw [← hRB] at H2 ⊢
  have HZ : Hid (w.heap.size ≤ TB ∧ w.heap.size ≤ RB ∧ TB ≠ RB ∧ TB < w2.heap.size ∧ RB < w2.heap.size) := Lib.hid (by omega)
  clear hTB hRB z1 h1 h2 q1 q2 q3
  obtain ⟨f0, f1, f2⟩ := ce3 H1.out
  have g2 := frozen_of_heap (o := 2) H1.out
  by_cases hl8 : 8 ≤ tms.length
  · have hl8' : (8 : Int) ≤ tms.length := by omega
    have HR : Hid (ptrS ⟨tb, ts, tms⟩ = (⟨0, 0, []⟩, 3)) := Lib.hid (by unfold ptrS; rw [if_pos hl8])
    clear hl8
    go_wp2_with (refine wpList_store_row rfl 25 (.tmp 2) (.tmp 8) rfl RB #[.int .i64 0, .int .i64 0, .slice none 0 0] rfl rfl _ _ H2.out (by rw [infoTy]; rfl) rfl (by simp [Value.oneCell']) ?_; rw [act_put_none])
    refine bodyPost_ret (results_cs rfl rfl rfl (load_ty _ _ _ _ _ (setRow_heap _ _ _ _ _ _ H2.out))) rfl ?_
    exact TyPost.none HR.out (R2.out.trans' (fr_setRow (S := only [RB]) (Fr.refl _ w2) (.inl (by simp))) (fun k hk _ => by have := HZ.out; simp at hk; omega))
  · have hl8' : ¬ (8 : Int) ≤ tms.length := by omega
    have HR : Hid (ptrS ⟨tb, ts, tms⟩ = (⟨tb, ts, -1 :: tms⟩, 0)) := Lib.hid (by unfold ptrS; rw [if_neg hl8])
    have hp := heap_new2 w2 (.cells #[.int .i64 (-1)] 3) (.cells #[.slice (some ⟨w2.heap.size, 0, none⟩) 1 1, .slice ma tms.length mc] 23)
    have hq := heap_new2' w2 (.cells #[.int .i64 (-1)] 3) (.cells #[.slice (some ⟨w2.heap.size, 0, none⟩) 1 1, .slice ma tms.length mc] 23)
    have rp := ((Fr.refl no w2).alloc (.cells #[.int .i64 (-1)] 3)).alloc (.cells #[.slice (some ⟨w2.heap.size, 0, none⟩) 1 1, .slice ma tms.length mc] 23)
    have C := concat2 _ (w2.heap.size + 1) (.slice (some ⟨w2.heap.size, 0, none⟩) 1 1) (.slice ma tms.length mc) [-1] tms hq (reads_row1 hp) ((HM.out.fr R2.out).fr rp) (by simp) (by omega)
    rw [show ([-1] ++ tms) = (-1 :: tms) from rfl] at C
    simp only [List.length_cons] at C
    have HC := Lib.hid C
    have HP := Lib.hid rp
    have f3 : (w2.alloc (.cells #[.int .i64 (-1)] 3)).cell? ⟨TB, 2, none⟩ = some (.slice ma tms.length mc) := ((Fr.refl no w2).alloc _).cell f2 (by simp)
    clear C hp hq rp hl8
    go_wp2_with fail
    refine HC.out.mono ?_
    rintro e w5 ⟨v, rfl, ho, r5⟩
    obtain ⟨va, vc, rfl⟩ := owns_shape ho
    have H15 := Lib.hid ((HP.out.trans r5).heap H1.out (by simp))
    have H25 := Lib.hid ((HP.out.trans r5).heap H2.out (by simp))
    have R5 := Lib.hid (R2.out.trans (HP.out.trans r5))
    have HO := Lib.hid (owns_base ho (base' := w2.heap.size) (fun k hk => by have := (ho.lt k hk).1; have := HP.out.size; omega))
    have HW4 : Hid (w2.heap.size = w2.heap.size) := Lib.hid rfl
    clear f0 f1 f2 f3 g2 r5 ho HC H1 H2 HP
    obtain ⟨f0, f1, f2⟩ := ce3 H15.out
    have g2 := frozen_of_heap (o := 2) H15.out
    go_upto_region 4 with fail
    have r6 : Fr (only [TB]) w5 (w5.setCell ⟨TB, 2, none⟩ (.slice va (tms.length + 1) vc)) := (Fr.refl _ _).setCell _ _ (.inl (by simp))
    have H16 : Hid ((w5.setCell ⟨TB, 2, none⟩ (.slice va (tms.length + 1) vc)).heap[TB]? = some (.cells #[.int .i64 tb, .int .i64 ts, .slice va (tms.length + 1) vc] 25 (0, 0))) := Lib.hid (heap_setCell H15.out)
    have H26 := Lib.hid (r6.heap H25.out (by have := HZ.out; simp; omega))
    have HO6 := Lib.hid (owns_fr HO.out r6 (fun k hk e => by have := (HO.out.lt k hk).1; have := HZ.out; have := HW4.out; simp at e; omega))
    have R6 := Lib.hid (R5.out.trans' r6 (fun k hk _ => by have := HZ.out; simp at hk; omega))
    clear f0 f1 f2 g2 r6 H15 H25 R5
    generalize w5.setCell ⟨TB, 2, none⟩ (.slice va (tms.length + 1) vc) = w6 at *
    go_wp2_with (first
      | (refine wpList_load_row rfl 25 (.tmp 1) rfl TB rfl _ _ _ _ H16.out Tryd.underlying25 rfl (by rw [infoTy]; rfl) ?_; simp only [Act.put, List.setIfInBounds_toArray, List.set_cons_zero, List.set_cons_succ])
      | (refine wpList_store_row rfl 25 (.tmp 2) (.tmp 15) rfl RB #[.int .i64 tb, .int .i64 ts, .slice va (tms.length + 1) vc] rfl rfl _ _ H26.out (by rw [infoTy]; rfl) rfl (by simp [Value.oneCell']) ?_; rw [act_put_none]))
    have rx : Fr (only [RB]) w6 (w6.setRow RB #[.int .i64 tb, .int .i64 ts, .slice va (tms.length + 1) vc]) := fr_setRow (Fr.refl _ _) (.inl (by simp))
    refine bodyPost_ret (results_cs rfl rfl rfl (load_ty _ _ _ _ _ (setRow_heap _ _ _ _ _ _ H26.out))) rfl ?_
    exact ⟨tb, ts, -1 :: tms, va, vc, 0, rfl, owns_base (owns_fr HO6.out rx (fun k hk e => by have := (HO.out.lt k hk).1; have := HZ.out; have := HW4.out; simp at e; omega)) (fun k hk => by have := (HO.out.lt k hk).1; have := HW4.out; have := HZ.out; omega), HR.out, R6.out.trans' rx (fun k hk _ => by have := HZ.out; simp at hk; omega)⟩

set_option maxHeartbeats 1000000 in
theorem elem_ok (w : World) (t : Ty) (ma : Option Addr) (mc : Nat) (hm : TIn w ma mc t.ms) (hl : t.ms.length ≤ 100000) :
    Calls Tryd.prog 30 #[.agg #[.int .i64 t.b, .int .i64 t.s, .slice ma t.ms.length mc]] w (TyPost (elemS t) w) := by
  obtain ⟨tb, ts, tms⟩ := t
  dsimp only at *
  have q1 := (Fr.refl no w).alloc (.cells #[.int .i64 tb, .int .i64 ts, .slice ma tms.length mc] 25)
  have h1 := heap_new w (.cells #[.int .i64 tb, .int .i64 ts, .slice ma tms.length mc] 25)
  have z1 := World.size_alloc w (.cells #[.int .i64 tb, .int .i64 ts, .slice ma tms.length mc] 25)
  have HM := Lib.hid hm
  clear hm
  go_enter Tryd.func30, Tryd.ntmps30
  go_upto_region 1 with fail
  generalize w.alloc (.cells #[.int .i64 tb, .int .i64 ts, .slice ma tms.length mc] 25) = w1 at *
  rw [← z1]
  have q2 := (Fr.refl no w1).alloc (.cells #[.int .i64 0, .int .i64 0, .slice none 0 0] 25)
  have h2 := heap_new w1 (.cells #[.int .i64 0, .int .i64 0, .slice none 0 0] 25)
  have H1 := Lib.hid (q2.heap h1 (by simp))
  have H2 := Lib.hid h2
  have R2 := Lib.hid (q1.trans q2)
  have q3 := World.size_alloc w1 (.cells #[.int .i64 0, .int .i64 0, .slice none 0 0] 25)
  generalize w1.alloc (.cells #[.int .i64 0, .int .i64 0, .slice none 0 0] 25) = w2 at *
  obtain ⟨TB, hTB⟩ : ∃ b, b = w.heap.size := ⟨_, rfl⟩
  obtain ⟨RB, hRB⟩ : ∃ b, b = w1.heap.size := ⟨_, rfl⟩
  rw [← hTB] at H1 ⊢
  rw [← hRB] at H2 ⊢
  have HZ : Hid (w.heap.size ≤ TB ∧ w.heap.size ≤ RB ∧ TB ≠ RB ∧ TB < w2.heap.size ∧ RB < w2.heap.size) := Lib.hid (by omega)
  clear hTB hRB z1 h1 h2 q1 q2 q3
  obtain ⟨f0, f1, f2⟩ := ce3 H1.out
  have g2 := frozen_of_heap (o := 2) H1.out
  rcases tms with _ | ⟨m, rest⟩
  · have HR : Hid (elemS ⟨tb, ts, []⟩ = (⟨0, 0, []⟩, 11)) := Lib.hid rfl
    simp only [List.length_nil] at *
    go_wp2_with (refine wpList_store_row rfl 25 (.tmp 2) (.tmp 8) rfl RB #[.int .i64 0, .int .i64 0, .slice none 0 0] rfl rfl _ _ H2.out (by rw [infoTy]; rfl) rfl (by simp [Value.oneCell']) ?_; rw [act_put_none])
    refine bodyPost_ret (results_cs rfl rfl rfl (load_ty _ _ _ _ _ (setRow_heap _ _ _ _ _ _ H2.out))) rfl ?_
    exact TyPost.none HR.out (R2.out.trans' (fr_setRow (S := only [RB]) (Fr.refl _ w2) (.inl (by simp))) (fun k hk _ => by have := HZ.out; simp at hk; omega))
  · have HR : Hid (elemS ⟨tb, ts, m :: rest⟩ = (⟨tb, ts, rest⟩, 0)) := Lib.hid rfl
    have hz : (((rest.length + 1 : Nat) : Int) == 0) = false := by rw [beq_eq_false_iff_ne]; omega
    obtain ⟨b, o, rfl, hm0, hc1, hc2, htl⟩ := reads_tail (v := .int .i64 m) (vs := ints rest) (by simpa [TIn, ints] using HM.out.fr R2.out)
    have htl' : TIn w2 (if mc = 1 then some ⟨b, o, none⟩ else some ⟨b, o + 1, none⟩) (mc - 1) rest := by simpa [TIn, ints] using htl
    have hlr : (ints rest).length = rest.length := by simp [ints]
    rw [hlr] at hc1
    have HC := Lib.hid (clone_ok w2 _ _ rest htl' (by simp at hl; omega))
    have hw1 : (1 : Int) ≤ (rest.length : Int) + 1 := by omega
    unfold maxLen at hc2
    clear htl htl' hlr hm0 hl
    rw [List.length_cons] at *
    by_cases hmc : mc = 1
    · subst hmc
      rw [if_pos rfl] at HC
      obtain rfl : rest = [] := List.length_eq_zero_iff.1 (by omega)
      simp only [List.length_nil, Nat.sub_self] at *
      go_wp2_with fail
      refine HC.out.mono ?_
      rintro e w5 ⟨va, vc, rfl, ho, r5⟩
      have H15 := Lib.hid (r5.heap H1.out (by simp))
      have H25 := Lib.hid (r5.heap H2.out (by simp))
      have R5 := Lib.hid (R2.out.trans r5)
      have HO := Lib.hid ho
      have HW4 : Hid (w2.heap.size = w2.heap.size) := Lib.hid rfl
      clear f0 f1 f2 g2 r5 ho HC H1 H2 hw1 hz hc1 hc2
      obtain ⟨f0, f1, f2⟩ := ce3 H15.out
      have g2 := frozen_of_heap (o := 2) H15.out
      go_upto_region 4 with fail
      have r6 : Fr (only [TB]) w5 (w5.setCell ⟨TB, 2, none⟩ (.slice va (0) vc)) := (Fr.refl _ _).setCell _ _ (.inl (by simp))
      have H16 : Hid ((w5.setCell ⟨TB, 2, none⟩ (.slice va (0) vc)).heap[TB]? = some (.cells #[.int .i64 tb, .int .i64 ts, .slice va (0) vc] 25 (0, 0))) := Lib.hid (heap_setCell H15.out)
      have H26 := Lib.hid (r6.heap H25.out (by have := HZ.out; simp; omega))
      have HO6 := Lib.hid (owns_fr HO.out r6 (fun k hk e => by have := (HO.out.lt k hk).1; have := HZ.out; have := HW4.out; simp at e; omega))
      have R6 := Lib.hid (R5.out.trans' r6 (fun k hk _ => by have := HZ.out; simp at hk; omega))
      clear f0 f1 f2 g2 r6 H15 H25 R5
      generalize w5.setCell ⟨TB, 2, none⟩ (.slice va (0) vc) = w6 at *
      go_wp2_with (first
        | (refine wpList_load_row rfl 25 (.tmp 1) rfl TB rfl _ _ _ _ H16.out Tryd.underlying25 rfl (by rw [infoTy]; rfl) ?_; simp only [Act.put, List.setIfInBounds_toArray, List.set_cons_zero, List.set_cons_succ])
        | (refine wpList_store_row rfl 25 (.tmp 2) (.tmp 14) rfl RB #[.int .i64 tb, .int .i64 ts, .slice va (0) vc] rfl rfl _ _ H26.out (by rw [infoTy]; rfl) rfl (by simp [Value.oneCell']) ?_; rw [act_put_none]))
      have rx : Fr (only [RB]) w6 (w6.setRow RB #[.int .i64 tb, .int .i64 ts, .slice va (0) vc]) := fr_setRow (Fr.refl _ _) (.inl (by simp))
      refine bodyPost_ret (results_cs rfl rfl rfl (load_ty _ _ _ _ _ (setRow_heap _ _ _ _ _ _ H26.out))) rfl ?_
      exact ⟨tb, ts, [], va, vc, 0, rfl, owns_base (owns_fr HO6.out rx (fun k hk e => by have := (HO.out.lt k hk).1; have := HZ.out; have := HW4.out; simp at e; omega)) (fun k hk => by have := (HO.out.lt k hk).1; have := HW4.out; have := HZ.out; omega), HR.out, R6.out.trans' rx (fun k hk _ => by have := HZ.out; simp at hk; omega)⟩
    · rw [if_neg hmc] at HC
      go_wp2_with fail
      refine HC.out.mono ?_
      rintro e w5 ⟨va, vc, rfl, ho, r5⟩
      have H15 := Lib.hid (r5.heap H1.out (by simp))
      have H25 := Lib.hid (r5.heap H2.out (by simp))
      have R5 := Lib.hid (R2.out.trans r5)
      have HO := Lib.hid ho
      have HW4 : Hid (w2.heap.size = w2.heap.size) := Lib.hid rfl
      clear f0 f1 f2 g2 r5 ho HC H1 H2 hw1 hz hc1 hc2 hmc
      obtain ⟨f0, f1, f2⟩ := ce3 H15.out
      have g2 := frozen_of_heap (o := 2) H15.out
      go_upto_region 4 with fail
      have r6 : Fr (only [TB]) w5 (w5.setCell ⟨TB, 2, none⟩ (.slice va (rest.length) vc)) := (Fr.refl _ _).setCell _ _ (.inl (by simp))
      have H16 : Hid ((w5.setCell ⟨TB, 2, none⟩ (.slice va (rest.length) vc)).heap[TB]? = some (.cells #[.int .i64 tb, .int .i64 ts, .slice va (rest.length) vc] 25 (0, 0))) := Lib.hid (heap_setCell H15.out)
      have H26 := Lib.hid (r6.heap H25.out (by have := HZ.out; simp; omega))
      have HO6 := Lib.hid (owns_fr HO.out r6 (fun k hk e => by have := (HO.out.lt k hk).1; have := HZ.out; have := HW4.out; simp at e; omega))
      have R6 := Lib.hid (R5.out.trans' r6 (fun k hk _ => by have := HZ.out; simp at hk; omega))
      clear f0 f1 f2 g2 r6 H15 H25 R5
      generalize w5.setCell ⟨TB, 2, none⟩ (.slice va (rest.length) vc) = w6 at *
      go_wp2_with (first
        | (refine wpList_load_row rfl 25 (.tmp 1) rfl TB rfl _ _ _ _ H16.out Tryd.underlying25 rfl (by rw [infoTy]; rfl) ?_; simp only [Act.put, List.setIfInBounds_toArray, List.set_cons_zero, List.set_cons_succ])
        | (refine wpList_store_row rfl 25 (.tmp 2) (.tmp 14) rfl RB #[.int .i64 tb, .int .i64 ts, .slice va (rest.length) vc] rfl rfl _ _ H26.out (by rw [infoTy]; rfl) rfl (by simp [Value.oneCell']) ?_; rw [act_put_none]))
      have rx : Fr (only [RB]) w6 (w6.setRow RB #[.int .i64 tb, .int .i64 ts, .slice va (rest.length) vc]) := fr_setRow (Fr.refl _ _) (.inl (by simp))
      refine bodyPost_ret (results_cs rfl rfl rfl (load_ty _ _ _ _ _ (setRow_heap _ _ _ _ _ _ H26.out))) rfl ?_
      exact ⟨tb, ts, rest, va, vc, 0, rfl, owns_base (owns_fr HO6.out rx (fun k hk e => by have := (HO.out.lt k hk).1; have := HZ.out; have := HW4.out; simp at e; omega)) (fun k hk => by have := (HO.out.lt k hk).1; have := HW4.out; have := HZ.out; omega), HR.out, R6.out.trans' rx (fun k hk _ => by have := HZ.out; simp at hk; omega)⟩

end Go.Proofs.YtjpkmaacalelcaaDoor

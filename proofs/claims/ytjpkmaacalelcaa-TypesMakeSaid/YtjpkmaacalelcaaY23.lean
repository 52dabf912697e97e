/- Which types are made of one: the walk (law24). -/
import Derived.Test.YtjpkmaacalelcaaY17
import Derived.Test.YtjpkmaacalelcaaY22
set_option linter.unusedSimpArgs false
set_option linter.unusedVariables false
set_option linter.unusedSectionVars false
set_option linter.unnecessarySimpa false
namespace Go.Proofs.Ytjpkmaacalelcaa
open Go.RowKit Go.Ty Go.Deep

attribute [local go_sem] Program.isFuncB Program.isSliceB

variable {w w' w'' w0 : World}

theorem wpList_guarded {P : Program} {ops : Array Oper} {Q : Exit → Act → World → Prop} {a : Act} {w : World} {rest : List Oper} {o : Oper} (hw : Region.wanted o (yielded ops a.tmps) = true)
    (h : ∀ K : Act → World → Prop, (∀ a w, wpList P ops Q rest a w → K a w) → o.wp P a w K Q) : wpList P ops Q (o :: rest) a w := by
  unfold wpList
  rw [if_pos hw]
  exact .inl (h _ (fun a w h => h))
theorem own_setCell {B z g n cap k : Nat} {e : TypeId} {xs : List Value} (h : w.ownsRow B e z (.slice (some ⟨g, 0, none⟩) n cap) n xs) (v : Value) : (w.setCell ⟨g, k, none⟩ v).ownsRow B e z (.slice (some ⟨g, 0, none⟩) n cap) n (xs.set k v) := by
  rcases h.2 with ⟨hv, h0⟩ | ⟨g', cap', cur, hv, hb, hg, h1, h2, h3, h4⟩
  · cases hv
  · cases hv
    refine ⟨by rw [List.length_set]; exact h.1, .inr ⟨g, cap, _, rfl, hb, heap_setCell hg, h1, h2, by simp [h3], ?_⟩⟩
    rw [Array.toList_setIfInBounds, List.take_set, h4]
theorem owns_spot {B n cap i : Nat} {e : TypeId} {a : Option Addr} {xs : List Value} (h : w.ownsRow B e 1 (.slice a n cap) n xs) (hi : i < n) :
    ∃ g v, a = some ⟨g, 0, none⟩ ∧ w.cell? ⟨g, i, none⟩ = some v ∧ w.frozen? ⟨g, i, none⟩ = false ∧ (Value.slice a n cap).ownBlock = some g := by
  rcases h.2 with ⟨hv, h0⟩ | ⟨g', cap', cur, hv, hb, hg, h1, h2, h3, h4⟩
  · omega
  · cases hv
    have hlt : i < cur.size := by omega
    exact ⟨g', cur[i], rfl, cell_of_heap hg (Array.getElem?_eq_getElem hlt), frozen_of_heap hg, rfl⟩
theorem TIn.keep {S : Nat → Prop} {ma : Option Addr} {mc : Nat} {ms : List Int} (h : TIn w ma mc ms) (r : Fr S w w') (hS : ∀ k, S k → w.heap.size ≤ k) : TIn w' ma mc ms := by
  rcases h with h | ⟨a, cap, h0, h1, h2, h3, h4⟩
  · exact .inl h
  · refine .inr ⟨a, cap, h0, h1, h2, h3, fun j u hu => ?_⟩
    have := h4 j u hu
    have hlt : a.block < w.heap.size := by
      have e : (a.add j).block = a.block := by unfold Addr.add; split <;> rfl
      have h5 := cell_lt (b := (a.add j).block) (o := (a.add j).off) (v := u) (by rw [← spot_none this]; exact this)
      omega
    exact r.cell this (fun hs => by
      have e : (a.add j).block = a.block := by unfold Addr.add; split <;> rfl
      rw [e] at hs
      have := hS _ hs
      omega)
/-- the types that lie in variables -/
structure MK (B5 B6 B11 B12 B14 B16 B18 : Nat) (v5 v6 v11 v12 v14 v16 v18 : Array Value) (w : World) : Prop where
  h5 : w.heap[B5]? = some (.cells v5 30 (0, 0))
  h6 : w.heap[B6]? = some (.cells v6 30 (0, 0))
  h11 : w.heap[B11]? = some (.cells v11 30 (0, 0))
  h12 : w.heap[B12]? = some (.cells v12 30 (0, 0))
  h14 : w.heap[B14]? = some (.cells v14 30 (0, 0))
  h16 : w.heap[B16]? = some (.cells v16 30 (0, 0))
  h18 : w.heap[B18]? = some (.cells v18 30 (0, 0))
theorem MK.fr {B5 B6 B11 B12 B14 B16 B18 : Nat} {v5 v6 v11 v12 v14 v16 v18 : Array Value} (h : MK B5 B6 B11 B12 B14 B16 B18 v5 v6 v11 v12 v14 v16 v18 w) (r : Fr no w w') : MK B5 B6 B11 B12 B14 B16 B18 v5 v6 v11 v12 v14 v16 v18 w' :=
  ⟨r.heap h.h5 (by simp), r.heap h.h6 (by simp), r.heap h.h11 (by simp), r.heap h.h12 (by simp), r.heap h.h14 (by simp), r.heap h.h16 (by simp), r.heap h.h18 (by simp)⟩
theorem ptrS_len {b s tb ts : Int} {ms tms : List Int} {er : Nat} (h : ptrS ⟨tb, ts, tms⟩ = (⟨b, s, ms⟩, er)) (hl : tms.length ≤ 12) : ms.length ≤ 100000 := by
  unfold ptrS at h
  dsimp only at h
  split at h
  · simp only [Prod.mk.injEq, Ty.mk.injEq] at h
    rw [← h.1.2.2]; simp
  · simp only [Prod.mk.injEq, Ty.mk.injEq] at h
    rw [← h.1.2.2]; simp; omega
theorem elemS_len {b s tb ts : Int} {ms tms : List Int} {er : Nat} (h : elemS ⟨tb, ts, tms⟩ = (⟨b, s, ms⟩, er)) (hl : tms.length ≤ 12) : ms.length ≤ 100000 := by
  cases tms with
  | nil =>
    simp only [elemS, Prod.mk.injEq, Ty.mk.injEq] at h
    rw [← h.1.2.2]; simp
  | cons x r =>
    simp only [elemS, Prod.mk.injEq, Ty.mk.injEq] at h
    rw [← h.1.2.2]; simp at hl; omega
theorem heap_lt {b : Nat} {x : Obj} (h : w.heap[b]? = some x) : b < w.heap.size := (Array.getElem?_eq_some_iff.1 h).1

set_option maxRecDepth 100000 in
set_option maxHeartbeats 8000000 in
theorem make_ok (w : World) (t u : Ty) (a b : Int) (x : Nat) (ma na : Option Addr) (mc nc : Nat) (hm : TIn w ma mc t.ms) (hn : TIn w na nc u.ms) (hx : x < 18446744073709551616) :
    Calls Try.prog 4 #[.agg #[.int .i64 t.b, .int .i64 t.s, .slice ma t.ms.length mc], .agg #[.int .i64 u.b, .int .i64 u.s, .slice na u.ms.length nc], .int .i64 a, .int .i64 b, .int .u64 x] w
      fun e w' => e = .returned (.bool true) ∧ Fr no w w' := by
  obtain ⟨tb, ts, tms⟩ := t
  obtain ⟨ub, us, ums⟩ := u
  dsimp only at *
  have q5 := heap_new2 w (.cells #[.int .i64 tb, .int .i64 ts, .slice ma tms.length mc] 30) (.cells #[.int .i64 ub, .int .i64 us, .slice na ums.length nc] 30)
  have q6 := heap_new2' w (.cells #[.int .i64 tb, .int .i64 ts, .slice ma tms.length mc] 30) (.cells #[.int .i64 ub, .int .i64 us, .slice na ums.length nc] 30)
  have r0 : Fr no w ((w.alloc (.cells #[.int .i64 tb, .int .i64 ts, .slice ma tms.length mc] 30)).alloc (.cells #[.int .i64 ub, .int .i64 us, .slice na ums.length nc] 30)) := ((Fr.refl no w).alloc _).alloc _
  have H5_0 := Lib.hid q5
  have H6_0 := Lib.hid q6
  have TT_0 := Lib.hid (hm.fr r0)
  have TU_0 := Lib.hid (hn.fr r0)
  have R0 := Lib.hid r0
  clear q5 q6 r0 hm hn
  go_enter Try.func4, Try.ntmps4
  go_upto_region 1 with fail
  generalize (w.alloc (.cells #[.int .i64 tb, .int .i64 ts, .slice ma tms.length mc] 30)).alloc (.cells #[.int .i64 ub, .int .i64 us, .slice na ums.length nc] 30) = w0 at *
  generalize w.heap.size + 1 = B6 at *
  generalize hB5 : w.heap.size = B5 at *
  clear hB5
  go_wp2_with (refine wpList_load_row rfl 30 (.tmp 5) rfl B5 rfl _ _ _ _ H5_0.out Try.underlying30 rfl (by rw [infoTy]; rfl) ?_; simp only [Act.put, List.setIfInBounds_toArray, List.set_cons_zero, List.set_cons_succ])
  refine (longt_ok w0 tb ts ma tms.length mc).mono ?_
  rintro e w1 ⟨rfl, r1⟩
  have H5_1 := Lib.hid (r1.heap H5_0.out (by simp))
  have H6_1 := Lib.hid (r1.heap H6_0.out (by simp))
  have TT_1 := Lib.hid (TT_0.out.fr r1)
  have TU_1 := Lib.hid (TU_0.out.fr r1)
  have R1 := Lib.hid (R0.out.trans r1)
  clear R0 H5_0 H6_0 TT_0 TU_0
  clear r1
  by_cases hl1 : 12 < tms.length
  · rw [decide_eq_true hl1]
    clear hl1
    go_wp2_with fail
    refine (awake_ok _).mono ?_
    rintro e wz ⟨rfl, rz⟩
    have RZ := Lib.hid (R1.out.trans rz)
    clear rz
    go_wp2_with fail
    go_ret
    exact ⟨rfl, RZ.out⟩
  rw [decide_eq_false hl1]
  go_wp2_with (refine wpList_guarded (by rfl) ?_; intro KK hKK; refine wp_load_row 30 (.tmp 6) rfl B6 rfl _ _ _ _ H6_1.out Try.underlying30 rfl (by rw [infoTy]; rfl) ?_; refine hKK _ _ ?_; clear hKK; simp only [Act.put, List.setIfInBounds_toArray, List.set_cons_zero, List.set_cons_succ])
  refine (longt_ok w1 ub us na ums.length nc).mono ?_
  rintro e w2 ⟨rfl, r2⟩
  have H5_2 := Lib.hid (r2.heap H5_1.out (by simp))
  have H6_2 := Lib.hid (r2.heap H6_1.out (by simp))
  have TT_2 := Lib.hid (TT_1.out.fr r2)
  have TU_2 := Lib.hid (TU_1.out.fr r2)
  have R2 := Lib.hid (R1.out.trans r2)
  clear R1 H5_1 H6_1 TT_1 TU_1
  clear r2
  by_cases hl2 : 12 < ums.length
  · rw [decide_eq_true hl2]
    clear hl1 hl2
    go_wp2_with fail
    refine (awake_ok _).mono ?_
    rintro e wz ⟨rfl, rz⟩
    have RZ := Lib.hid (R2.out.trans rz)
    clear rz
    go_wp2_with fail
    go_ret
    exact ⟨rfl, RZ.out⟩
  rw [decide_eq_false hl2]
  have HL1 : Hid (tms.length ≤ 12 ∧ ums.length ≤ 12) := Lib.hid (by omega)
  clear hl1 hl2
  go_wp2_with (refine wpList_load_row rfl 30 (.tmp 5) rfl B5 rfl _ _ _ _ H5_2.out Try.underlying30 rfl (by rw [infoTy]; rfl) ?_; simp only [Act.put, List.setIfInBounds_toArray, List.set_cons_zero, List.set_cons_succ])
  refine (copyt_ok w2 ⟨tb, ts, tms⟩ ma mc TT_2.out (by have := HL1.out; dsimp only; omega)).mono ?_
  rintro e w3 ⟨ia, ic, rfl, ho3, r3⟩
  dsimp only at ho3 ⊢
  have H5_3 := Lib.hid (r3.heap H5_2.out (by simp))
  have H6_3 := Lib.hid (r3.heap H6_2.out (by simp))
  have TT_3 := Lib.hid (TT_2.out.fr r3)
  have TU_3 := Lib.hid (TU_2.out.fr r3)
  have R3 := Lib.hid (R2.out.trans r3)
  clear R2 H5_2 H6_2 TT_2 TU_2
  have TI_3 : Hid (TIn w3 ia ic tms) := Lib.hid (owns_reads ho3)
  clear ho3 r3
  have HZ := Lib.hid (heap_new w3 (.cells #[.int .i64 0, .int .i64 0, .slice none 0 0] 30))
  have H11_4 := Lib.hid (setRow_heap _ _ _ #[.int .i64 tb, .int .i64 ts, .slice ia tms.length ic] _ _ HZ.out)
  have r4 : Fr no w3 ((w3.alloc (.cells #[.int .i64 0, .int .i64 0, .slice none 0 0] 30)).setRow w3.heap.size #[.int .i64 tb, .int .i64 ts, .slice ia tms.length ic]) := fr_setRow ((Fr.refl no w3).alloc _) (.inr (Nat.le_refl _))
  have H5_4 := Lib.hid (r4.heap H5_3.out (by simp))
  have H6_4 := Lib.hid (r4.heap H6_3.out (by simp))
  have TT_4 := Lib.hid (TT_3.out.fr r4)
  have TU_4 := Lib.hid (TU_3.out.fr r4)
  have TI_4 := Lib.hid (TI_3.out.fr r4)
  have R4 := Lib.hid (R3.out.trans r4)
  clear R3 H5_3 H6_3 TT_3 TU_3 TI_3
  clear r4
  go_upto_region 4 with (refine wpList_store_row rfl 30 (.tmp 11) (.tmp 31) rfl w3.heap.size #[.int .i64 tb, .int .i64 ts, .slice ia tms.length ic] rfl rfl _ _ HZ.out (by rw [infoTy]; rfl) rfl (by simp [Value.oneCell']) ?_; rw [act_put_none])
  clear HZ
  generalize (w3.alloc (.cells #[.int .i64 0, .int .i64 0, .slice none 0 0] 30)).setRow w3.heap.size #[.int .i64 tb, .int .i64 ts, .slice ia tms.length ic] = w4 at *
  generalize w3.heap.size = B11 at *
  go_wp2_with (refine wpList_load_row rfl 30 (.tmp 11) rfl B11 rfl _ _ _ _ H11_4.out Try.underlying30 rfl (by rw [infoTy]; rfl) ?_; simp only [Act.put, List.setIfInBounds_toArray, List.set_cons_zero, List.set_cons_succ])
  refine (pointer_ok w4 ⟨tb, ts, tms⟩ ia ic TI_4.out).mono ?_
  rintro e w5 ⟨pb, ps, pms, pa, pc, pr, rfl, ho, hT, r5⟩
  have TP := Lib.hid hT
  clear hT
  have H5_5 := Lib.hid (r5.heap H5_4.out (by simp))
  have H6_5 := Lib.hid (r5.heap H6_4.out (by simp))
  have TT_5 := Lib.hid (TT_4.out.fr r5)
  have TU_5 := Lib.hid (TU_4.out.fr r5)
  have TI_5 := Lib.hid (TI_4.out.fr r5)
  have H11_5 := Lib.hid (r5.heap H11_4.out (by simp))
  have R5 := Lib.hid (R4.out.trans r5)
  clear R4 H5_4 H6_4 TT_4 TU_4 TI_4 H11_4
  have Tp_5 : Hid (TIn w5 pa pc pms) := Lib.hid (owns_reads ho)
  clear ho r5
  have HZ := Lib.hid (heap_new w5 (.cells #[.int .i64 0, .int .i64 0, .slice none 0 0] 30))
  have H12_6 := Lib.hid (setRow_heap _ _ _ #[.int .i64 pb, .int .i64 ps, .slice pa pms.length pc] _ _ HZ.out)
  have r6 : Fr no w5 ((w5.alloc (.cells #[.int .i64 0, .int .i64 0, .slice none 0 0] 30)).setRow w5.heap.size #[.int .i64 pb, .int .i64 ps, .slice pa pms.length pc]) := fr_setRow ((Fr.refl no w5).alloc _) (.inr (Nat.le_refl _))
  have H5_6 := Lib.hid (r6.heap H5_5.out (by simp))
  have H6_6 := Lib.hid (r6.heap H6_5.out (by simp))
  have TT_6 := Lib.hid (TT_5.out.fr r6)
  have TU_6 := Lib.hid (TU_5.out.fr r6)
  have TI_6 := Lib.hid (TI_5.out.fr r6)
  have H11_6 := Lib.hid (r6.heap H11_5.out (by simp))
  have Tp_6 := Lib.hid (Tp_5.out.fr r6)
  have R6 := Lib.hid (R5.out.trans r6)
  clear R5 H5_5 H6_5 TT_5 TU_5 TI_5 H11_5 Tp_5
  clear r6
  go_upto_region 5 with (refine wpList_store_row rfl 30 (.tmp 12) (.tmp 35) rfl w5.heap.size #[.int .i64 pb, .int .i64 ps, .slice pa pms.length pc] rfl rfl _ _ HZ.out (by rw [infoTy]; rfl) rfl (by simp [Value.oneCell']) ?_; rw [act_put_none])
  clear HZ
  generalize (w5.alloc (.cells #[.int .i64 0, .int .i64 0, .slice none 0 0] 30)).setRow w5.heap.size #[.int .i64 pb, .int .i64 ps, .slice pa pms.length pc] = w6 at *
  generalize w5.heap.size = B12 at *
  go_wp2_with (refine wpList_load_row rfl 30 (.tmp 5) rfl B5 rfl _ _ _ _ H5_6.out Try.underlying30 rfl (by rw [infoTy]; rfl) ?_; simp only [Act.put, List.setIfInBounds_toArray, List.set_cons_zero, List.set_cons_succ])
  refine (rpointer_ok w6 ⟨tb, ts, tms⟩ ma mc TT_6.out).mono ?_
  rintro e w7 ⟨qb, qs, qms, qa, qc, qr, rfl, ho, hT, r7⟩
  have hq := TP.out.symm.trans hT
  simp only [Prod.mk.injEq, Ty.mk.injEq] at hq
  obtain ⟨⟨rfl, rfl, rfl⟩, rfl⟩ := hq
  clear hT
  have H5_7 := Lib.hid (r7.heap H5_6.out (by simp))
  have H6_7 := Lib.hid (r7.heap H6_6.out (by simp))
  have TT_7 := Lib.hid (TT_6.out.fr r7)
  have TU_7 := Lib.hid (TU_6.out.fr r7)
  have TI_7 := Lib.hid (TI_6.out.fr r7)
  have H11_7 := Lib.hid (r7.heap H11_6.out (by simp))
  have Tp_7 := Lib.hid (Tp_6.out.fr r7)
  have H12_7 := Lib.hid (r7.heap H12_6.out (by simp))
  have R7 := Lib.hid (R6.out.trans r7)
  clear R6 H5_6 H6_6 TT_6 TU_6 TI_6 H11_6 Tp_6 H12_6
  have Tq_7 : Hid (TIn w7 qa qc pms) := Lib.hid (owns_reads ho)
  clear ho r7
  have HZ := Lib.hid (heap_new w7 (.cells #[.int .i64 0, .int .i64 0, .slice none 0 0] 30))
  have H14_8 := Lib.hid (setRow_heap _ _ _ #[.int .i64 pb, .int .i64 ps, .slice qa pms.length qc] _ _ HZ.out)
  have r8 : Fr no w7 ((w7.alloc (.cells #[.int .i64 0, .int .i64 0, .slice none 0 0] 30)).setRow w7.heap.size #[.int .i64 pb, .int .i64 ps, .slice qa pms.length qc]) := fr_setRow ((Fr.refl no w7).alloc _) (.inr (Nat.le_refl _))
  have H5_8 := Lib.hid (r8.heap H5_7.out (by simp))
  have H6_8 := Lib.hid (r8.heap H6_7.out (by simp))
  have TT_8 := Lib.hid (TT_7.out.fr r8)
  have TU_8 := Lib.hid (TU_7.out.fr r8)
  have TI_8 := Lib.hid (TI_7.out.fr r8)
  have H11_8 := Lib.hid (r8.heap H11_7.out (by simp))
  have Tp_8 := Lib.hid (Tp_7.out.fr r8)
  have H12_8 := Lib.hid (r8.heap H12_7.out (by simp))
  have Tq_8 := Lib.hid (Tq_7.out.fr r8)
  have R8 := Lib.hid (R7.out.trans r8)
  clear R7 H5_7 H6_7 TT_7 TU_7 TI_7 H11_7 Tp_7 H12_7 Tq_7
  clear r8
  go_upto_region 6 with (refine wpList_store_row rfl 30 (.tmp 14) (.tmp 40) rfl w7.heap.size #[.int .i64 pb, .int .i64 ps, .slice qa pms.length qc] rfl rfl _ _ HZ.out (by rw [infoTy]; rfl) rfl (by simp [Value.oneCell']) ?_; rw [act_put_none])
  clear HZ
  generalize (w7.alloc (.cells #[.int .i64 0, .int .i64 0, .slice none 0 0] 30)).setRow w7.heap.size #[.int .i64 pb, .int .i64 ps, .slice qa pms.length qc] = w8 at *
  generalize w7.heap.size = B14 at *
  go_wp2_with (refine wpList_load_row rfl 30 (.tmp 11) rfl B11 rfl _ _ _ _ H11_8.out Try.underlying30 rfl (by rw [infoTy]; rfl) ?_; simp only [Act.put, List.setIfInBounds_toArray, List.set_cons_zero, List.set_cons_succ])
  have HQ5 := H5_8
  have HQ6 := H6_8
  have HQ11 := H11_8
  have TT0 := TT_8
  have TI0 := TI_8
  have RW0 := R8
  have RB_8 := Lib.hid (Fr.refl no w8)
  refine (elem_ok w8 ⟨tb, ts, tms⟩ ia ic TI_8.out (by have := HL1.out; dsimp only; omega)).mono ?_
  rintro e w9 ⟨rb, rs, rms, ra, rc, rr, rfl, ho, hT, r9⟩
  have TE := Lib.hid hT
  clear hT
  have H5_9 := Lib.hid (r9.heap H5_8.out (by simp))
  have H6_9 := Lib.hid (r9.heap H6_8.out (by simp))
  have TT_9 := Lib.hid (TT_8.out.fr r9)
  have TU_9 := Lib.hid (TU_8.out.fr r9)
  have TI_9 := Lib.hid (TI_8.out.fr r9)
  have H11_9 := Lib.hid (r9.heap H11_8.out (by simp))
  have Tp_9 := Lib.hid (Tp_8.out.fr r9)
  have H12_9 := Lib.hid (r9.heap H12_8.out (by simp))
  have Tq_9 := Lib.hid (Tq_8.out.fr r9)
  have H14_9 := Lib.hid (r9.heap H14_8.out (by simp))
  have RB_9 := Lib.hid (RB_8.out.trans r9)
  have R9 := Lib.hid (R8.out.trans r9)
  clear R8 H5_8 H6_8 TT_8 TU_8 TI_8 H11_8 Tp_8 H12_8 Tq_8 H14_8 RB_8
  have OR_9 := Lib.hid ho
  have HK : Hid (∀ k, (Value.slice ra rms.length rc).ownBlock = some k → w8.heap.size ≤ k ∧ k < w9.heap.size) := Lib.hid (fun k hk => ho.lt k hk)
  have Tr_9 : Hid (TIn w9 ra rc rms) := Lib.hid (owns_reads ho)
  clear ho r9
  have HZ := Lib.hid (heap_new w9 (.cells #[.int .i64 0, .int .i64 0, .slice none 0 0] 30))
  have H16_10 := Lib.hid (setRow_heap _ _ _ #[.int .i64 rb, .int .i64 rs, .slice ra rms.length rc] _ _ HZ.out)
  have r10 : Fr no w9 ((w9.alloc (.cells #[.int .i64 0, .int .i64 0, .slice none 0 0] 30)).setRow w9.heap.size #[.int .i64 rb, .int .i64 rs, .slice ra rms.length rc]) := fr_setRow ((Fr.refl no w9).alloc _) (.inr (Nat.le_refl _))
  have H5_10 := Lib.hid (r10.heap H5_9.out (by simp))
  have H6_10 := Lib.hid (r10.heap H6_9.out (by simp))
  have TT_10 := Lib.hid (TT_9.out.fr r10)
  have TU_10 := Lib.hid (TU_9.out.fr r10)
  have TI_10 := Lib.hid (TI_9.out.fr r10)
  have H11_10 := Lib.hid (r10.heap H11_9.out (by simp))
  have Tp_10 := Lib.hid (Tp_9.out.fr r10)
  have H12_10 := Lib.hid (r10.heap H12_9.out (by simp))
  have Tq_10 := Lib.hid (Tq_9.out.fr r10)
  have H14_10 := Lib.hid (r10.heap H14_9.out (by simp))
  have RB_10 := Lib.hid (RB_9.out.trans r10)
  have OR_10 := Lib.hid (owns_fr OR_9.out r10 (by simp))
  have Tr_10 := Lib.hid (Tr_9.out.fr r10)
  have R10 := Lib.hid (R9.out.trans r10)
  clear R9 H5_9 H6_9 TT_9 TU_9 TI_9 H11_9 Tp_9 H12_9 Tq_9 H14_9 RB_9 OR_9 Tr_9
  clear r10
  go_upto_region 7 with (refine wpList_store_row rfl 30 (.tmp 16) (.tmp 45) rfl w9.heap.size #[.int .i64 rb, .int .i64 rs, .slice ra rms.length rc] rfl rfl _ _ HZ.out (by rw [infoTy]; rfl) rfl (by simp [Value.oneCell']) ?_; rw [act_put_none])
  clear HZ
  generalize (w9.alloc (.cells #[.int .i64 0, .int .i64 0, .slice none 0 0] 30)).setRow w9.heap.size #[.int .i64 rb, .int .i64 rs, .slice ra rms.length rc] = w10 at *
  generalize w9.heap.size = B16 at *
  go_wp2_with (refine wpList_load_row rfl 30 (.tmp 5) rfl B5 rfl _ _ _ _ H5_10.out Try.underlying30 rfl (by rw [infoTy]; rfl) ?_; simp only [Act.put, List.setIfInBounds_toArray, List.set_cons_zero, List.set_cons_succ])
  refine (relem_ok w10 ⟨tb, ts, tms⟩ ma mc TT_10.out (by have := HL1.out; dsimp only; omega)).mono ?_
  rintro e w11 ⟨sb, ss, sms, sa, sc, sr, rfl, ho, hT, r11⟩
  have hq := TE.out.symm.trans hT
  simp only [Prod.mk.injEq, Ty.mk.injEq] at hq
  obtain ⟨⟨rfl, rfl, rfl⟩, rfl⟩ := hq
  clear hT
  have H5_11 := Lib.hid (r11.heap H5_10.out (by simp))
  have H6_11 := Lib.hid (r11.heap H6_10.out (by simp))
  have TT_11 := Lib.hid (TT_10.out.fr r11)
  have TU_11 := Lib.hid (TU_10.out.fr r11)
  have TI_11 := Lib.hid (TI_10.out.fr r11)
  have H11_11 := Lib.hid (r11.heap H11_10.out (by simp))
  have Tp_11 := Lib.hid (Tp_10.out.fr r11)
  have H12_11 := Lib.hid (r11.heap H12_10.out (by simp))
  have Tq_11 := Lib.hid (Tq_10.out.fr r11)
  have H14_11 := Lib.hid (r11.heap H14_10.out (by simp))
  have RB_11 := Lib.hid (RB_10.out.trans r11)
  have OR_11 := Lib.hid (owns_fr OR_10.out r11 (by simp))
  have Tr_11 := Lib.hid (Tr_10.out.fr r11)
  have H16_11 := Lib.hid (r11.heap H16_10.out (by simp))
  have R11 := Lib.hid (R10.out.trans r11)
  clear R10 H5_10 H6_10 TT_10 TU_10 TI_10 H11_10 Tp_10 H12_10 Tq_10 H14_10 RB_10 OR_10 Tr_10 H16_10
  have Ts_11 : Hid (TIn w11 sa sc rms) := Lib.hid (owns_reads ho)
  clear ho r11
  have HZ := Lib.hid (heap_new w11 (.cells #[.int .i64 0, .int .i64 0, .slice none 0 0] 30))
  have H18_12 := Lib.hid (setRow_heap _ _ _ #[.int .i64 rb, .int .i64 rs, .slice sa rms.length sc] _ _ HZ.out)
  have r12 : Fr no w11 ((w11.alloc (.cells #[.int .i64 0, .int .i64 0, .slice none 0 0] 30)).setRow w11.heap.size #[.int .i64 rb, .int .i64 rs, .slice sa rms.length sc]) := fr_setRow ((Fr.refl no w11).alloc _) (.inr (Nat.le_refl _))
  have H5_12 := Lib.hid (r12.heap H5_11.out (by simp))
  have H6_12 := Lib.hid (r12.heap H6_11.out (by simp))
  have TT_12 := Lib.hid (TT_11.out.fr r12)
  have TU_12 := Lib.hid (TU_11.out.fr r12)
  have TI_12 := Lib.hid (TI_11.out.fr r12)
  have H11_12 := Lib.hid (r12.heap H11_11.out (by simp))
  have Tp_12 := Lib.hid (Tp_11.out.fr r12)
  have H12_12 := Lib.hid (r12.heap H12_11.out (by simp))
  have Tq_12 := Lib.hid (Tq_11.out.fr r12)
  have H14_12 := Lib.hid (r12.heap H14_11.out (by simp))
  have RB_12 := Lib.hid (RB_11.out.trans r12)
  have OR_12 := Lib.hid (owns_fr OR_11.out r12 (by simp))
  have Tr_12 := Lib.hid (Tr_11.out.fr r12)
  have H16_12 := Lib.hid (r12.heap H16_11.out (by simp))
  have Ts_12 := Lib.hid (Ts_11.out.fr r12)
  have R12 := Lib.hid (R11.out.trans r12)
  clear R11 H5_11 H6_11 TT_11 TU_11 TI_11 H11_11 Tp_11 H12_11 Tq_11 H14_11 RB_11 OR_11 Tr_11 H16_11 Ts_11
  clear r12
  go_upto_region 8 with (refine wpList_store_row rfl 30 (.tmp 18) (.tmp 50) rfl w11.heap.size #[.int .i64 rb, .int .i64 rs, .slice sa rms.length sc] rfl rfl _ _ HZ.out (by rw [infoTy]; rfl) rfl (by simp [Value.oneCell']) ?_; rw [act_put_none])
  clear HZ
  generalize (w11.alloc (.cells #[.int .i64 0, .int .i64 0, .slice none 0 0] 30)).setRow w11.heap.size #[.int .i64 rb, .int .i64 rs, .slice sa rms.length sc] = w12 at *
  generalize w11.heap.size = B18 at *
  have HPL : Hid (pms.length ≤ 100000 ∧ rms.length ≤ 100000) := Lib.hid ⟨ptrS_len TP.out HL1.out.1, elemS_len TE.out HL1.out.1⟩
  clear TP TE
  have M_12 : Hid (MK B5 B6 B11 B12 B14 B16 B18 #[.int .i64 tb, .int .i64 ts, .slice ma tms.length mc] #[.int .i64 ub, .int .i64 us, .slice na ums.length nc] #[.int .i64 tb, .int .i64 ts, .slice ia tms.length ic] #[.int .i64 pb, .int .i64 ps, .slice pa pms.length pc] #[.int .i64 pb, .int .i64 ps, .slice qa pms.length qc] #[.int .i64 rb, .int .i64 rs, .slice ra rms.length rc] #[.int .i64 rb, .int .i64 rs, .slice sa rms.length sc] w12) := Lib.hid ⟨H5_12.out, H6_12.out, H11_12.out, H12_12.out, H14_12.out, H16_12.out, H18_12.out⟩
  clear H5_12 H6_12 H11_12 H12_12 H14_12 H16_12 H18_12
  have er1 : ((pr : Int) == (pr : Int)) = true := by simp
  have er2 : ((rr : Int) == (rr : Int)) = true := by simp
  have r13 := (Fr.refl no w12).drew
  have M_13 := Lib.hid (M_12.out.fr r13)
  refine Lex.region [2, 11, 21, 24, 29, 31] [35] (by kernel_rfl) (by kernel_rfl) ?_
  refine Lex.opens (fun w' => MK B5 B6 B11 B12 B14 B16 B18 #[.int .i64 tb, .int .i64 ts, .slice ma tms.length mc] #[.int .i64 ub, .int .i64 us, .slice na ums.length nc] #[.int .i64 tb, .int .i64 ts, .slice ia tms.length ic] #[.int .i64 pb, .int .i64 ps, .slice pa pms.length pc] #[.int .i64 pb, .int .i64 ps, .slice qa pms.length qc] #[.int .i64 rb, .int .i64 rs, .slice ra rms.length rc] #[.int .i64 rb, .int .i64 rs, .slice sa rms.length sc] w') (M_13.out) ?_
  clear M_12
  have TT_13 := Lib.hid (TT_12.out.fr r13)
  have TU_13 := Lib.hid (TU_12.out.fr r13)
  have TI_13 := Lib.hid (TI_12.out.fr r13)
  have Tp_13 := Lib.hid (Tp_12.out.fr r13)
  have Tq_13 := Lib.hid (Tq_12.out.fr r13)
  have RB_13 := Lib.hid (RB_12.out.trans r13)
  have OR_13 := Lib.hid (owns_fr OR_12.out r13 (by simp))
  have Tr_13 := Lib.hid (Tr_12.out.fr r13)
  have Ts_13 := Lib.hid (Ts_12.out.fr r13)
  have R13 := Lib.hid (R12.out.trans r13)
  clear R12 TT_12 TU_12 TI_12 Tp_12 Tq_12 RB_12 OR_12 Tr_12 Ts_12
  clear r13
  generalize w12.drew = w13 at *
  repeat (first
    | (refine Lex.skips (by rfl) ?_; (try simp only [Act.put, List.setIfInBounds_toArray, List.set_cons_zero, List.set_cons_succ]))
    | (refine Lex.row (by rfl) (by rfl) _ _ rfl _ rfl _ _ _ _ (fun w' h => h.h5) Try.underlying30 rfl (by rw [infoTy]; rfl) ?_; (try simp only [Act.put, List.setIfInBounds_toArray, List.set_cons_zero, List.set_cons_succ]))
    | (refine Lex.row (by rfl) (by rfl) _ _ rfl _ rfl _ _ _ _ (fun w' h => h.h6) Try.underlying30 rfl (by rw [infoTy]; rfl) ?_; (try simp only [Act.put, List.setIfInBounds_toArray, List.set_cons_zero, List.set_cons_succ]))
    | (refine Lex.row (by rfl) (by rfl) _ _ rfl _ rfl _ _ _ _ (fun w' h => h.h11) Try.underlying30 rfl (by rw [infoTy]; rfl) ?_; (try simp only [Act.put, List.setIfInBounds_toArray, List.set_cons_zero, List.set_cons_succ]))
    | (refine Lex.row (by rfl) (by rfl) _ _ rfl _ rfl _ _ _ _ (fun w' h => h.h12) Try.underlying30 rfl (by rw [infoTy]; rfl) ?_; (try simp only [Act.put, List.setIfInBounds_toArray, List.set_cons_zero, List.set_cons_succ]))
    | (refine Lex.row (by rfl) (by rfl) _ _ rfl _ rfl _ _ _ _ (fun w' h => h.h14) Try.underlying30 rfl (by rw [infoTy]; rfl) ?_; (try simp only [Act.put, List.setIfInBounds_toArray, List.set_cons_zero, List.set_cons_succ]))
    | (refine Lex.row (by rfl) (by rfl) _ _ rfl _ rfl _ _ _ _ (fun w' h => h.h16) Try.underlying30 rfl (by rw [infoTy]; rfl) ?_; (try simp only [Act.put, List.setIfInBounds_toArray, List.set_cons_zero, List.set_cons_succ]))
    | (refine Lex.row (by rfl) (by rfl) _ _ rfl _ rfl _ _ _ _ (fun w' h => h.h18) Try.underlying30 rfl (by rw [infoTy]; rfl) ?_; (try simp only [Act.put, List.setIfInBounds_toArray, List.set_cons_zero, List.set_cons_succ]))
    | (refine Lex.quiet (v := ?_) (by rfl) (by rfl) ?_ ?_; rotate_left; (focus (intro w' hS'; go_simp; try rfl)); (try simp only [Act.put, List.setIfInBounds_toArray, List.set_cons_zero, List.set_cons_succ])))
  refine Lex.loud (by rfl) (by rfl) ?_
  intro K' hK'
  go_simp
  have C := samet_ok w13 pb ps pb ps pms pms pa qa pc qc Tp_13.out Tq_13.out HPL.out.1 HPL.out.1
  rw [decide_eq_true rfl] at C
  refine C.mono ?_
  clear C
  rintro e w14 ⟨rfl, r14⟩
  have M_14 := Lib.hid (M_13.out.fr r14)
  have TT_14 := Lib.hid (TT_13.out.fr r14)
  have TU_14 := Lib.hid (TU_13.out.fr r14)
  have TI_14 := Lib.hid (TI_13.out.fr r14)
  have Tp_14 := Lib.hid (Tp_13.out.fr r14)
  have Tq_14 := Lib.hid (Tq_13.out.fr r14)
  have RB_14 := Lib.hid (RB_13.out.trans r14)
  have OR_14 := Lib.hid (owns_fr OR_13.out r14 (by simp))
  have Tr_14 := Lib.hid (Tr_13.out.fr r14)
  have Ts_14 := Lib.hid (Ts_13.out.fr r14)
  have R14 := Lib.hid (R13.out.trans r14)
  clear R13 TT_13 TU_13 TI_13 Tp_13 Tq_13 RB_13 OR_13 Tr_13 Ts_13
  clear M_13
  clear r14
  refine hK' _ _ (M_14.out) ?_
  clear hK'
  try simp only [Act.put, List.setIfInBounds_toArray, List.set_cons_zero, List.set_cons_succ]
  repeat (first
    | (refine Lex.skips (by rfl) ?_; (try simp only [Act.put, List.setIfInBounds_toArray, List.set_cons_zero, List.set_cons_succ]))
    | (refine Lex.row (by rfl) (by rfl) _ _ rfl _ rfl _ _ _ _ (fun w' h => h.h5) Try.underlying30 rfl (by rw [infoTy]; rfl) ?_; (try simp only [Act.put, List.setIfInBounds_toArray, List.set_cons_zero, List.set_cons_succ]))
    | (refine Lex.row (by rfl) (by rfl) _ _ rfl _ rfl _ _ _ _ (fun w' h => h.h6) Try.underlying30 rfl (by rw [infoTy]; rfl) ?_; (try simp only [Act.put, List.setIfInBounds_toArray, List.set_cons_zero, List.set_cons_succ]))
    | (refine Lex.row (by rfl) (by rfl) _ _ rfl _ rfl _ _ _ _ (fun w' h => h.h11) Try.underlying30 rfl (by rw [infoTy]; rfl) ?_; (try simp only [Act.put, List.setIfInBounds_toArray, List.set_cons_zero, List.set_cons_succ]))
    | (refine Lex.row (by rfl) (by rfl) _ _ rfl _ rfl _ _ _ _ (fun w' h => h.h12) Try.underlying30 rfl (by rw [infoTy]; rfl) ?_; (try simp only [Act.put, List.setIfInBounds_toArray, List.set_cons_zero, List.set_cons_succ]))
    | (refine Lex.row (by rfl) (by rfl) _ _ rfl _ rfl _ _ _ _ (fun w' h => h.h14) Try.underlying30 rfl (by rw [infoTy]; rfl) ?_; (try simp only [Act.put, List.setIfInBounds_toArray, List.set_cons_zero, List.set_cons_succ]))
    | (refine Lex.row (by rfl) (by rfl) _ _ rfl _ rfl _ _ _ _ (fun w' h => h.h16) Try.underlying30 rfl (by rw [infoTy]; rfl) ?_; (try simp only [Act.put, List.setIfInBounds_toArray, List.set_cons_zero, List.set_cons_succ]))
    | (refine Lex.row (by rfl) (by rfl) _ _ rfl _ rfl _ _ _ _ (fun w' h => h.h18) Try.underlying30 rfl (by rw [infoTy]; rfl) ?_; (try simp only [Act.put, List.setIfInBounds_toArray, List.set_cons_zero, List.set_cons_succ]))
    | (refine Lex.quiet (v := ?_) (by rfl) (by rfl) ?_ ?_; rotate_left; (focus (intro w' hS'; go_simp; try rfl)); (try simp only [Act.put, List.setIfInBounds_toArray, List.set_cons_zero, List.set_cons_succ])))
  refine Lex.loud (by rfl) (by rfl) ?_
  intro K' hK'
  go_simp
  have C := samet_ok w14 rb rs rb rs rms rms ra sa rc sc Tr_14.out Ts_14.out HPL.out.2 HPL.out.2
  rw [decide_eq_true rfl] at C
  refine C.mono ?_
  clear C
  rintro e w15 ⟨rfl, r15⟩
  have M_15 := Lib.hid (M_14.out.fr r15)
  have TT_15 := Lib.hid (TT_14.out.fr r15)
  have TU_15 := Lib.hid (TU_14.out.fr r15)
  have TI_15 := Lib.hid (TI_14.out.fr r15)
  have Tp_15 := Lib.hid (Tp_14.out.fr r15)
  have Tq_15 := Lib.hid (Tq_14.out.fr r15)
  have RB_15 := Lib.hid (RB_14.out.trans r15)
  have OR_15 := Lib.hid (owns_fr OR_14.out r15 (by simp))
  have Tr_15 := Lib.hid (Tr_14.out.fr r15)
  have Ts_15 := Lib.hid (Ts_14.out.fr r15)
  have R15 := Lib.hid (R14.out.trans r15)
  clear R14 TT_14 TU_14 TI_14 Tp_14 Tq_14 RB_14 OR_14 Tr_14 Ts_14
  clear M_14
  clear r15
  refine hK' _ _ (M_15.out) ?_
  clear hK'
  try simp only [Act.put, List.setIfInBounds_toArray, List.set_cons_zero, List.set_cons_succ]
  repeat (first
    | (refine Lex.skips (by rfl) ?_; (try simp only [Act.put, List.setIfInBounds_toArray, List.set_cons_zero, List.set_cons_succ]))
    | (refine Lex.row (by rfl) (by rfl) _ _ rfl _ rfl _ _ _ _ (fun w' h => h.h5) Try.underlying30 rfl (by rw [infoTy]; rfl) ?_; (try simp only [Act.put, List.setIfInBounds_toArray, List.set_cons_zero, List.set_cons_succ]))
    | (refine Lex.row (by rfl) (by rfl) _ _ rfl _ rfl _ _ _ _ (fun w' h => h.h6) Try.underlying30 rfl (by rw [infoTy]; rfl) ?_; (try simp only [Act.put, List.setIfInBounds_toArray, List.set_cons_zero, List.set_cons_succ]))
    | (refine Lex.row (by rfl) (by rfl) _ _ rfl _ rfl _ _ _ _ (fun w' h => h.h11) Try.underlying30 rfl (by rw [infoTy]; rfl) ?_; (try simp only [Act.put, List.setIfInBounds_toArray, List.set_cons_zero, List.set_cons_succ]))
    | (refine Lex.row (by rfl) (by rfl) _ _ rfl _ rfl _ _ _ _ (fun w' h => h.h12) Try.underlying30 rfl (by rw [infoTy]; rfl) ?_; (try simp only [Act.put, List.setIfInBounds_toArray, List.set_cons_zero, List.set_cons_succ]))
    | (refine Lex.row (by rfl) (by rfl) _ _ rfl _ rfl _ _ _ _ (fun w' h => h.h14) Try.underlying30 rfl (by rw [infoTy]; rfl) ?_; (try simp only [Act.put, List.setIfInBounds_toArray, List.set_cons_zero, List.set_cons_succ]))
    | (refine Lex.row (by rfl) (by rfl) _ _ rfl _ rfl _ _ _ _ (fun w' h => h.h16) Try.underlying30 rfl (by rw [infoTy]; rfl) ?_; (try simp only [Act.put, List.setIfInBounds_toArray, List.set_cons_zero, List.set_cons_succ]))
    | (refine Lex.row (by rfl) (by rfl) _ _ rfl _ rfl _ _ _ _ (fun w' h => h.h18) Try.underlying30 rfl (by rw [infoTy]; rfl) ?_; (try simp only [Act.put, List.setIfInBounds_toArray, List.set_cons_zero, List.set_cons_succ]))
    | (refine Lex.quiet (v := ?_) (by rfl) (by rfl) ?_ ?_; rotate_left; (focus (intro w' hS'; go_simp; try rfl)); (try simp only [Act.put, List.setIfInBounds_toArray, List.set_cons_zero, List.set_cons_succ])))
  obtain ⟨z1, hz1⟩ : ∃ z, z = decide ((⟨tb, ts, tms⟩ : Ty) = ⟨ub, us, ums⟩) := ⟨_, rfl⟩
  have HZ1 := Lib.hid hz1
  clear hz1
  have ez1 : (z1 == z1) = true := by simp
  have HLL : Hid (tms.length ≤ 100000 ∧ ums.length ≤ 100000) := Lib.hid (by have := HL1.out; omega)
  refine Lex.loud (by rfl) (by rfl) ?_
  intro K' hK'
  go_simp
  have C := tsame_ok w15 tb ts ub us tms ums ia na ic nc TI_15.out TU_15.out HLL.out.1 HLL.out.2
  rw [← HZ1.out] at C
  refine C.mono ?_
  clear C
  rintro e w16 ⟨rfl, r16⟩
  have M_16 := Lib.hid (M_15.out.fr r16)
  have TT_16 := Lib.hid (TT_15.out.fr r16)
  have TU_16 := Lib.hid (TU_15.out.fr r16)
  have TI_16 := Lib.hid (TI_15.out.fr r16)
  have Tp_16 := Lib.hid (Tp_15.out.fr r16)
  have Tq_16 := Lib.hid (Tq_15.out.fr r16)
  have RB_16 := Lib.hid (RB_15.out.trans r16)
  have OR_16 := Lib.hid (owns_fr OR_15.out r16 (by simp))
  have Tr_16 := Lib.hid (Tr_15.out.fr r16)
  have Ts_16 := Lib.hid (Ts_15.out.fr r16)
  have R16 := Lib.hid (R15.out.trans r16)
  clear R15 TT_15 TU_15 TI_15 Tp_15 Tq_15 RB_15 OR_15 Tr_15 Ts_15
  clear M_15
  clear r16
  refine hK' _ _ (M_16.out) ?_
  clear hK'
  try simp only [Act.put, List.setIfInBounds_toArray, List.set_cons_zero, List.set_cons_succ]
  repeat (first
    | (refine Lex.skips (by rfl) ?_; (try simp only [Act.put, List.setIfInBounds_toArray, List.set_cons_zero, List.set_cons_succ]))
    | (refine Lex.row (by rfl) (by rfl) _ _ rfl _ rfl _ _ _ _ (fun w' h => h.h5) Try.underlying30 rfl (by rw [infoTy]; rfl) ?_; (try simp only [Act.put, List.setIfInBounds_toArray, List.set_cons_zero, List.set_cons_succ]))
    | (refine Lex.row (by rfl) (by rfl) _ _ rfl _ rfl _ _ _ _ (fun w' h => h.h6) Try.underlying30 rfl (by rw [infoTy]; rfl) ?_; (try simp only [Act.put, List.setIfInBounds_toArray, List.set_cons_zero, List.set_cons_succ]))
    | (refine Lex.row (by rfl) (by rfl) _ _ rfl _ rfl _ _ _ _ (fun w' h => h.h11) Try.underlying30 rfl (by rw [infoTy]; rfl) ?_; (try simp only [Act.put, List.setIfInBounds_toArray, List.set_cons_zero, List.set_cons_succ]))
    | (refine Lex.row (by rfl) (by rfl) _ _ rfl _ rfl _ _ _ _ (fun w' h => h.h12) Try.underlying30 rfl (by rw [infoTy]; rfl) ?_; (try simp only [Act.put, List.setIfInBounds_toArray, List.set_cons_zero, List.set_cons_succ]))
    | (refine Lex.row (by rfl) (by rfl) _ _ rfl _ rfl _ _ _ _ (fun w' h => h.h14) Try.underlying30 rfl (by rw [infoTy]; rfl) ?_; (try simp only [Act.put, List.setIfInBounds_toArray, List.set_cons_zero, List.set_cons_succ]))
    | (refine Lex.row (by rfl) (by rfl) _ _ rfl _ rfl _ _ _ _ (fun w' h => h.h16) Try.underlying30 rfl (by rw [infoTy]; rfl) ?_; (try simp only [Act.put, List.setIfInBounds_toArray, List.set_cons_zero, List.set_cons_succ]))
    | (refine Lex.row (by rfl) (by rfl) _ _ rfl _ rfl _ _ _ _ (fun w' h => h.h18) Try.underlying30 rfl (by rw [infoTy]; rfl) ?_; (try simp only [Act.put, List.setIfInBounds_toArray, List.set_cons_zero, List.set_cons_succ]))
    | (refine Lex.quiet (v := ?_) (by rfl) (by rfl) ?_ ?_; rotate_left; (focus (intro w' hS'; go_simp; try rfl)); (try simp only [Act.put, List.setIfInBounds_toArray, List.set_cons_zero, List.set_cons_succ])))
  refine Lex.loud (by rfl) (by rfl) ?_
  intro K' hK'
  go_simp
  have C := rsame_ok w16 tb ts ub us tms ums ma na mc nc TT_16.out TU_16.out HLL.out.1
  rw [← HZ1.out] at C
  refine C.mono ?_
  clear C
  rintro e w17 ⟨rfl, r17⟩
  have M_17 := Lib.hid (M_16.out.fr r17)
  have TT_17 := Lib.hid (TT_16.out.fr r17)
  have TU_17 := Lib.hid (TU_16.out.fr r17)
  have TI_17 := Lib.hid (TI_16.out.fr r17)
  have Tp_17 := Lib.hid (Tp_16.out.fr r17)
  have Tq_17 := Lib.hid (Tq_16.out.fr r17)
  have RB_17 := Lib.hid (RB_16.out.trans r17)
  have OR_17 := Lib.hid (owns_fr OR_16.out r17 (by simp))
  have Tr_17 := Lib.hid (Tr_16.out.fr r17)
  have Ts_17 := Lib.hid (Ts_16.out.fr r17)
  have R17 := Lib.hid (R16.out.trans r17)
  clear R16 TT_16 TU_16 TI_16 Tp_16 Tq_16 RB_16 OR_16 Tr_16 Ts_16
  clear M_16
  clear r17
  refine hK' _ _ (M_17.out) ?_
  clear hK'
  try simp only [Act.put, List.setIfInBounds_toArray, List.set_cons_zero, List.set_cons_succ]
  repeat (first
    | (refine Lex.skips (by rfl) ?_; (try simp only [Act.put, List.setIfInBounds_toArray, List.set_cons_zero, List.set_cons_succ]))
    | (refine Lex.row (by rfl) (by rfl) _ _ rfl _ rfl _ _ _ _ (fun w' h => h.h5) Try.underlying30 rfl (by rw [infoTy]; rfl) ?_; (try simp only [Act.put, List.setIfInBounds_toArray, List.set_cons_zero, List.set_cons_succ]))
    | (refine Lex.row (by rfl) (by rfl) _ _ rfl _ rfl _ _ _ _ (fun w' h => h.h6) Try.underlying30 rfl (by rw [infoTy]; rfl) ?_; (try simp only [Act.put, List.setIfInBounds_toArray, List.set_cons_zero, List.set_cons_succ]))
    | (refine Lex.row (by rfl) (by rfl) _ _ rfl _ rfl _ _ _ _ (fun w' h => h.h11) Try.underlying30 rfl (by rw [infoTy]; rfl) ?_; (try simp only [Act.put, List.setIfInBounds_toArray, List.set_cons_zero, List.set_cons_succ]))
    | (refine Lex.row (by rfl) (by rfl) _ _ rfl _ rfl _ _ _ _ (fun w' h => h.h12) Try.underlying30 rfl (by rw [infoTy]; rfl) ?_; (try simp only [Act.put, List.setIfInBounds_toArray, List.set_cons_zero, List.set_cons_succ]))
    | (refine Lex.row (by rfl) (by rfl) _ _ rfl _ rfl _ _ _ _ (fun w' h => h.h14) Try.underlying30 rfl (by rw [infoTy]; rfl) ?_; (try simp only [Act.put, List.setIfInBounds_toArray, List.set_cons_zero, List.set_cons_succ]))
    | (refine Lex.row (by rfl) (by rfl) _ _ rfl _ rfl _ _ _ _ (fun w' h => h.h16) Try.underlying30 rfl (by rw [infoTy]; rfl) ?_; (try simp only [Act.put, List.setIfInBounds_toArray, List.set_cons_zero, List.set_cons_succ]))
    | (refine Lex.row (by rfl) (by rfl) _ _ rfl _ rfl _ _ _ _ (fun w' h => h.h18) Try.underlying30 rfl (by rw [infoTy]; rfl) ?_; (try simp only [Act.put, List.setIfInBounds_toArray, List.set_cons_zero, List.set_cons_succ]))
    | (refine Lex.quiet (v := ?_) (by rfl) (by rfl) ?_ ?_; rotate_left; (focus (intro w' hS'; go_simp; try rfl)); (try simp only [Act.put, List.setIfInBounds_toArray, List.set_cons_zero, List.set_cons_succ])))
  obtain ⟨z2, hz2⟩ : ∃ z, z = (isInt tb && tms.length == 0) := ⟨_, rfl⟩
  have HZ2 := Lib.hid hz2
  clear hz2
  have ez2 : (z2 == z2) = true := by simp
  refine Lex.loud (by rfl) (by rfl) ?_
  intro K' hK'
  go_simp
  have C := integert_ok w17 tb ts ia tms.length ic
  rw [← HZ2.out] at C
  refine C.mono ?_
  clear C
  rintro e w18 ⟨rfl, r18⟩
  have M_18 := Lib.hid (M_17.out.fr r18)
  have TT_18 := Lib.hid (TT_17.out.fr r18)
  have TU_18 := Lib.hid (TU_17.out.fr r18)
  have TI_18 := Lib.hid (TI_17.out.fr r18)
  have Tp_18 := Lib.hid (Tp_17.out.fr r18)
  have Tq_18 := Lib.hid (Tq_17.out.fr r18)
  have RB_18 := Lib.hid (RB_17.out.trans r18)
  have OR_18 := Lib.hid (owns_fr OR_17.out r18 (by simp))
  have Tr_18 := Lib.hid (Tr_17.out.fr r18)
  have Ts_18 := Lib.hid (Ts_17.out.fr r18)
  have R18 := Lib.hid (R17.out.trans r18)
  clear R17 TT_17 TU_17 TI_17 Tp_17 Tq_17 RB_17 OR_17 Tr_17 Ts_17
  clear M_17
  clear r18
  refine hK' _ _ (M_18.out) ?_
  clear hK'
  try simp only [Act.put, List.setIfInBounds_toArray, List.set_cons_zero, List.set_cons_succ]
  repeat (first
    | (refine Lex.skips (by rfl) ?_; (try simp only [Act.put, List.setIfInBounds_toArray, List.set_cons_zero, List.set_cons_succ]))
    | (refine Lex.row (by rfl) (by rfl) _ _ rfl _ rfl _ _ _ _ (fun w' h => h.h5) Try.underlying30 rfl (by rw [infoTy]; rfl) ?_; (try simp only [Act.put, List.setIfInBounds_toArray, List.set_cons_zero, List.set_cons_succ]))
    | (refine Lex.row (by rfl) (by rfl) _ _ rfl _ rfl _ _ _ _ (fun w' h => h.h6) Try.underlying30 rfl (by rw [infoTy]; rfl) ?_; (try simp only [Act.put, List.setIfInBounds_toArray, List.set_cons_zero, List.set_cons_succ]))
    | (refine Lex.row (by rfl) (by rfl) _ _ rfl _ rfl _ _ _ _ (fun w' h => h.h11) Try.underlying30 rfl (by rw [infoTy]; rfl) ?_; (try simp only [Act.put, List.setIfInBounds_toArray, List.set_cons_zero, List.set_cons_succ]))
    | (refine Lex.row (by rfl) (by rfl) _ _ rfl _ rfl _ _ _ _ (fun w' h => h.h12) Try.underlying30 rfl (by rw [infoTy]; rfl) ?_; (try simp only [Act.put, List.setIfInBounds_toArray, List.set_cons_zero, List.set_cons_succ]))
    | (refine Lex.row (by rfl) (by rfl) _ _ rfl _ rfl _ _ _ _ (fun w' h => h.h14) Try.underlying30 rfl (by rw [infoTy]; rfl) ?_; (try simp only [Act.put, List.setIfInBounds_toArray, List.set_cons_zero, List.set_cons_succ]))
    | (refine Lex.row (by rfl) (by rfl) _ _ rfl _ rfl _ _ _ _ (fun w' h => h.h16) Try.underlying30 rfl (by rw [infoTy]; rfl) ?_; (try simp only [Act.put, List.setIfInBounds_toArray, List.set_cons_zero, List.set_cons_succ]))
    | (refine Lex.row (by rfl) (by rfl) _ _ rfl _ rfl _ _ _ _ (fun w' h => h.h18) Try.underlying30 rfl (by rw [infoTy]; rfl) ?_; (try simp only [Act.put, List.setIfInBounds_toArray, List.set_cons_zero, List.set_cons_succ]))
    | (refine Lex.quiet (v := ?_) (by rfl) (by rfl) ?_ ?_; rotate_left; (focus (intro w' hS'; go_simp; try rfl)); (try simp only [Act.put, List.setIfInBounds_toArray, List.set_cons_zero, List.set_cons_succ])))
  refine Lex.loud (by rfl) (by rfl) ?_
  intro K' hK'
  go_simp
  have C := rinteger_ok w18 tb ts ma tms.length mc
  rw [← HZ2.out] at C
  refine C.mono ?_
  clear C
  rintro e w19 ⟨rfl, r19⟩
  have M_19 := Lib.hid (M_18.out.fr r19)
  have TT_19 := Lib.hid (TT_18.out.fr r19)
  have TU_19 := Lib.hid (TU_18.out.fr r19)
  have TI_19 := Lib.hid (TI_18.out.fr r19)
  have Tp_19 := Lib.hid (Tp_18.out.fr r19)
  have Tq_19 := Lib.hid (Tq_18.out.fr r19)
  have RB_19 := Lib.hid (RB_18.out.trans r19)
  have OR_19 := Lib.hid (owns_fr OR_18.out r19 (by simp))
  have Tr_19 := Lib.hid (Tr_18.out.fr r19)
  have Ts_19 := Lib.hid (Ts_18.out.fr r19)
  have R19 := Lib.hid (R18.out.trans r19)
  clear R18 TT_18 TU_18 TI_18 Tp_18 Tq_18 RB_18 OR_18 Tr_18 Ts_18
  clear M_18
  clear r19
  refine hK' _ _ (M_19.out) ?_
  clear hK'
  try simp only [Act.put, List.setIfInBounds_toArray, List.set_cons_zero, List.set_cons_succ]
  repeat (first
    | (refine Lex.skips (by rfl) ?_; (try simp only [Act.put, List.setIfInBounds_toArray, List.set_cons_zero, List.set_cons_succ]))
    | (refine Lex.row (by rfl) (by rfl) _ _ rfl _ rfl _ _ _ _ (fun w' h => h.h5) Try.underlying30 rfl (by rw [infoTy]; rfl) ?_; (try simp only [Act.put, List.setIfInBounds_toArray, List.set_cons_zero, List.set_cons_succ]))
    | (refine Lex.row (by rfl) (by rfl) _ _ rfl _ rfl _ _ _ _ (fun w' h => h.h6) Try.underlying30 rfl (by rw [infoTy]; rfl) ?_; (try simp only [Act.put, List.setIfInBounds_toArray, List.set_cons_zero, List.set_cons_succ]))
    | (refine Lex.row (by rfl) (by rfl) _ _ rfl _ rfl _ _ _ _ (fun w' h => h.h11) Try.underlying30 rfl (by rw [infoTy]; rfl) ?_; (try simp only [Act.put, List.setIfInBounds_toArray, List.set_cons_zero, List.set_cons_succ]))
    | (refine Lex.row (by rfl) (by rfl) _ _ rfl _ rfl _ _ _ _ (fun w' h => h.h12) Try.underlying30 rfl (by rw [infoTy]; rfl) ?_; (try simp only [Act.put, List.setIfInBounds_toArray, List.set_cons_zero, List.set_cons_succ]))
    | (refine Lex.row (by rfl) (by rfl) _ _ rfl _ rfl _ _ _ _ (fun w' h => h.h14) Try.underlying30 rfl (by rw [infoTy]; rfl) ?_; (try simp only [Act.put, List.setIfInBounds_toArray, List.set_cons_zero, List.set_cons_succ]))
    | (refine Lex.row (by rfl) (by rfl) _ _ rfl _ rfl _ _ _ _ (fun w' h => h.h16) Try.underlying30 rfl (by rw [infoTy]; rfl) ?_; (try simp only [Act.put, List.setIfInBounds_toArray, List.set_cons_zero, List.set_cons_succ]))
    | (refine Lex.row (by rfl) (by rfl) _ _ rfl _ rfl _ _ _ _ (fun w' h => h.h18) Try.underlying30 rfl (by rw [infoTy]; rfl) ?_; (try simp only [Act.put, List.setIfInBounds_toArray, List.set_cons_zero, List.set_cons_succ]))
    | (refine Lex.quiet (v := ?_) (by rfl) (by rfl) ?_ ?_; rotate_left; (focus (intro w' hS'; go_simp; try rfl)); (try simp only [Act.put, List.setIfInBounds_toArray, List.set_cons_zero, List.set_cons_succ])))
  refine Lex.done ?_
  refine Lex.ends ?_
  clear er1 er2 ez1 ez2 HZ1 HZ2
  have h16 := Lib.hid M_19.out.h16
  clear M_19
  go_upto_region 10 with fail
  go_loopw [21] (fun x wr => ∃ (i : Nat) (ls : List Value), x = .int .i64 i ∧ i ≤ rms.length ∧ Hid (∃ B, wr.ownsRow B 3 1 (.slice ra rms.length rc) rms.length ls) ∧ Hid (Fr (fun k => (Value.slice ra rms.length rc).ownBlock = some k) w19 wr)) (fun x _ => (rms.length - intOf x).toNat)
  case atStart => exact ⟨0, _, rfl, by omega, Lib.hid ⟨_, OR_19.out⟩, Lib.hid (Fr.refl _ _)⟩
  case round =>
    obtain ⟨i, ls, rfl, hi, hown, hfr⟩ := hrel
    have g16 := (ce3 (hfr.out.heap h16.out (fun hk => by have := HK.out _ hk; omega))).2.2
    have hrl := HPL.out.2
    by_cases hlt : i < rms.length
    · have hlt' : (i : Int) < rms.length := by omega
      obtain ⟨B, ho⟩ := hown.out
      obtain ⟨g, v, rfl, c1, c2, c3⟩ := owns_spot ho hlt
      have HO2 := Lib.hid (own_setCell (k := i) ho (.int .i64 77))
      have HF2 : Hid (Fr (fun k => (Value.slice (some ⟨g, 0, none⟩) rms.length rc).ownBlock = some k) w19 (wr.setCell ⟨g, i, none⟩ (.int .i64 77))) := Lib.hid (hfr.out.setCell _ _ (.inl rfl))
      clear ho c3 hown hfr
      go_wp2_with fail
      go_roundw
      case rel => exact ⟨i + 1, _, by go_num, by omega, Lib.hid ⟨_, HO2.out⟩, HF2⟩
      case measure => first | (simp [intOf]; done) | (simp [intOf]; omega)
    · obtain rfl : i = rms.length := by omega
      clear hlt hown
      have RF := Lib.hid (RB_19.out.trans' hfr.out (fun k hk _ => (HK.out k hk).1))
      have k5 := Lib.hid (RF.out.heap HQ5.out (by simp))
      have k11 := Lib.hid (RF.out.heap HQ11.out (by simp))
      have KT := Lib.hid (TT0.out.fr RF.out)
      have KI := Lib.hid (TI0.out.fr RF.out)
      have KR := Lib.hid (RW0.out.trans RF.out)
      have E1 : (promB a == promB a) = true := by simp
      have E2 : (commB a b == commB a b) = true := by simp
      have E3 : (((convN x a : Nat) : Int) == ((convN x a : Nat) : Int)) = true := by simp
      clear RF HQ5 HQ6 HQ11 TT0 TI0 RW0 hfr h16 HK
      go_wp2_with fail
      refine (promote_ok wr a).mono ?_
      rintro e w' ⟨rfl, rfl⟩
      go_wp2_with fail
      refine (rpromote_ok wr a).mono ?_
      rintro e w' ⟨rfl, rfl⟩
      go_wp2_with fail
      refine (common_ok wr a b).mono ?_
      rintro e w' ⟨rfl, rfl⟩
      go_wp2_with fail
      refine (rcommon_ok wr a b).mono ?_
      rintro e w' ⟨rfl, rfl⟩
      go_wp2_with fail
      refine (convert_ok wr x a hx).mono ?_
      rintro e y1 ⟨rfl, ry1⟩
      have A1 := Lib.hid ry1
      clear ry1
      go_wp2_with fail
      refine (rconvert_ok y1 x a hx).mono ?_
      rintro e y2 ⟨rfl, rfl⟩
      have A2 := A1
      have l5 := Lib.hid (A2.out.heap k5.out (by simp))
      have l11 := Lib.hid (A2.out.heap k11.out (by simp))
      clear A1 k5 k11
      go_wp2_with (first
        | (refine wpList_guarded (by rfl) ?_; intro KK hKK; refine wp_load_row 30 (.tmp 11) rfl B11 rfl _ _ _ _ l11.out Try.underlying30 rfl (by rw [infoTy]; rfl) ?_; refine hKK _ _ ?_; clear hKK; simp only [Act.put, List.setIfInBounds_toArray, List.set_cons_zero, List.set_cons_succ])
        | (refine wpList_guarded (by rfl) ?_; intro KK hKK; refine wp_load_row 30 (.tmp 5) rfl B5 rfl _ _ _ _ l5.out Try.underlying30 rfl (by rw [infoTy]; rfl) ?_; refine hKK _ _ ?_; clear hKK; simp only [Act.put, List.setIfInBounds_toArray, List.set_cons_zero, List.set_cons_succ]))
      have C := samet_ok y1 tb ts tb ts tms tms ia ma ic mc (KI.out.fr A2.out) (KT.out.fr A2.out) (by have := HL1.out; omega) (by have := HL1.out; omega)
      rw [decide_eq_true rfl] at C
      refine C.mono ?_
      clear C
      rintro e y3 ⟨rfl, ry3⟩
      have A3 := Lib.hid (KR.out.trans (A2.out.trans ry3))
      clear ry3
      go_wp2_with fail
      refine (awake_ok _).mono ?_
      rintro e y4 ⟨rfl, ry4⟩
      have A4 := Lib.hid (A3.out.trans ry4)
      clear ry4
      go_wp2_with fail
      go_ret
      exact ⟨rfl, A4.out⟩

theorem ty_of {w : World} {n : Nat} {cs : List Value} {d : Dt} (h : Rd Try.prog w n 30 cs d) :
    ∃ (b s : Int) (ms : List Int) (ma : Option Addr) (mc : Nat), cs = [.int .i64 b, .int .i64 s, .slice ma ms.length mc] ∧ TIn w ma mc ms := by
  obtain ⟨fl, -, hlen, -, hf⟩ := h.fields (z := 3) Try.underlying30 (by kernel_rfl)
  obtain ⟨a0, a1, a2, rfl⟩ := len_three cs hlen
  obtain ⟨_, -, r0⟩ := hf 0 3 0 1 rfl (by kernel_rfl)
  obtain ⟨_, -, r1⟩ := hf 1 3 1 1 rfl (by kernel_rfl)
  obtain ⟨_, -, r2⟩ := hf 2 28 2 1 rfl (by kernel_rfl)
  obtain ⟨b, e0, -, -⟩ := r0.int Try.underlying3
  obtain ⟨s, e1, -, -⟩ := r1.int Try.underlying3
  obtain ⟨l, -, hr, -, -⟩ := Rd.reads (v := a2) Try.underlying28 Try.underlying3 (by kernel_rfl) r2
  obtain ⟨ma, mc, rfl⟩ := hr.shape
  simp at e0 e1
  subst e0 e1
  exact ⟨b, s, l, ma, mc, rfl, hr⟩
theorem make_rd (w : World) (s0 : Array Value) {m0 : Nat} {d0 : Dt} (e0 : Rd Try.prog w m0 30 s0.toList d0) (s1 : Array Value) {m1 : Nat} {d1 : Dt} (e1 : Rd Try.prog w m1 30 s1.toList d1) (a b : Int) (x : Nat) (hx : x < 18446744073709551616) :
    Calls Try.prog 4 #[.agg s0, .agg s1, .int .i64 a, .int .i64 b, .int .u64 x] w fun e w' => e = .returned (.bool true) ∧ Fr no w w' := by
  obtain ⟨tb, ts, tms, ma, mc, h0, hm⟩ := ty_of e0
  obtain ⟨ub, us, ums, na, nc, h1, hn⟩ := ty_of e1
  obtain rfl : s0 = #[.int .i64 tb, .int .i64 ts, .slice ma tms.length mc] := by rw [← Array.toList_inj, h0]
  obtain rfl : s1 = #[.int .i64 ub, .int .i64 us, .slice na ums.length nc] := by rw [← Array.toList_inj, h1]
  exact make_ok w ⟨tb, ts, tms⟩ ⟨ub, us, ums⟩ a b x ma na mc nc hm hn hx

end Go.Proofs.Ytjpkmaacalelcaa

/- Pointers, arrays, texts: the walk (law24). -/
import Derived.Test.YtjpkmaacalelcaaDoorD5
import Derived.Test.YtjpkmaacalelcaaDoorDa
import Derived.Test.YtjpkmaacalelcaaDoorDq
set_option linter.unusedSimpArgs false
set_option linter.unusedVariables false
set_option linter.unusedSectionVars false
set_option linter.unnecessarySimpa false
set_option maxRecDepth 100000
namespace Go.Proofs.YtjpkmaacalelcaaDoor
open Go.RowKit Go.Ty Go.Deep Go.Sort

attribute [local go_sem] Program.isFuncB Program.isSliceB

variable {w w' w'' w0 : World}

theorem ptr_size {l : List St} {tb ts : Int} {tms : List Int} (h : checkE l ⟨tb, ts, tms⟩ = 0) (h8 : tms.length < 8) : sizeV l ⟨tb, ts, -1 :: tms⟩ = 8 ∧ checkE l ⟨tb, ts, -1 :: tms⟩ = 0 := by
  have h1 := ptr_check h h8
  exact ⟨by unfold sizeV; rw [if_pos h1.1, h1.2], h1.1⟩

set_option maxRecDepth 100000 in
set_option maxHeartbeats 32000000 in
theorem parts_ok (w : World) (sa : Option Addr) (sc : Nat) (l : List St) (t u : Ty) (many : Int) (ma na : Option Addr) (mc nc : Nat) (hs : SlIn w sa l) (hr : RawS l) (hm : TIn w ma mc t.ms) (hn : TIn w na nc u.ms) (ht : Tb w) :
    Calls Tryd.prog 6 #[.slice sa l.length sc, .agg #[.int .i64 t.b, .int .i64 t.s, .slice ma t.ms.length mc], .agg #[.int .i64 u.b, .int .i64 u.s, .slice na u.ms.length nc], .int .i64 many] w fun e w' => e = .returned (.bool true) ∧ Fr no w w' := by
  obtain ⟨tb, ts, tms⟩ := t
  obtain ⟨ub, us, ums⟩ := u
  dsimp only at *
  have q5 := heap_new2 w (.cells #[.int .i64 tb, .int .i64 ts, .slice ma tms.length mc] 25) (.cells #[.int .i64 ub, .int .i64 us, .slice na ums.length nc] 25)
  have q6 := heap_new2' w (.cells #[.int .i64 tb, .int .i64 ts, .slice ma tms.length mc] 25) (.cells #[.int .i64 ub, .int .i64 us, .slice na ums.length nc] 25)
  have r0 : Fr no w ((w.alloc (.cells #[.int .i64 tb, .int .i64 ts, .slice ma tms.length mc] 25)).alloc (.cells #[.int .i64 ub, .int .i64 us, .slice na ums.length nc] 25)) := ((Fr.refl no w).alloc _).alloc _
  have H5_0 := Lib.hid q5
  have H6_0 := Lib.hid q6
  have TT_0 := Lib.hid (hm.fr r0)
  have TU_0 := Lib.hid (hn.fr r0)
  have HS_0 := Lib.hid (hs.fr r0)
  have TB_0 := Lib.hid (ht.fr r0)
  have R_0 := Lib.hid r0
  have HR := Lib.hid hr
  clear q5 q6 r0 hm hn hs ht hr
  go_enter Tryd.func6, Tryd.ntmps6
  go_upto_region 1 with fail
  generalize (w.alloc (.cells #[.int .i64 tb, .int .i64 ts, .slice ma tms.length mc] 25)).alloc (.cells #[.int .i64 ub, .int .i64 us, .slice na ums.length nc] 25) = w0 at *
  generalize w.heap.size + 1 = B6 at *
  generalize hB5 : w.heap.size = B5 at *
  clear hB5
  go_wp2_with fail
  refine (awake_ok _).mono ?_
  rintro e w1 ⟨rfl, r1⟩
  have H5_1 := Lib.hid (r1.heap H5_0.out (by simp))
  have H6_1 := Lib.hid (r1.heap H6_0.out (by simp))
  have TT_1 := Lib.hid (TT_0.out.fr r1)
  have TU_1 := Lib.hid (TU_0.out.fr r1)
  have HS_1 := Lib.hid (HS_0.out.fr r1)
  have TB_1 := Lib.hid (TB_0.out.fr r1)
  have R_1 := Lib.hid (R_0.out.trans r1)
  clear H5_0 H6_0 TT_0 TU_0 HS_0 TB_0 R_0
  clear r1
  go_wp2_with fail
  refine (longs_ok w1 sa sc l HS_1.out HR.out).mono ?_
  rintro e w2 ⟨q, rfl, hq, r2⟩
  have HQ := Lib.hid hq
  clear hq
  have H5_2 := Lib.hid (r2.heap H5_1.out (by simp))
  have H6_2 := Lib.hid (r2.heap H6_1.out (by simp))
  have TT_2 := Lib.hid (TT_1.out.fr r2)
  have TU_2 := Lib.hid (TU_1.out.fr r2)
  have HS_2 := Lib.hid (HS_1.out.fr r2)
  have TB_2 := Lib.hid (TB_1.out.fr r2)
  have R_2 := Lib.hid (R_1.out.trans r2)
  clear H5_1 H6_1 TT_1 TU_1 HS_1 TB_1 R_1
  clear r2
  cases q
  case true =>
    go_wp2_with fail
    go_ret
    exact ⟨rfl, R_2.out⟩
  have HSM := Lib.hid (HQ.out rfl)
  have HNM := Lib.hid HSM.out.nm
  have HNS := Lib.hid HSM.out.nms
  have hl8 : l.length ≤ 8 := HSM.out.1
  clear HQ HR
  go_wp2_with (refine wpList_guarded (by rfl) ?_; intro KK hKK; refine wp_load_row 25 (.tmp 5) rfl B5 rfl _ _ _ _ H5_2.out Tryd.underlying25 rfl (by rw [infoTy]; rfl) ?_; refine hKK _ _ ?_; clear hKK; simp only [Act.put, List.setIfInBounds_toArray, List.set_cons_zero, List.set_cons_succ])
  refine (longt_ok w2 tb ts ma tms.length mc).mono ?_
  rintro e w3 ⟨rfl, r3⟩
  have H5_3 := Lib.hid (r3.heap H5_2.out (by simp))
  have H6_3 := Lib.hid (r3.heap H6_2.out (by simp))
  have TT_3 := Lib.hid (TT_2.out.fr r3)
  have TU_3 := Lib.hid (TU_2.out.fr r3)
  have HS_3 := Lib.hid (HS_2.out.fr r3)
  have TB_3 := Lib.hid (TB_2.out.fr r3)
  have R_3 := Lib.hid (R_2.out.trans r3)
  clear H5_2 H6_2 TT_2 TU_2 HS_2 TB_2 R_2
  clear r3
  by_cases hl5 : 12 < tms.length
  · rw [decide_eq_true hl5]
    clear hl5
    go_wp2_with fail
    go_ret
    exact ⟨rfl, R_3.out⟩
  rw [decide_eq_false hl5]
  go_wp2_with (refine wpList_guarded (by rfl) ?_; intro KK hKK; refine wp_load_row 25 (.tmp 6) rfl B6 rfl _ _ _ _ H6_3.out Tryd.underlying25 rfl (by rw [infoTy]; rfl) ?_; refine hKK _ _ ?_; clear hKK; simp only [Act.put, List.setIfInBounds_toArray, List.set_cons_zero, List.set_cons_succ])
  refine (longt_ok w3 ub us na ums.length nc).mono ?_
  rintro e w4 ⟨rfl, r4⟩
  have H5_4 := Lib.hid (r4.heap H5_3.out (by simp))
  have H6_4 := Lib.hid (r4.heap H6_3.out (by simp))
  have TT_4 := Lib.hid (TT_3.out.fr r4)
  have TU_4 := Lib.hid (TU_3.out.fr r4)
  have HS_4 := Lib.hid (HS_3.out.fr r4)
  have TB_4 := Lib.hid (TB_3.out.fr r4)
  have R_4 := Lib.hid (R_3.out.trans r4)
  clear H5_3 H6_3 TT_3 TU_3 HS_3 TB_3 R_3
  clear r4
  by_cases hl6 : 12 < ums.length
  · rw [decide_eq_true hl6]
    clear hl6
    go_wp2_with fail
    go_ret
    exact ⟨rfl, R_4.out⟩
  rw [decide_eq_false hl6]
  have HL : Hid (tms.length ≤ 12 ∧ ums.length ≤ 12) := Lib.hid (by omega)
  clear hl5 hl6
  go_wp2_with (refine wpList_guarded (by rfl) ?_; intro KK hKK; refine wp_load_row 25 (.tmp 5) rfl B5 rfl _ _ _ _ H5_4.out Tryd.underlying25 rfl (by rw [infoTy]; rfl) ?_; refine hKK _ _ ?_; clear hKK; simp only [Act.put, List.setIfInBounds_toArray, List.set_cons_zero, List.set_cons_succ])
  refine (check_ok l HNM.out ⟨tb, ts, tms⟩ w4 sa ma sc mc HS_4.out TT_4.out).mono ?_
  rintro e w5 ⟨rfl, r5⟩
  have H5_5 := Lib.hid (r5.heap H5_4.out (by simp))
  have H6_5 := Lib.hid (r5.heap H6_4.out (by simp))
  have TT_5 := Lib.hid (TT_4.out.fr r5)
  have TU_5 := Lib.hid (TU_4.out.fr r5)
  have HS_5 := Lib.hid (HS_4.out.fr r5)
  have TB_5 := Lib.hid (TB_4.out.fr r5)
  have R_5 := Lib.hid (R_4.out.trans r5)
  clear H5_4 H6_4 TT_4 TU_4 HS_4 TB_4 R_4
  clear r5
  by_cases h0 : checkE l ⟨tb, ts, tms⟩ = 0
  case neg =>
    have hz : ((checkE l ⟨tb, ts, tms⟩ : Int) != 0) = true := by rw [bne_iff_ne]; omega
    clear h0
    generalize checkE l ⟨tb, ts, tms⟩ = ck at *
    go_wp2_with fail
    go_ret
    exact ⟨rfl, R_5.out⟩
  rw [h0]
  have H0 := Lib.hid h0
  clear h0
  go_wp2_with (refine wpList_load_row rfl 25 (.tmp 5) rfl B5 rfl _ _ _ _ H5_5.out Tryd.underlying25 rfl (by rw [infoTy]; rfl) ?_; simp only [Act.put, List.setIfInBounds_toArray, List.set_cons_zero, List.set_cons_succ])
  by_cases h8 : tms.length < 8
  case neg =>
    refine (pointer_ok w5 ⟨tb, ts, tms⟩ ma mc TT_5.out).mono ?_
    rintro e w6 ⟨pb, ps, pms, pa, pc, pr, rfl, -, hT, r6⟩
    have hP : ptrS ⟨tb, ts, tms⟩ = (⟨0, 0, []⟩, 3) := by unfold ptrS; rw [if_pos (show 8 ≤ tms.length by omega)]
    rw [hP] at hT
    simp only [Prod.mk.injEq, Ty.mk.injEq] at hT
    obtain ⟨⟨rfl, rfl, rfl⟩, rfl⟩ := hT
    clear hP h8
    dsimp only [List.length_nil]
    have H5_6 := Lib.hid (r6.heap H5_5.out (by simp))
    have H6_6 := Lib.hid (r6.heap H6_5.out (by simp))
    have TT_6 := Lib.hid (TT_5.out.fr r6)
    have TU_6 := Lib.hid (TU_5.out.fr r6)
    have HS_6 := Lib.hid (HS_5.out.fr r6)
    have TB_6 := Lib.hid (TB_5.out.fr r6)
    have R_6 := Lib.hid (R_5.out.trans r6)
    clear H5_5 H6_5 TT_5 TU_5 HS_5 TB_5 R_5
    clear r6
    have HZ := Lib.hid (heap_new w6 (.cells #[.int .i64 0, .int .i64 0, .slice none 0 0] 25))
    have r7 : Fr no w6 ((w6.alloc (.cells #[.int .i64 0, .int .i64 0, .slice none 0 0] 25)).setRow w6.heap.size #[.int .i64 0, .int .i64 0, .slice pa 0 pc]) := fr_setRow ((Fr.refl no w6).alloc _) (.inr (Nat.le_refl _))
    have H5_7 := Lib.hid (r7.heap H5_6.out (by simp))
    have H6_7 := Lib.hid (r7.heap H6_6.out (by simp))
    have TT_7 := Lib.hid (TT_6.out.fr r7)
    have TU_7 := Lib.hid (TU_6.out.fr r7)
    have HS_7 := Lib.hid (HS_6.out.fr r7)
    have TB_7 := Lib.hid (TB_6.out.fr r7)
    have R_7 := Lib.hid (R_6.out.trans r7)
    clear H5_6 H6_6 TT_6 TU_6 HS_6 TB_6 R_6
    clear r7
    go_upto_region 5 with (refine wpList_store_row rfl 25 (.tmp 10) (.tmp 50) rfl w6.heap.size #[.int .i64 0, .int .i64 0, .slice pa 0 pc] rfl rfl _ _ HZ.out (by rw [infoTy]; rfl) rfl (by simp [Value.oneCell']) ?_; rw [act_put_none])
    clear HZ
    generalize (w6.alloc (.cells #[.int .i64 0, .int .i64 0, .slice none 0 0] 25)).setRow w6.heap.size #[.int .i64 0, .int .i64 0, .slice pa 0 pc] = w7 at *
    generalize w6.heap.size = B10 at *
    go_wp2_with fail
    have hpk := pkN_lt many 20 (by omega)
    have HPK := Lib.hid (fun w => pick_det w many 20 (by omega) (by omega))
    generalize pkN many 20 = pk at *
    have hwr : IntKind.i64.wrap (1 + (pk : Int)) = 1 + pk := by rw [IntKind.wrap_i64]; omega
    refine (HPK.out w7).mono ?_
    rintro e w' ⟨rfl, rfl⟩
    clear HPK
    go_upto_region 11 with fail
    have hpk1 : (1 + (pk : Int)) = ((pk + 1 : Nat) : Int) := by omega
    rw [hpk1]
    have hm20 : 1 ≤ pk + 1 ∧ pk + 1 ≤ 20 := by omega
    clear hwr hpk1 hpk
    generalize pk + 1 = m at *
    have C5 := Lib.hid (ce3 H5_7.out)
    refine Inv.free _ [84, 85, 86, 87, 88, 89, 90, 91, 92, 93, 16] [⟨10, 9, 11, 16, 93, 25, 3⟩] (fun i => [84, 85, 86, 87, 88, 89, 90, 91, 92, 93].getD i 0) (fun i v wq => match i with | 0 => v = .pointer (some ⟨B5, 0, none⟩) | 1 => v = .int .i64 tb | 2 => v = .pointer (some ⟨B5, 1, none⟩) | 3 => v = .int .i64 ts | 4 => v = .int .i64 m | 5 => ∃ b, v = .slice (some ⟨b, 0, none⟩) 1 1 ∧ w7.heap.size ≤ b ∧ wq.heap[b]? = some (.cells #[.int .i64 m] 3 (0, 0)) | 6 => v = .pointer (some ⟨B5, 2, none⟩) | 7 => v = .slice ma tms.length mc | 8 => ∃ ga gc, v = .slice ga (tms.length + 1) gc ∧ wq.ownsRow w7.heap.size 3 1 (.slice ga (tms.length + 1) gc) (tms.length + 1) (ints ((m : Int) :: tms)) | 9 => ∃ ga gc, v = .agg #[.int .i64 tb, .int .i64 ts, .slice ga (tms.length + 1) gc] ∧ wq.ownsRow w7.heap.size 3 1 (.slice ga (tms.length + 1) gc) (tms.length + 1) (ints ((m : Int) :: tms)) | _ => True) (by kernel_rfl) (by kernel_rfl) (by decide) (by kernel_rfl) 192 rfl (by decide) ?_ ?_ ?_ ?_ ?_ ?_ ?_ ?_
    · intro i v w1 w2 S' hfr hv hS hblk
      match i, hv with
      | 0, hv => exact hv
      | 1, hv => exact hv
      | 2, hv => exact hv
      | 3, hv => exact hv
      | 4, hv => exact hv
      | 5, ⟨b, h1, h2, h3⟩ =>
        refine ⟨b, h1, h2, hS.heap h3 (fun hk => ?_)⟩
        obtain ⟨-, p, hp, cs, h4⟩ := hblk b hk
        simp only [List.mem_cons, List.not_mem_nil, or_false] at hp
        subst hp
        rw [h3] at h4
        cases h4
      | 6, hv => exact hv
      | 7, hv => exact hv
      | 8, ⟨ga, gc, h1, h2⟩ =>
        refine ⟨ga, gc, h1, owns_fr h2 hS (fun k hk hs => ?_)⟩
        obtain ⟨-, p, hp, cs, h4⟩ := hblk k hs
        simp only [List.mem_cons, List.not_mem_nil, or_false] at hp
        subst hp
        exact row_block_ne h2 h4 (by decide) hk
      | 9, ⟨ga, gc, h1, h2⟩ =>
        refine ⟨ga, gc, h1, owns_fr h2 hS (fun k hk hs => ?_)⟩
        obtain ⟨-, p, hp, cs, h4⟩ := hblk k hs
        simp only [List.mem_cons, List.not_mem_nil, or_false] at hp
        subst hp
        exact row_block_ne h2 h4 (by decide) hk
      | _ + 10, _ => exact trivial
    · intro p hp
      simp only [List.mem_cons, List.not_mem_nil, or_false] at hp
      rcases hp with rfl
      · exact ⟨_, rfl, rfl, rfl⟩
    · intro p hp
      simp only [List.mem_cons, List.not_mem_nil, or_false] at hp
      rcases hp with rfl
      · exact ⟨_, rfl, rfl, rfl, ⟨⟨10, .data⟩, by simp, rfl, rfl⟩, ⟨⟨9, .data⟩, by simp, rfl, rfl⟩⟩
    · intro p hp
      simp only [List.mem_cons, List.not_mem_nil, or_false] at hp
      rcases hp with rfl
      · exact ⟨.agg #[.int .i64 0, .int .i64 0, .slice none 0 0], fun w => (by kernel_rfl), rfl⟩
    · intro p hp
      simp only [List.mem_cons, List.not_mem_nil, or_false] at hp
      rcases hp with rfl
      · kernel_rfl
    · intro p hp
      simp only [List.mem_cons, List.not_mem_nil, or_false] at hp
      subst hp
      rintro u w1 ⟨ga, gc, hu, -⟩
      exact ⟨_, hu, rfl, by simp [Value.oneCell']⟩
    · skip
      intro i o ho hs x dn wq rq hdep hV hnd hun hcl
      have hlt := (List.getElem?_eq_some_iff.1 ho).1
      simp only [List.length_cons, List.length_nil] at hlt
      obtain rfl | rfl | rfl | rfl | rfl | rfl | rfl | rfl | rfl | rfl | rfl | rfl : i = 0 ∨ i = 1 ∨ i = 2 ∨ i = 3 ∨ i = 4 ∨ i = 5 ∨ i = 6 ∨ i = 7 ∨ i = 8 ∨ i = 9 ∨ i = 10 ∨ i = 11 := by omega
      all_goals cases ho
      all_goals try (exact absurd hs (by decide))
      all_goals (unfold Inv.over; simp only [List.foldl_cons, List.foldl_nil, List.setIfInBounds_toArray, List.set_cons_zero, List.set_cons_succ])
      · skip
        refine Inv.Step.value (v := .pointer (some ⟨B5, 0, none⟩)) ?_ ⟨_, rfl, rfl, Fr.refl _ _⟩
        go_simp
      · have g0 := rq.cell C5.out.1 (by simp)
        have h0 : x 84 = .pointer (some ⟨B5, 0, none⟩) := hV 0 (hdep ⟨0, .data⟩ (by simp) rfl) rfl
        refine Inv.Step.value (v := .int .i64 tb) ?_ ⟨_, rfl, rfl, Fr.refl _ _⟩
        go_simp
      · skip
        refine Inv.Step.value (v := .pointer (some ⟨B5, 1, none⟩)) ?_ ⟨_, rfl, rfl, Fr.refl _ _⟩
        go_simp
      · have g0 := rq.cell C5.out.2.1 (by simp)
        have h0 : x 86 = .pointer (some ⟨B5, 1, none⟩) := hV 2 (hdep ⟨2, .data⟩ (by simp) rfl) rfl
        refine Inv.Step.value (v := .int .i64 ts) ?_ ⟨_, rfl, rfl, Fr.refl _ _⟩
        go_simp
      · skip
        refine Inv.Step.value (v := .int .i64 m) ?_ ⟨_, rfl, rfl, Fr.refl _ _⟩
        go_simp
      · skip
        have h0 : x 88 = .int .i64 m := hV 4 (hdep ⟨4, .data⟩ (by simp) rfl) rfl
        have hb := (Fr.refl no wq).alloc (.cells #[.int .i64 m] 3)
        have hsz := rq.size
        refine Inv.Step.run (v := .slice (some ⟨wq.heap.size, 0, none⟩) 1 1) (w' := wq.alloc (.cells #[.int .i64 m] 3)) ?_ ⟨_, rfl, ⟨wq.heap.size, rfl, hsz, heap_new _ _⟩, hb⟩
        go_simp
        try rfl
      · skip
        refine Inv.Step.value (v := .pointer (some ⟨B5, 2, none⟩)) ?_ ⟨_, rfl, rfl, Fr.refl _ _⟩
        go_simp
      · have g0 := rq.cell C5.out.2.2 (by simp)
        have h0 : x 90 = .pointer (some ⟨B5, 2, none⟩) := hV 6 (hdep ⟨6, .data⟩ (by simp) rfl) rfl
        refine Inv.Step.value (v := .slice ma tms.length mc) ?_ ⟨_, rfl, rfl, Fr.refl _ _⟩
        go_simp
      · obtain ⟨b, h5, h6, h7⟩ := hV 5 (hdep ⟨5, .data⟩ (by simp) rfl) rfl
        have h8 : x 91 = .slice ma tms.length mc := hV 7 (hdep ⟨7, .data⟩ (by simp) rfl) rfl
        exact Inv.Step.append_full _ _ rfl w7.heap.size b m ma mc tms h5 h8 h7 h6 (TT_7.out.fr rq) (by have := HL.out; omega) (fun ga gc w' f1 f2 => ⟨_, rfl, ⟨ga, gc, rfl, f2⟩, f1⟩)
      · skip
        have h1 : x 85 = .int .i64 tb := hV 1 (hdep ⟨1, .data⟩ (by simp) rfl) rfl
        have h3 : x 87 = .int .i64 ts := hV 3 (hdep ⟨3, .data⟩ (by simp) rfl) rfl
        obtain ⟨ga, gc, h8, h9⟩ := hV 8 (hdep ⟨8, .data⟩ (by simp) rfl) rfl
        have h8 : x 92 = .slice ga (tms.length + 1) gc := h8
        refine Inv.Step.value (v := .agg #[.int .i64 tb, .int .i64 ts, .slice ga (tms.length + 1) gc]) ?_ ⟨_, rfl, ⟨ga, gc, rfl, h9⟩, Fr.refl _ _⟩
        go_simp
    · skip
      intro x wq rq hV hvar hne
      unfold Inv.over
      simp only [List.foldl_cons, List.foldl_nil, List.setIfInBounds_toArray, List.set_cons_zero, List.set_cons_succ]
      obtain ⟨B16, c16, y16, l16, hb16, v16⟩ := hvar ⟨10, 9, 11, 16, 93, 25, 3⟩ (by simp)
      obtain ⟨ga, gc, h93', ho⟩ := hV 9 (by decide) rfl
      dsimp only at y16 v16 hb16 ho
      have h93 : x 93 = .agg #[.int .i64 tb, .int .i64 ts, .slice ga (tms.length + 1) gc] := h93'
      clear h93'
      rw [h93] at v16
      cases v16
      rw [y16]
      have H16_8 := Lib.hid hb16
      have TA_8 : Hid (TIn wq ga gc ((m : Int) :: tms)) := Lib.hid (owns_reads ho)
      have H5_8 := Lib.hid (rq.heap H5_7.out (by simp))
      have H6_8 := Lib.hid (rq.heap H6_7.out (by simp))
      have TT_8 := Lib.hid (TT_7.out.fr rq)
      have TU_8 := Lib.hid (TU_7.out.fr rq)
      have HS_8 := Lib.hid (HS_7.out.fr rq)
      have TB_8 := Lib.hid (TB_7.out.fr rq)
      have R_8 := Lib.hid (R_7.out.trans rq)
      clear H5_7 H6_7 TT_7 TU_7 HS_7 TB_7 R_7
      clear rq hb16 ho y16 h93 hV hvar hne l16 C5
      generalize x 84 = y84
      generalize x 85 = y85
      generalize x 86 = y86
      generalize x 87 = y87
      generalize x 88 = y88
      generalize x 89 = y89
      generalize x 90 = y90
      generalize x 91 = y91
      generalize x 92 = y92
      generalize x 93 = y93
      clear x
      generalize wq = w8 at *
      go_wp2_with (refine wpList_load_row rfl 25 (.tmp 16) rfl B16 rfl _ _ _ _ H16_8.out Tryd.underlying25 rfl (by rw [infoTy]; rfl) ?_; simp only [Act.put, List.setIfInBounds_toArray, List.set_cons_zero, List.set_cons_succ])
      have C := check_ok l HNM.out ⟨tb, ts, (m : Int) :: tms⟩ w8 sa ga sc gc HS_8.out TA_8.out
      dsimp only [List.length_cons] at C
      refine C.mono ?_
      clear C
      rintro e w9 ⟨rfl, r9⟩
      have H5_9 := Lib.hid (r9.heap H5_8.out (by simp))
      have H6_9 := Lib.hid (r9.heap H6_8.out (by simp))
      have TT_9 := Lib.hid (TT_8.out.fr r9)
      have TU_9 := Lib.hid (TU_8.out.fr r9)
      have HS_9 := Lib.hid (HS_8.out.fr r9)
      have TB_9 := Lib.hid (TB_8.out.fr r9)
      have R_9 := Lib.hid (R_8.out.trans r9)
      have H16_9 := Lib.hid (r9.heap H16_8.out (by simp))
      have TA_9 := Lib.hid (TA_8.out.fr r9)
      clear H5_8 H6_8 TT_8 TU_8 HS_8 TB_8 R_8 H16_8 TA_8
      clear r9
      by_cases ha : checkE l ⟨tb, ts, (m : Int) :: tms⟩ = 0
      case neg =>
        have hz : ((checkE l ⟨tb, ts, (m : Int) :: tms⟩ : Int) == 0) = false := by rw [beq_eq_false_iff_ne]; omega
        clear ha
        generalize checkE l ⟨tb, ts, (m : Int) :: tms⟩ = ca at *
        go_wp2_with (refine wpList_load_row rfl 25 (.tmp 5) rfl B5 rfl _ _ _ _ H5_9.out Tryd.underlying25 rfl (by rw [infoTy]; rfl) ?_; simp only [Act.put, List.setIfInBounds_toArray, List.set_cons_zero, List.set_cons_succ])
        have C := text_ok l HNM.out HNS.out ⟨tb, ts, tms⟩ w9 sa ma sc mc HS_9.out TT_9.out TB_9.out
        rw [H0.out] at C
        refine C.mono ?_
        clear C
        rintro e w10 ⟨rfl, r10⟩
        have H5_10 := Lib.hid (r10.heap H5_9.out (by simp))
        have H6_10 := Lib.hid (r10.heap H6_9.out (by simp))
        have TT_10 := Lib.hid (TT_9.out.fr r10)
        have TU_10 := Lib.hid (TU_9.out.fr r10)
        have HS_10 := Lib.hid (HS_9.out.fr r10)
        have TB_10 := Lib.hid (TB_9.out.fr r10)
        have R_10 := Lib.hid (R_9.out.trans r10)
        clear H5_9 H6_9 TT_9 TU_9 HS_9 TB_9 R_9
        clear r10
        go_wp2_with (refine wpList_load_row rfl 25 (.tmp 6) rfl B6 rfl _ _ _ _ H6_10.out Tryd.underlying25 rfl (by rw [infoTy]; rfl) ?_; simp only [Act.put, List.setIfInBounds_toArray, List.set_cons_zero, List.set_cons_succ])
        refine (text_ok l HNM.out HNS.out ⟨ub, us, ums⟩ w10 sa na sc nc HS_10.out TU_10.out TB_10.out).mono ?_
        rintro e w11 ⟨rfl, r11⟩
        have H5_11 := Lib.hid (r11.heap H5_10.out (by simp))
        have H6_11 := Lib.hid (r11.heap H6_10.out (by simp))
        have TT_11 := Lib.hid (TT_10.out.fr r11)
        have TU_11 := Lib.hid (TU_10.out.fr r11)
        have HS_11 := Lib.hid (HS_10.out.fr r11)
        have TB_11 := Lib.hid (TB_10.out.fr r11)
        have R_11 := Lib.hid (R_10.out.trans r11)
        clear H5_10 H6_10 TT_10 TU_10 HS_10 TB_10 R_10
        clear r11
        by_cases hu : checkE l ⟨ub, us, ums⟩ = 0
        case neg =>
          have hz : ((checkE l ⟨ub, us, ums⟩ : Int) != 0) = true := by rw [bne_iff_ne]; omega
          clear hu
          generalize checkE l ⟨ub, us, ums⟩ = cu at *
          go_wp2_with fail
          go_ret
          exact ⟨rfl, R_11.out⟩
        have HU := Lib.hid hu
        rw [hu]
        clear hu
        go_wp2_with fail
        refine (plain_ok w11 sa sc l HS_11.out (by omega) (fun x hx => by have := HNS.out x hx; omega)).mono ?_
        rintro e w12 ⟨q, rfl, hq, r12⟩
        have HQ := Lib.hid hq
        clear hq
        have H5_12 := Lib.hid (r12.heap H5_11.out (by simp))
        have H6_12 := Lib.hid (r12.heap H6_11.out (by simp))
        have TT_12 := Lib.hid (TT_11.out.fr r12)
        have TU_12 := Lib.hid (TU_11.out.fr r12)
        have HS_12 := Lib.hid (HS_11.out.fr r12)
        have TB_12 := Lib.hid (TB_11.out.fr r12)
        have R_12 := Lib.hid (R_11.out.trans r12)
        clear H5_11 H6_11 TT_11 TU_11 HS_11 TB_11 R_11
        clear r12
        cases q
        case false =>
          go_wp2_with fail
          go_ret
          exact ⟨rfl, R_12.out⟩
        have HTI := Lib.hid (text_inj (HQ.out rfl) H0.out HU.out)
        obtain ⟨z, hz⟩ : ∃ z, z = decide ((⟨tb, ts, tms⟩ : Ty) = ⟨ub, us, ums⟩) := ⟨_, rfl⟩
        have HZ := Lib.hid hz
        have hE : ((textV l ⟨tb, ts, tms⟩).toList == (textV l ⟨ub, us, ums⟩).toList) = z := by
          rw [bytes_eq, hz]
          exact decide_eq_decide.2 HTI.out
        have hzz : (z == z) = true := by simp
        clear hz HTI HQ
        generalize textV l ⟨tb, ts, tms⟩ = vt at *
        generalize textV l ⟨ub, us, ums⟩ = vu at *
        go_wp2_with (first
                  | (refine wpList_guarded (by rfl) ?_; intro KK hKK; refine wp_load_row 25 (.tmp 5) rfl B5 rfl _ _ _ _ H5_12.out Tryd.underlying25 rfl (by rw [infoTy]; rfl) ?_; refine hKK _ _ ?_; clear hKK; simp only [Act.put, List.setIfInBounds_toArray, List.set_cons_zero, List.set_cons_succ])
                  | (refine wpList_guarded (by rfl) ?_; intro KK hKK; refine wp_load_row 25 (.tmp 6) rfl B6 rfl _ _ _ _ H6_12.out Tryd.underlying25 rfl (by rw [infoTy]; rfl) ?_; refine hKK _ _ ?_; clear hKK; simp only [Act.put, List.setIfInBounds_toArray, List.set_cons_zero, List.set_cons_succ]))
        have C := tsame_ok w12 tb ts ub us tms ums ma na mc nc TT_12.out TU_12.out (by have := HL.out; omega) (by have := HL.out; omega)
        rw [← HZ.out] at C
        refine C.mono ?_
        clear C
        rintro e w13 ⟨rfl, r13⟩
        have H5_13 := Lib.hid (r13.heap H5_12.out (by simp))
        have H6_13 := Lib.hid (r13.heap H6_12.out (by simp))
        have TT_13 := Lib.hid (TT_12.out.fr r13)
        have TU_13 := Lib.hid (TU_12.out.fr r13)
        have HS_13 := Lib.hid (HS_12.out.fr r13)
        have TB_13 := Lib.hid (TB_12.out.fr r13)
        have R_13 := Lib.hid (R_12.out.trans r13)
        clear H5_12 H6_12 TT_12 TU_12 HS_12 TB_12 R_12
        clear r13
        go_wp2_with fail
        go_ret
        exact ⟨rfl, R_13.out⟩
      rw [ha]
      have HA := Lib.hid ha
      have HAC := Lib.hid (arr_check hm20 H0.out HA.out)
      clear ha
      obtain ⟨sz, hsz⟩ : ∃ x, x = sizeV l ⟨tb, ts, tms⟩ := ⟨_, rfl⟩
      obtain ⟨al, hal⟩ : ∃ x, x = alignV l ⟨tb, ts, tms⟩ := ⟨_, rfl⟩
      have HC := Lib.hid HAC.out
      dsimp only at HC
      rw [← hsz, ← hal] at HC
      have HSZ := Lib.hid hsz
      have HAL := Lib.hid hal
      clear hsz hal HAC
      have hc := HC.out
      obtain ⟨c1, c2, c3, c4, c5, c6⟩ := hc
      have hpr : m * sz ≤ 20 * 8192 := Nat.mul_le_mul hm20.2 c6
      have hmi : IntKind.i64.wrap ((m : Int) * (sz : Int)) = ((m * sz : Nat) : Int) := by rw [show (m : Int) * (sz : Int) = ((m * sz : Nat) : Int) by push_cast; rfl, IntKind.wrap_i64]; omega
      have hrm : ((sz : Int) % (al : Int) != 0) = false := by rw [← Int.natCast_emod, c3]; rfl
      have hal0 : (al : Int) ≠ 0 := by omega
      clear c1 c2 c3
      have hmx : m ≤ 20 := hm20.2
      obtain ⟨msz, hmsz⟩ : ∃ x, x = m * sz := ⟨_, rfl⟩
      rw [← hmsz] at HC hmi hpr
      clear hmsz
      go_wp2_with (refine wpList_load_row rfl 25 (.tmp 5) rfl B5 rfl _ _ _ _ H5_9.out Tryd.underlying25 rfl (by rw [infoTy]; rfl) ?_; simp only [Act.put, List.setIfInBounds_toArray, List.set_cons_zero, List.set_cons_succ])
      have C := size_ok l HNM.out ⟨tb, ts, tms⟩ w9 sa ma sc mc HS_9.out TT_9.out
      rw [← HSZ.out, H0.out] at C
      refine C.mono ?_
      clear C
      rintro e w10 ⟨rfl, r10⟩
      have H5_10 := Lib.hid (r10.heap H5_9.out (by simp))
      have H6_10 := Lib.hid (r10.heap H6_9.out (by simp))
      have TT_10 := Lib.hid (TT_9.out.fr r10)
      have TU_10 := Lib.hid (TU_9.out.fr r10)
      have HS_10 := Lib.hid (HS_9.out.fr r10)
      have TB_10 := Lib.hid (TB_9.out.fr r10)
      have R_10 := Lib.hid (R_9.out.trans r10)
      have H16_10 := Lib.hid (r10.heap H16_9.out (by simp))
      have TA_10 := Lib.hid (TA_9.out.fr r10)
      clear H5_9 H6_9 TT_9 TU_9 HS_9 TB_9 R_9 H16_9 TA_9
      clear r10
      go_wp2_with (refine wpList_load_row rfl 25 (.tmp 16) rfl B16 rfl _ _ _ _ H16_10.out Tryd.underlying25 rfl (by rw [infoTy]; rfl) ?_; simp only [Act.put, List.setIfInBounds_toArray, List.set_cons_zero, List.set_cons_succ])
      have C := size_ok l HNM.out ⟨tb, ts, (m : Int) :: tms⟩ w10 sa ga sc gc HS_10.out TA_10.out
      rw [HC.out.1, HA.out] at C
      dsimp only [List.length_cons] at C
      refine C.mono ?_
      clear C
      rintro e w11 ⟨rfl, r11⟩
      have H5_11 := Lib.hid (r11.heap H5_10.out (by simp))
      have H6_11 := Lib.hid (r11.heap H6_10.out (by simp))
      have TT_11 := Lib.hid (TT_10.out.fr r11)
      have TU_11 := Lib.hid (TU_10.out.fr r11)
      have HS_11 := Lib.hid (HS_10.out.fr r11)
      have TB_11 := Lib.hid (TB_10.out.fr r11)
      have R_11 := Lib.hid (R_10.out.trans r11)
      have H16_11 := Lib.hid (r11.heap H16_10.out (by simp))
      have TA_11 := Lib.hid (TA_10.out.fr r11)
      clear H5_10 H6_10 TT_10 TU_10 HS_10 TB_10 R_10 H16_10 TA_10
      clear r11
      go_wp2_with (refine wpList_load_row rfl 25 (.tmp 5) rfl B5 rfl _ _ _ _ H5_11.out Tryd.underlying25 rfl (by rw [infoTy]; rfl) ?_; simp only [Act.put, List.setIfInBounds_toArray, List.set_cons_zero, List.set_cons_succ])
      have C := align_ok l HNM.out ⟨tb, ts, tms⟩ w11 sa ma sc mc HS_11.out TT_11.out
      rw [← HAL.out, H0.out] at C
      refine C.mono ?_
      clear C
      rintro e w12 ⟨rfl, r12⟩
      have H5_12 := Lib.hid (r12.heap H5_11.out (by simp))
      have H6_12 := Lib.hid (r12.heap H6_11.out (by simp))
      have TT_12 := Lib.hid (TT_11.out.fr r12)
      have TU_12 := Lib.hid (TU_11.out.fr r12)
      have HS_12 := Lib.hid (HS_11.out.fr r12)
      have TB_12 := Lib.hid (TB_11.out.fr r12)
      have R_12 := Lib.hid (R_11.out.trans r12)
      have H16_12 := Lib.hid (r12.heap H16_11.out (by simp))
      have TA_12 := Lib.hid (TA_11.out.fr r12)
      clear H5_11 H6_11 TT_11 TU_11 HS_11 TB_11 R_11 H16_11 TA_11
      clear r12
      go_wp2_with (refine wpList_load_row rfl 25 (.tmp 16) rfl B16 rfl _ _ _ _ H16_12.out Tryd.underlying25 rfl (by rw [infoTy]; rfl) ?_; simp only [Act.put, List.setIfInBounds_toArray, List.set_cons_zero, List.set_cons_succ])
      have C := align_ok l HNM.out ⟨tb, ts, (m : Int) :: tms⟩ w12 sa ga sc gc HS_12.out TA_12.out
      rw [HC.out.2.1, HA.out] at C
      dsimp only [List.length_cons] at C
      refine C.mono ?_
      clear C
      rintro e w13 ⟨rfl, r13⟩
      have H5_13 := Lib.hid (r13.heap H5_12.out (by simp))
      have H6_13 := Lib.hid (r13.heap H6_12.out (by simp))
      have TT_13 := Lib.hid (TT_12.out.fr r13)
      have TU_13 := Lib.hid (TU_12.out.fr r13)
      have HS_13 := Lib.hid (HS_12.out.fr r13)
      have TB_13 := Lib.hid (TB_12.out.fr r13)
      have R_13 := Lib.hid (R_12.out.trans r13)
      have H16_13 := Lib.hid (r13.heap H16_12.out (by simp))
      have TA_13 := Lib.hid (TA_12.out.fr r13)
      clear H5_12 H6_12 TT_12 TU_12 HS_12 TB_12 R_12 H16_12 TA_12
      clear r13
      go_wp2_with (refine wpList_load_row rfl 25 (.tmp 5) rfl B5 rfl _ _ _ _ H5_13.out Tryd.underlying25 rfl (by rw [infoTy]; rfl) ?_; simp only [Act.put, List.setIfInBounds_toArray, List.set_cons_zero, List.set_cons_succ])
      have C := text_ok l HNM.out HNS.out ⟨tb, ts, tms⟩ w13 sa ma sc mc HS_13.out TT_13.out TB_13.out
      rw [H0.out] at C
      refine C.mono ?_
      clear C
      rintro e w14 ⟨rfl, r14⟩
      have H5_14 := Lib.hid (r14.heap H5_13.out (by simp))
      have H6_14 := Lib.hid (r14.heap H6_13.out (by simp))
      have TT_14 := Lib.hid (TT_13.out.fr r14)
      have TU_14 := Lib.hid (TU_13.out.fr r14)
      have HS_14 := Lib.hid (HS_13.out.fr r14)
      have TB_14 := Lib.hid (TB_13.out.fr r14)
      have R_14 := Lib.hid (R_13.out.trans r14)
      clear H5_13 H6_13 TT_13 TU_13 HS_13 TB_13 R_13
      clear r14
      go_wp2_with (refine wpList_load_row rfl 25 (.tmp 6) rfl B6 rfl _ _ _ _ H6_14.out Tryd.underlying25 rfl (by rw [infoTy]; rfl) ?_; simp only [Act.put, List.setIfInBounds_toArray, List.set_cons_zero, List.set_cons_succ])
      refine (text_ok l HNM.out HNS.out ⟨ub, us, ums⟩ w14 sa na sc nc HS_14.out TU_14.out TB_14.out).mono ?_
      rintro e w15 ⟨rfl, r15⟩
      have H5_15 := Lib.hid (r15.heap H5_14.out (by simp))
      have H6_15 := Lib.hid (r15.heap H6_14.out (by simp))
      have TT_15 := Lib.hid (TT_14.out.fr r15)
      have TU_15 := Lib.hid (TU_14.out.fr r15)
      have HS_15 := Lib.hid (HS_14.out.fr r15)
      have TB_15 := Lib.hid (TB_14.out.fr r15)
      have R_15 := Lib.hid (R_14.out.trans r15)
      clear H5_14 H6_14 TT_14 TU_14 HS_14 TB_14 R_14
      clear r15
      by_cases hu : checkE l ⟨ub, us, ums⟩ = 0
      case neg =>
        have hz : ((checkE l ⟨ub, us, ums⟩ : Int) != 0) = true := by rw [bne_iff_ne]; omega
        clear hu
        generalize checkE l ⟨ub, us, ums⟩ = cu at *
        go_wp2_with fail
        go_ret
        exact ⟨rfl, R_15.out⟩
      have HU := Lib.hid hu
      rw [hu]
      clear hu
      go_wp2_with fail
      refine (plain_ok w15 sa sc l HS_15.out (by omega) (fun x hx => by have := HNS.out x hx; omega)).mono ?_
      rintro e w16 ⟨q, rfl, hq, r16⟩
      have HQ := Lib.hid hq
      clear hq
      have H5_16 := Lib.hid (r16.heap H5_15.out (by simp))
      have H6_16 := Lib.hid (r16.heap H6_15.out (by simp))
      have TT_16 := Lib.hid (TT_15.out.fr r16)
      have TU_16 := Lib.hid (TU_15.out.fr r16)
      have HS_16 := Lib.hid (HS_15.out.fr r16)
      have TB_16 := Lib.hid (TB_15.out.fr r16)
      have R_16 := Lib.hid (R_15.out.trans r16)
      clear H5_15 H6_15 TT_15 TU_15 HS_15 TB_15 R_15
      clear r16
      cases q
      case false =>
        go_wp2_with fail
        go_ret
        exact ⟨rfl, R_16.out⟩
      have HTI := Lib.hid (text_inj (HQ.out rfl) H0.out HU.out)
      obtain ⟨z, hz⟩ : ∃ z, z = decide ((⟨tb, ts, tms⟩ : Ty) = ⟨ub, us, ums⟩) := ⟨_, rfl⟩
      have HZ := Lib.hid hz
      have hE : ((textV l ⟨tb, ts, tms⟩).toList == (textV l ⟨ub, us, ums⟩).toList) = z := by
        rw [bytes_eq, hz]
        exact decide_eq_decide.2 HTI.out
      have hzz : (z == z) = true := by simp
      clear hz HTI HQ
      generalize textV l ⟨tb, ts, tms⟩ = vt at *
      generalize textV l ⟨ub, us, ums⟩ = vu at *
      go_wp2_with (first
              | (refine wpList_guarded (by rfl) ?_; intro KK hKK; refine wp_load_row 25 (.tmp 5) rfl B5 rfl _ _ _ _ H5_16.out Tryd.underlying25 rfl (by rw [infoTy]; rfl) ?_; refine hKK _ _ ?_; clear hKK; simp only [Act.put, List.setIfInBounds_toArray, List.set_cons_zero, List.set_cons_succ])
              | (refine wpList_guarded (by rfl) ?_; intro KK hKK; refine wp_load_row 25 (.tmp 6) rfl B6 rfl _ _ _ _ H6_16.out Tryd.underlying25 rfl (by rw [infoTy]; rfl) ?_; refine hKK _ _ ?_; clear hKK; simp only [Act.put, List.setIfInBounds_toArray, List.set_cons_zero, List.set_cons_succ]))
      have C := tsame_ok w16 tb ts ub us tms ums ma na mc nc TT_16.out TU_16.out (by have := HL.out; omega) (by have := HL.out; omega)
      rw [← HZ.out] at C
      refine C.mono ?_
      clear C
      rintro e w17 ⟨rfl, r17⟩
      have H5_17 := Lib.hid (r17.heap H5_16.out (by simp))
      have H6_17 := Lib.hid (r17.heap H6_16.out (by simp))
      have TT_17 := Lib.hid (TT_16.out.fr r17)
      have TU_17 := Lib.hid (TU_16.out.fr r17)
      have HS_17 := Lib.hid (HS_16.out.fr r17)
      have TB_17 := Lib.hid (TB_16.out.fr r17)
      have R_17 := Lib.hid (R_16.out.trans r17)
      clear H5_16 H6_16 TT_16 TU_16 HS_16 TB_16 R_16
      clear r17
      go_wp2_with fail
      go_ret
      exact ⟨rfl, R_17.out⟩
  have HPT := Lib.hid (ptr_size H0.out h8)
  refine (pointer_ok w5 ⟨tb, ts, tms⟩ ma mc TT_5.out).mono ?_
  rintro e w6 ⟨pb, ps, pms, pa, pc, pr, rfl, ho, hT, r6⟩
  have hP : ptrS ⟨tb, ts, tms⟩ = (⟨tb, ts, -1 :: tms⟩, 0) := by unfold ptrS; rw [if_neg (show ¬ 8 ≤ tms.length by omega)]
  rw [hP] at hT
  simp only [Prod.mk.injEq, Ty.mk.injEq] at hT
  obtain ⟨⟨rfl, rfl, rfl⟩, rfl⟩ := hT
  have TP_6 : Hid (TIn w6 pa pc (-1 :: tms)) := Lib.hid (owns_reads ho)
  clear hP ho h8
  dsimp only [List.length_cons]
  have H5_6 := Lib.hid (r6.heap H5_5.out (by simp))
  have H6_6 := Lib.hid (r6.heap H6_5.out (by simp))
  have TT_6 := Lib.hid (TT_5.out.fr r6)
  have TU_6 := Lib.hid (TU_5.out.fr r6)
  have HS_6 := Lib.hid (HS_5.out.fr r6)
  have TB_6 := Lib.hid (TB_5.out.fr r6)
  have R_6 := Lib.hid (R_5.out.trans r6)
  clear H5_5 H6_5 TT_5 TU_5 HS_5 TB_5 R_5
  clear r6
  have HZ := Lib.hid (heap_new w6 (.cells #[.int .i64 0, .int .i64 0, .slice none 0 0] 25))
  have H10_7 := Lib.hid (setRow_heap _ _ _ #[.int .i64 tb, .int .i64 ts, .slice pa (tms.length + 1) pc] _ _ HZ.out)
  have r7 : Fr no w6 ((w6.alloc (.cells #[.int .i64 0, .int .i64 0, .slice none 0 0] 25)).setRow w6.heap.size #[.int .i64 tb, .int .i64 ts, .slice pa (tms.length + 1) pc]) := fr_setRow ((Fr.refl no w6).alloc _) (.inr (Nat.le_refl _))
  have H5_7 := Lib.hid (r7.heap H5_6.out (by simp))
  have H6_7 := Lib.hid (r7.heap H6_6.out (by simp))
  have TT_7 := Lib.hid (TT_6.out.fr r7)
  have TU_7 := Lib.hid (TU_6.out.fr r7)
  have HS_7 := Lib.hid (HS_6.out.fr r7)
  have TB_7 := Lib.hid (TB_6.out.fr r7)
  have R_7 := Lib.hid (R_6.out.trans r7)
  have TP_7 := Lib.hid (TP_6.out.fr r7)
  clear H5_6 H6_6 TT_6 TU_6 HS_6 TB_6 R_6 TP_6
  clear r7
  go_upto_region 5 with (refine wpList_store_row rfl 25 (.tmp 10) (.tmp 50) rfl w6.heap.size #[.int .i64 tb, .int .i64 ts, .slice pa (tms.length + 1) pc] rfl rfl _ _ HZ.out (by rw [infoTy]; rfl) rfl (by simp [Value.oneCell']) ?_; rw [act_put_none])
  clear HZ
  generalize (w6.alloc (.cells #[.int .i64 0, .int .i64 0, .slice none 0 0] 25)).setRow w6.heap.size #[.int .i64 tb, .int .i64 ts, .slice pa (tms.length + 1) pc] = w7 at *
  generalize w6.heap.size = B10 at *
  go_wp2_with (refine wpList_load_row rfl 25 (.tmp 10) rfl B10 rfl _ _ _ _ H10_7.out Tryd.underlying25 rfl (by rw [infoTy]; rfl) ?_; simp only [Act.put, List.setIfInBounds_toArray, List.set_cons_zero, List.set_cons_succ])
  have C := size_ok l HNM.out ⟨tb, ts, -1 :: tms⟩ w7 sa pa sc pc HS_7.out TP_7.out
  rw [HPT.out.1, HPT.out.2] at C
  dsimp only [List.length_cons] at C
  refine C.mono ?_
  clear C
  rintro e w8 ⟨rfl, r8⟩
  have H5_8 := Lib.hid (r8.heap H5_7.out (by simp))
  have H6_8 := Lib.hid (r8.heap H6_7.out (by simp))
  have TT_8 := Lib.hid (TT_7.out.fr r8)
  have TU_8 := Lib.hid (TU_7.out.fr r8)
  have HS_8 := Lib.hid (HS_7.out.fr r8)
  have TB_8 := Lib.hid (TB_7.out.fr r8)
  have R_8 := Lib.hid (R_7.out.trans r8)
  have TP_8 := Lib.hid (TP_7.out.fr r8)
  have H10_8 := Lib.hid (r8.heap H10_7.out (by simp))
  clear H5_7 H6_7 TT_7 TU_7 HS_7 TB_7 R_7 TP_7 H10_7
  clear r8
  go_wp2_with (refine wpList_load_row rfl 25 (.tmp 10) rfl B10 rfl _ _ _ _ H10_8.out Tryd.underlying25 rfl (by rw [infoTy]; rfl) ?_; simp only [Act.put, List.setIfInBounds_toArray, List.set_cons_zero, List.set_cons_succ])
  have C := elem_ok w8 ⟨tb, ts, -1 :: tms⟩ pa pc TP_8.out (by have := HL.out; simp; omega)
  dsimp only [List.length_cons] at C
  refine C.mono ?_
  clear C
  rintro e w9 ⟨eb, es, ems, ea, ec, er, rfl, ho, hT, r9⟩
  rw [show elemS ⟨tb, ts, -1 :: tms⟩ = (⟨tb, ts, tms⟩, 0) from rfl] at hT
  simp only [Prod.mk.injEq, Ty.mk.injEq] at hT
  obtain ⟨⟨rfl, rfl, rfl⟩, rfl⟩ := hT
  have TE_9 : Hid (TIn w9 ea ec tms) := Lib.hid (owns_reads ho)
  clear ho
  have H5_9 := Lib.hid (r9.heap H5_8.out (by simp))
  have H6_9 := Lib.hid (r9.heap H6_8.out (by simp))
  have TT_9 := Lib.hid (TT_8.out.fr r9)
  have TU_9 := Lib.hid (TU_8.out.fr r9)
  have HS_9 := Lib.hid (HS_8.out.fr r9)
  have TB_9 := Lib.hid (TB_8.out.fr r9)
  have R_9 := Lib.hid (R_8.out.trans r9)
  clear H5_8 H6_8 TT_8 TU_8 HS_8 TB_8 R_8
  clear r9
  have HZ := Lib.hid (heap_new w9 (.cells #[.int .i64 0, .int .i64 0, .slice none 0 0] 25))
  have H14_10 := Lib.hid (setRow_heap _ _ _ #[.int .i64 tb, .int .i64 ts, .slice ea tms.length ec] _ _ HZ.out)
  have r10 : Fr no w9 ((w9.alloc (.cells #[.int .i64 0, .int .i64 0, .slice none 0 0] 25)).setRow w9.heap.size #[.int .i64 tb, .int .i64 ts, .slice ea tms.length ec]) := fr_setRow ((Fr.refl no w9).alloc _) (.inr (Nat.le_refl _))
  have H5_10 := Lib.hid (r10.heap H5_9.out (by simp))
  have H6_10 := Lib.hid (r10.heap H6_9.out (by simp))
  have TT_10 := Lib.hid (TT_9.out.fr r10)
  have TU_10 := Lib.hid (TU_9.out.fr r10)
  have HS_10 := Lib.hid (HS_9.out.fr r10)
  have TB_10 := Lib.hid (TB_9.out.fr r10)
  have R_10 := Lib.hid (R_9.out.trans r10)
  have TE_10 := Lib.hid (TE_9.out.fr r10)
  clear H5_9 H6_9 TT_9 TU_9 HS_9 TB_9 R_9 TE_9
  clear r10
  go_upto_region 8 with (refine wpList_store_row rfl 25 (.tmp 14) (.tmp 63) rfl w9.heap.size #[.int .i64 tb, .int .i64 ts, .slice ea tms.length ec] rfl rfl _ _ HZ.out (by rw [infoTy]; rfl) rfl (by simp [Value.oneCell']) ?_; rw [act_put_none])
  clear HZ
  generalize (w9.alloc (.cells #[.int .i64 0, .int .i64 0, .slice none 0 0] 25)).setRow w9.heap.size #[.int .i64 tb, .int .i64 ts, .slice ea tms.length ec] = w10 at *
  generalize w9.heap.size = B14 at *
  go_wp2_with (first
      | (refine wpList_guarded (by rfl) ?_; intro KK hKK; refine wp_load_row 25 (.tmp 14) rfl B14 rfl _ _ _ _ H14_10.out Tryd.underlying25 rfl (by rw [infoTy]; rfl) ?_; refine hKK _ _ ?_; clear hKK; simp only [Act.put, List.setIfInBounds_toArray, List.set_cons_zero, List.set_cons_succ])
      | (refine wpList_guarded (by rfl) ?_; intro KK hKK; refine wp_load_row 25 (.tmp 5) rfl B5 rfl _ _ _ _ H5_10.out Tryd.underlying25 rfl (by rw [infoTy]; rfl) ?_; refine hKK _ _ ?_; clear hKK; simp only [Act.put, List.setIfInBounds_toArray, List.set_cons_zero, List.set_cons_succ]))
  have C := tsame_ok w10 tb ts tb ts tms tms ea ma ec mc TE_10.out TT_10.out (by have := HL.out; omega) (by have := HL.out; omega)
  rw [decide_eq_true rfl] at C
  refine C.mono ?_
  clear C
  rintro e w11 ⟨rfl, r11⟩
  have H5_11 := Lib.hid (r11.heap H5_10.out (by simp))
  have H6_11 := Lib.hid (r11.heap H6_10.out (by simp))
  have TT_11 := Lib.hid (TT_10.out.fr r11)
  have TU_11 := Lib.hid (TU_10.out.fr r11)
  have HS_11 := Lib.hid (HS_10.out.fr r11)
  have TB_11 := Lib.hid (TB_10.out.fr r11)
  have R_11 := Lib.hid (R_10.out.trans r11)
  have TE_11 := Lib.hid (TE_10.out.fr r11)
  have H14_11 := Lib.hid (r11.heap H14_10.out (by simp))
  clear H5_10 H6_10 TT_10 TU_10 HS_10 TB_10 R_10 TE_10 H14_10
  clear r11
  go_wp2_with fail
  have hpk := pkN_lt many 20 (by omega)
  have HPK := Lib.hid (fun w => pick_det w many 20 (by omega) (by omega))
  generalize pkN many 20 = pk at *
  have hwr : IntKind.i64.wrap (1 + (pk : Int)) = 1 + pk := by rw [IntKind.wrap_i64]; omega
  refine (HPK.out w11).mono ?_
  rintro e w' ⟨rfl, rfl⟩
  clear HPK
  go_upto_region 11 with fail
  have hpk1 : (1 + (pk : Int)) = ((pk + 1 : Nat) : Int) := by omega
  rw [hpk1]
  have hm20 : 1 ≤ pk + 1 ∧ pk + 1 ≤ 20 := by omega
  clear hwr hpk1 hpk
  generalize pk + 1 = m at *
  have C5 := Lib.hid (ce3 H5_11.out)
  refine Inv.free _ [84, 85, 86, 87, 88, 89, 90, 91, 92, 93, 16] [⟨10, 9, 11, 16, 93, 25, 3⟩] (fun i => [84, 85, 86, 87, 88, 89, 90, 91, 92, 93].getD i 0) (fun i v wq => match i with | 0 => v = .pointer (some ⟨B5, 0, none⟩) | 1 => v = .int .i64 tb | 2 => v = .pointer (some ⟨B5, 1, none⟩) | 3 => v = .int .i64 ts | 4 => v = .int .i64 m | 5 => ∃ b, v = .slice (some ⟨b, 0, none⟩) 1 1 ∧ w11.heap.size ≤ b ∧ wq.heap[b]? = some (.cells #[.int .i64 m] 3 (0, 0)) | 6 => v = .pointer (some ⟨B5, 2, none⟩) | 7 => v = .slice ma tms.length mc | 8 => ∃ ga gc, v = .slice ga (tms.length + 1) gc ∧ wq.ownsRow w11.heap.size 3 1 (.slice ga (tms.length + 1) gc) (tms.length + 1) (ints ((m : Int) :: tms)) | 9 => ∃ ga gc, v = .agg #[.int .i64 tb, .int .i64 ts, .slice ga (tms.length + 1) gc] ∧ wq.ownsRow w11.heap.size 3 1 (.slice ga (tms.length + 1) gc) (tms.length + 1) (ints ((m : Int) :: tms)) | _ => True) (by kernel_rfl) (by kernel_rfl) (by decide) (by kernel_rfl) 192 rfl (by decide) ?_ ?_ ?_ ?_ ?_ ?_ ?_ ?_
  · intro i v w1 w2 S' hfr hv hS hblk
    match i, hv with
    | 0, hv => exact hv
    | 1, hv => exact hv
    | 2, hv => exact hv
    | 3, hv => exact hv
    | 4, hv => exact hv
    | 5, ⟨b, h1, h2, h3⟩ =>
      refine ⟨b, h1, h2, hS.heap h3 (fun hk => ?_)⟩
      obtain ⟨-, p, hp, cs, h4⟩ := hblk b hk
      simp only [List.mem_cons, List.not_mem_nil, or_false] at hp
      subst hp
      rw [h3] at h4
      cases h4
    | 6, hv => exact hv
    | 7, hv => exact hv
    | 8, ⟨ga, gc, h1, h2⟩ =>
      refine ⟨ga, gc, h1, owns_fr h2 hS (fun k hk hs => ?_)⟩
      obtain ⟨-, p, hp, cs, h4⟩ := hblk k hs
      simp only [List.mem_cons, List.not_mem_nil, or_false] at hp
      subst hp
      exact row_block_ne h2 h4 (by decide) hk
    | 9, ⟨ga, gc, h1, h2⟩ =>
      refine ⟨ga, gc, h1, owns_fr h2 hS (fun k hk hs => ?_)⟩
      obtain ⟨-, p, hp, cs, h4⟩ := hblk k hs
      simp only [List.mem_cons, List.not_mem_nil, or_false] at hp
      subst hp
      exact row_block_ne h2 h4 (by decide) hk
    | _ + 10, _ => exact trivial
  · intro p hp
    simp only [List.mem_cons, List.not_mem_nil, or_false] at hp
    rcases hp with rfl
    · exact ⟨_, rfl, rfl, rfl⟩
  · intro p hp
    simp only [List.mem_cons, List.not_mem_nil, or_false] at hp
    rcases hp with rfl
    · exact ⟨_, rfl, rfl, rfl, ⟨⟨10, .data⟩, by simp, rfl, rfl⟩, ⟨⟨9, .data⟩, by simp, rfl, rfl⟩⟩
  · intro p hp
    simp only [List.mem_cons, List.not_mem_nil, or_false] at hp
    rcases hp with rfl
    · exact ⟨.agg #[.int .i64 0, .int .i64 0, .slice none 0 0], fun w => (by kernel_rfl), rfl⟩
  · intro p hp
    simp only [List.mem_cons, List.not_mem_nil, or_false] at hp
    rcases hp with rfl
    · kernel_rfl
  · intro p hp
    simp only [List.mem_cons, List.not_mem_nil, or_false] at hp
    subst hp
    rintro u w1 ⟨ga, gc, hu, -⟩
    exact ⟨_, hu, rfl, by simp [Value.oneCell']⟩
  · skip
    intro i o ho hs x dn wq rq hdep hV hnd hun hcl
    have hlt := (List.getElem?_eq_some_iff.1 ho).1
    simp only [List.length_cons, List.length_nil] at hlt
    obtain rfl | rfl | rfl | rfl | rfl | rfl | rfl | rfl | rfl | rfl | rfl | rfl : i = 0 ∨ i = 1 ∨ i = 2 ∨ i = 3 ∨ i = 4 ∨ i = 5 ∨ i = 6 ∨ i = 7 ∨ i = 8 ∨ i = 9 ∨ i = 10 ∨ i = 11 := by omega
    all_goals cases ho
    all_goals try (exact absurd hs (by decide))
    all_goals (unfold Inv.over; simp only [List.foldl_cons, List.foldl_nil, List.setIfInBounds_toArray, List.set_cons_zero, List.set_cons_succ])
    · skip
      refine Inv.Step.value (v := .pointer (some ⟨B5, 0, none⟩)) ?_ ⟨_, rfl, rfl, Fr.refl _ _⟩
      go_simp
    · have g0 := rq.cell C5.out.1 (by simp)
      have h0 : x 84 = .pointer (some ⟨B5, 0, none⟩) := hV 0 (hdep ⟨0, .data⟩ (by simp) rfl) rfl
      refine Inv.Step.value (v := .int .i64 tb) ?_ ⟨_, rfl, rfl, Fr.refl _ _⟩
      go_simp
    · skip
      refine Inv.Step.value (v := .pointer (some ⟨B5, 1, none⟩)) ?_ ⟨_, rfl, rfl, Fr.refl _ _⟩
      go_simp
    · have g0 := rq.cell C5.out.2.1 (by simp)
      have h0 : x 86 = .pointer (some ⟨B5, 1, none⟩) := hV 2 (hdep ⟨2, .data⟩ (by simp) rfl) rfl
      refine Inv.Step.value (v := .int .i64 ts) ?_ ⟨_, rfl, rfl, Fr.refl _ _⟩
      go_simp
    · skip
      refine Inv.Step.value (v := .int .i64 m) ?_ ⟨_, rfl, rfl, Fr.refl _ _⟩
      go_simp
    · skip
      have h0 : x 88 = .int .i64 m := hV 4 (hdep ⟨4, .data⟩ (by simp) rfl) rfl
      have hb := (Fr.refl no wq).alloc (.cells #[.int .i64 m] 3)
      have hsz := rq.size
      refine Inv.Step.run (v := .slice (some ⟨wq.heap.size, 0, none⟩) 1 1) (w' := wq.alloc (.cells #[.int .i64 m] 3)) ?_ ⟨_, rfl, ⟨wq.heap.size, rfl, hsz, heap_new _ _⟩, hb⟩
      go_simp
      try rfl
    · skip
      refine Inv.Step.value (v := .pointer (some ⟨B5, 2, none⟩)) ?_ ⟨_, rfl, rfl, Fr.refl _ _⟩
      go_simp
    · have g0 := rq.cell C5.out.2.2 (by simp)
      have h0 : x 90 = .pointer (some ⟨B5, 2, none⟩) := hV 6 (hdep ⟨6, .data⟩ (by simp) rfl) rfl
      refine Inv.Step.value (v := .slice ma tms.length mc) ?_ ⟨_, rfl, rfl, Fr.refl _ _⟩
      go_simp
    · obtain ⟨b, h5, h6, h7⟩ := hV 5 (hdep ⟨5, .data⟩ (by simp) rfl) rfl
      have h8 : x 91 = .slice ma tms.length mc := hV 7 (hdep ⟨7, .data⟩ (by simp) rfl) rfl
      exact Inv.Step.append_full _ _ rfl w11.heap.size b m ma mc tms h5 h8 h7 h6 (TT_11.out.fr rq) (by have := HL.out; omega) (fun ga gc w' f1 f2 => ⟨_, rfl, ⟨ga, gc, rfl, f2⟩, f1⟩)
    · skip
      have h1 : x 85 = .int .i64 tb := hV 1 (hdep ⟨1, .data⟩ (by simp) rfl) rfl
      have h3 : x 87 = .int .i64 ts := hV 3 (hdep ⟨3, .data⟩ (by simp) rfl) rfl
      obtain ⟨ga, gc, h8, h9⟩ := hV 8 (hdep ⟨8, .data⟩ (by simp) rfl) rfl
      have h8 : x 92 = .slice ga (tms.length + 1) gc := h8
      refine Inv.Step.value (v := .agg #[.int .i64 tb, .int .i64 ts, .slice ga (tms.length + 1) gc]) ?_ ⟨_, rfl, ⟨ga, gc, rfl, h9⟩, Fr.refl _ _⟩
      go_simp
  · skip
    intro x wq rq hV hvar hne
    unfold Inv.over
    simp only [List.foldl_cons, List.foldl_nil, List.setIfInBounds_toArray, List.set_cons_zero, List.set_cons_succ]
    obtain ⟨B16, c16, y16, l16, hb16, v16⟩ := hvar ⟨10, 9, 11, 16, 93, 25, 3⟩ (by simp)
    obtain ⟨ga, gc, h93', ho⟩ := hV 9 (by decide) rfl
    dsimp only at y16 v16 hb16 ho
    have h93 : x 93 = .agg #[.int .i64 tb, .int .i64 ts, .slice ga (tms.length + 1) gc] := h93'
    clear h93'
    rw [h93] at v16
    cases v16
    rw [y16]
    have H16_12 := Lib.hid hb16
    have TA_12 : Hid (TIn wq ga gc ((m : Int) :: tms)) := Lib.hid (owns_reads ho)
    have H5_12 := Lib.hid (rq.heap H5_11.out (by simp))
    have H6_12 := Lib.hid (rq.heap H6_11.out (by simp))
    have TT_12 := Lib.hid (TT_11.out.fr rq)
    have TU_12 := Lib.hid (TU_11.out.fr rq)
    have HS_12 := Lib.hid (HS_11.out.fr rq)
    have TB_12 := Lib.hid (TB_11.out.fr rq)
    have R_12 := Lib.hid (R_11.out.trans rq)
    clear H5_11 H6_11 TT_11 TU_11 HS_11 TB_11 R_11
    clear rq hb16 ho y16 h93 hV hvar hne l16 C5
    generalize x 84 = y84
    generalize x 85 = y85
    generalize x 86 = y86
    generalize x 87 = y87
    generalize x 88 = y88
    generalize x 89 = y89
    generalize x 90 = y90
    generalize x 91 = y91
    generalize x 92 = y92
    generalize x 93 = y93
    clear x
    generalize wq = w12 at *
    go_wp2_with (refine wpList_load_row rfl 25 (.tmp 16) rfl B16 rfl _ _ _ _ H16_12.out Tryd.underlying25 rfl (by rw [infoTy]; rfl) ?_; simp only [Act.put, List.setIfInBounds_toArray, List.set_cons_zero, List.set_cons_succ])
    have C := check_ok l HNM.out ⟨tb, ts, (m : Int) :: tms⟩ w12 sa ga sc gc HS_12.out TA_12.out
    dsimp only [List.length_cons] at C
    refine C.mono ?_
    clear C
    rintro e w13 ⟨rfl, r13⟩
    have H5_13 := Lib.hid (r13.heap H5_12.out (by simp))
    have H6_13 := Lib.hid (r13.heap H6_12.out (by simp))
    have TT_13 := Lib.hid (TT_12.out.fr r13)
    have TU_13 := Lib.hid (TU_12.out.fr r13)
    have HS_13 := Lib.hid (HS_12.out.fr r13)
    have TB_13 := Lib.hid (TB_12.out.fr r13)
    have R_13 := Lib.hid (R_12.out.trans r13)
    have H16_13 := Lib.hid (r13.heap H16_12.out (by simp))
    have TA_13 := Lib.hid (TA_12.out.fr r13)
    clear H5_12 H6_12 TT_12 TU_12 HS_12 TB_12 R_12 H16_12 TA_12
    clear r13
    by_cases ha : checkE l ⟨tb, ts, (m : Int) :: tms⟩ = 0
    case neg =>
      have hz : ((checkE l ⟨tb, ts, (m : Int) :: tms⟩ : Int) == 0) = false := by rw [beq_eq_false_iff_ne]; omega
      clear ha
      generalize checkE l ⟨tb, ts, (m : Int) :: tms⟩ = ca at *
      go_wp2_with (refine wpList_load_row rfl 25 (.tmp 5) rfl B5 rfl _ _ _ _ H5_13.out Tryd.underlying25 rfl (by rw [infoTy]; rfl) ?_; simp only [Act.put, List.setIfInBounds_toArray, List.set_cons_zero, List.set_cons_succ])
      have C := text_ok l HNM.out HNS.out ⟨tb, ts, tms⟩ w13 sa ma sc mc HS_13.out TT_13.out TB_13.out
      rw [H0.out] at C
      refine C.mono ?_
      clear C
      rintro e w14 ⟨rfl, r14⟩
      have H5_14 := Lib.hid (r14.heap H5_13.out (by simp))
      have H6_14 := Lib.hid (r14.heap H6_13.out (by simp))
      have TT_14 := Lib.hid (TT_13.out.fr r14)
      have TU_14 := Lib.hid (TU_13.out.fr r14)
      have HS_14 := Lib.hid (HS_13.out.fr r14)
      have TB_14 := Lib.hid (TB_13.out.fr r14)
      have R_14 := Lib.hid (R_13.out.trans r14)
      clear H5_13 H6_13 TT_13 TU_13 HS_13 TB_13 R_13
      clear r14
      go_wp2_with (refine wpList_load_row rfl 25 (.tmp 6) rfl B6 rfl _ _ _ _ H6_14.out Tryd.underlying25 rfl (by rw [infoTy]; rfl) ?_; simp only [Act.put, List.setIfInBounds_toArray, List.set_cons_zero, List.set_cons_succ])
      refine (text_ok l HNM.out HNS.out ⟨ub, us, ums⟩ w14 sa na sc nc HS_14.out TU_14.out TB_14.out).mono ?_
      rintro e w15 ⟨rfl, r15⟩
      have H5_15 := Lib.hid (r15.heap H5_14.out (by simp))
      have H6_15 := Lib.hid (r15.heap H6_14.out (by simp))
      have TT_15 := Lib.hid (TT_14.out.fr r15)
      have TU_15 := Lib.hid (TU_14.out.fr r15)
      have HS_15 := Lib.hid (HS_14.out.fr r15)
      have TB_15 := Lib.hid (TB_14.out.fr r15)
      have R_15 := Lib.hid (R_14.out.trans r15)
      clear H5_14 H6_14 TT_14 TU_14 HS_14 TB_14 R_14
      clear r15
      by_cases hu : checkE l ⟨ub, us, ums⟩ = 0
      case neg =>
        have hz : ((checkE l ⟨ub, us, ums⟩ : Int) != 0) = true := by rw [bne_iff_ne]; omega
        clear hu
        generalize checkE l ⟨ub, us, ums⟩ = cu at *
        go_wp2_with fail
        go_ret
        exact ⟨rfl, R_15.out⟩
      have HU := Lib.hid hu
      rw [hu]
      clear hu
      go_wp2_with fail
      refine (plain_ok w15 sa sc l HS_15.out (by omega) (fun x hx => by have := HNS.out x hx; omega)).mono ?_
      rintro e w16 ⟨q, rfl, hq, r16⟩
      have HQ := Lib.hid hq
      clear hq
      have H5_16 := Lib.hid (r16.heap H5_15.out (by simp))
      have H6_16 := Lib.hid (r16.heap H6_15.out (by simp))
      have TT_16 := Lib.hid (TT_15.out.fr r16)
      have TU_16 := Lib.hid (TU_15.out.fr r16)
      have HS_16 := Lib.hid (HS_15.out.fr r16)
      have TB_16 := Lib.hid (TB_15.out.fr r16)
      have R_16 := Lib.hid (R_15.out.trans r16)
      clear H5_15 H6_15 TT_15 TU_15 HS_15 TB_15 R_15
      clear r16
      cases q
      case false =>
        go_wp2_with fail
        go_ret
        exact ⟨rfl, R_16.out⟩
      have HTI := Lib.hid (text_inj (HQ.out rfl) H0.out HU.out)
      obtain ⟨z, hz⟩ : ∃ z, z = decide ((⟨tb, ts, tms⟩ : Ty) = ⟨ub, us, ums⟩) := ⟨_, rfl⟩
      have HZ := Lib.hid hz
      have hE : ((textV l ⟨tb, ts, tms⟩).toList == (textV l ⟨ub, us, ums⟩).toList) = z := by
        rw [bytes_eq, hz]
        exact decide_eq_decide.2 HTI.out
      have hzz : (z == z) = true := by simp
      clear hz HTI HQ
      generalize textV l ⟨tb, ts, tms⟩ = vt at *
      generalize textV l ⟨ub, us, ums⟩ = vu at *
      go_wp2_with (first
              | (refine wpList_guarded (by rfl) ?_; intro KK hKK; refine wp_load_row 25 (.tmp 5) rfl B5 rfl _ _ _ _ H5_16.out Tryd.underlying25 rfl (by rw [infoTy]; rfl) ?_; refine hKK _ _ ?_; clear hKK; simp only [Act.put, List.setIfInBounds_toArray, List.set_cons_zero, List.set_cons_succ])
              | (refine wpList_guarded (by rfl) ?_; intro KK hKK; refine wp_load_row 25 (.tmp 6) rfl B6 rfl _ _ _ _ H6_16.out Tryd.underlying25 rfl (by rw [infoTy]; rfl) ?_; refine hKK _ _ ?_; clear hKK; simp only [Act.put, List.setIfInBounds_toArray, List.set_cons_zero, List.set_cons_succ]))
      have C := tsame_ok w16 tb ts ub us tms ums ma na mc nc TT_16.out TU_16.out (by have := HL.out; omega) (by have := HL.out; omega)
      rw [← HZ.out] at C
      refine C.mono ?_
      clear C
      rintro e w17 ⟨rfl, r17⟩
      have H5_17 := Lib.hid (r17.heap H5_16.out (by simp))
      have H6_17 := Lib.hid (r17.heap H6_16.out (by simp))
      have TT_17 := Lib.hid (TT_16.out.fr r17)
      have TU_17 := Lib.hid (TU_16.out.fr r17)
      have HS_17 := Lib.hid (HS_16.out.fr r17)
      have TB_17 := Lib.hid (TB_16.out.fr r17)
      have R_17 := Lib.hid (R_16.out.trans r17)
      clear H5_16 H6_16 TT_16 TU_16 HS_16 TB_16 R_16
      clear r17
      go_wp2_with fail
      go_ret
      exact ⟨rfl, R_17.out⟩
    rw [ha]
    have HA := Lib.hid ha
    have HAC := Lib.hid (arr_check hm20 H0.out HA.out)
    clear ha
    obtain ⟨sz, hsz⟩ : ∃ x, x = sizeV l ⟨tb, ts, tms⟩ := ⟨_, rfl⟩
    obtain ⟨al, hal⟩ : ∃ x, x = alignV l ⟨tb, ts, tms⟩ := ⟨_, rfl⟩
    have HC := Lib.hid HAC.out
    dsimp only at HC
    rw [← hsz, ← hal] at HC
    have HSZ := Lib.hid hsz
    have HAL := Lib.hid hal
    clear hsz hal HAC
    have hc := HC.out
    obtain ⟨c1, c2, c3, c4, c5, c6⟩ := hc
    have hpr : m * sz ≤ 20 * 8192 := Nat.mul_le_mul hm20.2 c6
    have hmi : IntKind.i64.wrap ((m : Int) * (sz : Int)) = ((m * sz : Nat) : Int) := by rw [show (m : Int) * (sz : Int) = ((m * sz : Nat) : Int) by push_cast; rfl, IntKind.wrap_i64]; omega
    have hrm : ((sz : Int) % (al : Int) != 0) = false := by rw [← Int.natCast_emod, c3]; rfl
    have hal0 : (al : Int) ≠ 0 := by omega
    clear c1 c2 c3
    have hmx : m ≤ 20 := hm20.2
    obtain ⟨msz, hmsz⟩ : ∃ x, x = m * sz := ⟨_, rfl⟩
    rw [← hmsz] at HC hmi hpr
    clear hmsz
    go_wp2_with (refine wpList_load_row rfl 25 (.tmp 5) rfl B5 rfl _ _ _ _ H5_13.out Tryd.underlying25 rfl (by rw [infoTy]; rfl) ?_; simp only [Act.put, List.setIfInBounds_toArray, List.set_cons_zero, List.set_cons_succ])
    have C := size_ok l HNM.out ⟨tb, ts, tms⟩ w13 sa ma sc mc HS_13.out TT_13.out
    rw [← HSZ.out, H0.out] at C
    refine C.mono ?_
    clear C
    rintro e w14 ⟨rfl, r14⟩
    have H5_14 := Lib.hid (r14.heap H5_13.out (by simp))
    have H6_14 := Lib.hid (r14.heap H6_13.out (by simp))
    have TT_14 := Lib.hid (TT_13.out.fr r14)
    have TU_14 := Lib.hid (TU_13.out.fr r14)
    have HS_14 := Lib.hid (HS_13.out.fr r14)
    have TB_14 := Lib.hid (TB_13.out.fr r14)
    have R_14 := Lib.hid (R_13.out.trans r14)
    have H16_14 := Lib.hid (r14.heap H16_13.out (by simp))
    have TA_14 := Lib.hid (TA_13.out.fr r14)
    clear H5_13 H6_13 TT_13 TU_13 HS_13 TB_13 R_13 H16_13 TA_13
    clear r14
    go_wp2_with (refine wpList_load_row rfl 25 (.tmp 16) rfl B16 rfl _ _ _ _ H16_14.out Tryd.underlying25 rfl (by rw [infoTy]; rfl) ?_; simp only [Act.put, List.setIfInBounds_toArray, List.set_cons_zero, List.set_cons_succ])
    have C := size_ok l HNM.out ⟨tb, ts, (m : Int) :: tms⟩ w14 sa ga sc gc HS_14.out TA_14.out
    rw [HC.out.1, HA.out] at C
    dsimp only [List.length_cons] at C
    refine C.mono ?_
    clear C
    rintro e w15 ⟨rfl, r15⟩
    have H5_15 := Lib.hid (r15.heap H5_14.out (by simp))
    have H6_15 := Lib.hid (r15.heap H6_14.out (by simp))
    have TT_15 := Lib.hid (TT_14.out.fr r15)
    have TU_15 := Lib.hid (TU_14.out.fr r15)
    have HS_15 := Lib.hid (HS_14.out.fr r15)
    have TB_15 := Lib.hid (TB_14.out.fr r15)
    have R_15 := Lib.hid (R_14.out.trans r15)
    have H16_15 := Lib.hid (r15.heap H16_14.out (by simp))
    have TA_15 := Lib.hid (TA_14.out.fr r15)
    clear H5_14 H6_14 TT_14 TU_14 HS_14 TB_14 R_14 H16_14 TA_14
    clear r15
    go_wp2_with (refine wpList_load_row rfl 25 (.tmp 5) rfl B5 rfl _ _ _ _ H5_15.out Tryd.underlying25 rfl (by rw [infoTy]; rfl) ?_; simp only [Act.put, List.setIfInBounds_toArray, List.set_cons_zero, List.set_cons_succ])
    have C := align_ok l HNM.out ⟨tb, ts, tms⟩ w15 sa ma sc mc HS_15.out TT_15.out
    rw [← HAL.out, H0.out] at C
    refine C.mono ?_
    clear C
    rintro e w16 ⟨rfl, r16⟩
    have H5_16 := Lib.hid (r16.heap H5_15.out (by simp))
    have H6_16 := Lib.hid (r16.heap H6_15.out (by simp))
    have TT_16 := Lib.hid (TT_15.out.fr r16)
    have TU_16 := Lib.hid (TU_15.out.fr r16)
    have HS_16 := Lib.hid (HS_15.out.fr r16)
    have TB_16 := Lib.hid (TB_15.out.fr r16)
    have R_16 := Lib.hid (R_15.out.trans r16)
    have H16_16 := Lib.hid (r16.heap H16_15.out (by simp))
    have TA_16 := Lib.hid (TA_15.out.fr r16)
    clear H5_15 H6_15 TT_15 TU_15 HS_15 TB_15 R_15 H16_15 TA_15
    clear r16
    go_wp2_with (refine wpList_load_row rfl 25 (.tmp 16) rfl B16 rfl _ _ _ _ H16_16.out Tryd.underlying25 rfl (by rw [infoTy]; rfl) ?_; simp only [Act.put, List.setIfInBounds_toArray, List.set_cons_zero, List.set_cons_succ])
    have C := align_ok l HNM.out ⟨tb, ts, (m : Int) :: tms⟩ w16 sa ga sc gc HS_16.out TA_16.out
    rw [HC.out.2.1, HA.out] at C
    dsimp only [List.length_cons] at C
    refine C.mono ?_
    clear C
    rintro e w17 ⟨rfl, r17⟩
    have H5_17 := Lib.hid (r17.heap H5_16.out (by simp))
    have H6_17 := Lib.hid (r17.heap H6_16.out (by simp))
    have TT_17 := Lib.hid (TT_16.out.fr r17)
    have TU_17 := Lib.hid (TU_16.out.fr r17)
    have HS_17 := Lib.hid (HS_16.out.fr r17)
    have TB_17 := Lib.hid (TB_16.out.fr r17)
    have R_17 := Lib.hid (R_16.out.trans r17)
    have H16_17 := Lib.hid (r17.heap H16_16.out (by simp))
    have TA_17 := Lib.hid (TA_16.out.fr r17)
    clear H5_16 H6_16 TT_16 TU_16 HS_16 TB_16 R_16 H16_16 TA_16
    clear r17
    go_wp2_with (refine wpList_load_row rfl 25 (.tmp 5) rfl B5 rfl _ _ _ _ H5_17.out Tryd.underlying25 rfl (by rw [infoTy]; rfl) ?_; simp only [Act.put, List.setIfInBounds_toArray, List.set_cons_zero, List.set_cons_succ])
    have C := text_ok l HNM.out HNS.out ⟨tb, ts, tms⟩ w17 sa ma sc mc HS_17.out TT_17.out TB_17.out
    rw [H0.out] at C
    refine C.mono ?_
    clear C
    rintro e w18 ⟨rfl, r18⟩
    have H5_18 := Lib.hid (r18.heap H5_17.out (by simp))
    have H6_18 := Lib.hid (r18.heap H6_17.out (by simp))
    have TT_18 := Lib.hid (TT_17.out.fr r18)
    have TU_18 := Lib.hid (TU_17.out.fr r18)
    have HS_18 := Lib.hid (HS_17.out.fr r18)
    have TB_18 := Lib.hid (TB_17.out.fr r18)
    have R_18 := Lib.hid (R_17.out.trans r18)
    clear H5_17 H6_17 TT_17 TU_17 HS_17 TB_17 R_17
    clear r18
    go_wp2_with (refine wpList_load_row rfl 25 (.tmp 6) rfl B6 rfl _ _ _ _ H6_18.out Tryd.underlying25 rfl (by rw [infoTy]; rfl) ?_; simp only [Act.put, List.setIfInBounds_toArray, List.set_cons_zero, List.set_cons_succ])
    refine (text_ok l HNM.out HNS.out ⟨ub, us, ums⟩ w18 sa na sc nc HS_18.out TU_18.out TB_18.out).mono ?_
    rintro e w19 ⟨rfl, r19⟩
    have H5_19 := Lib.hid (r19.heap H5_18.out (by simp))
    have H6_19 := Lib.hid (r19.heap H6_18.out (by simp))
    have TT_19 := Lib.hid (TT_18.out.fr r19)
    have TU_19 := Lib.hid (TU_18.out.fr r19)
    have HS_19 := Lib.hid (HS_18.out.fr r19)
    have TB_19 := Lib.hid (TB_18.out.fr r19)
    have R_19 := Lib.hid (R_18.out.trans r19)
    clear H5_18 H6_18 TT_18 TU_18 HS_18 TB_18 R_18
    clear r19
    by_cases hu : checkE l ⟨ub, us, ums⟩ = 0
    case neg =>
      have hz : ((checkE l ⟨ub, us, ums⟩ : Int) != 0) = true := by rw [bne_iff_ne]; omega
      clear hu
      generalize checkE l ⟨ub, us, ums⟩ = cu at *
      go_wp2_with fail
      go_ret
      exact ⟨rfl, R_19.out⟩
    have HU := Lib.hid hu
    rw [hu]
    clear hu
    go_wp2_with fail
    refine (plain_ok w19 sa sc l HS_19.out (by omega) (fun x hx => by have := HNS.out x hx; omega)).mono ?_
    rintro e w20 ⟨q, rfl, hq, r20⟩
    have HQ := Lib.hid hq
    clear hq
    have H5_20 := Lib.hid (r20.heap H5_19.out (by simp))
    have H6_20 := Lib.hid (r20.heap H6_19.out (by simp))
    have TT_20 := Lib.hid (TT_19.out.fr r20)
    have TU_20 := Lib.hid (TU_19.out.fr r20)
    have HS_20 := Lib.hid (HS_19.out.fr r20)
    have TB_20 := Lib.hid (TB_19.out.fr r20)
    have R_20 := Lib.hid (R_19.out.trans r20)
    clear H5_19 H6_19 TT_19 TU_19 HS_19 TB_19 R_19
    clear r20
    cases q
    case false =>
      go_wp2_with fail
      go_ret
      exact ⟨rfl, R_20.out⟩
    have HTI := Lib.hid (text_inj (HQ.out rfl) H0.out HU.out)
    obtain ⟨z, hz⟩ : ∃ z, z = decide ((⟨tb, ts, tms⟩ : Ty) = ⟨ub, us, ums⟩) := ⟨_, rfl⟩
    have HZ := Lib.hid hz
    have hE : ((textV l ⟨tb, ts, tms⟩).toList == (textV l ⟨ub, us, ums⟩).toList) = z := by
      rw [bytes_eq, hz]
      exact decide_eq_decide.2 HTI.out
    have hzz : (z == z) = true := by simp
    clear hz HTI HQ
    generalize textV l ⟨tb, ts, tms⟩ = vt at *
    generalize textV l ⟨ub, us, ums⟩ = vu at *
    go_wp2_with (first
          | (refine wpList_guarded (by rfl) ?_; intro KK hKK; refine wp_load_row 25 (.tmp 5) rfl B5 rfl _ _ _ _ H5_20.out Tryd.underlying25 rfl (by rw [infoTy]; rfl) ?_; refine hKK _ _ ?_; clear hKK; simp only [Act.put, List.setIfInBounds_toArray, List.set_cons_zero, List.set_cons_succ])
          | (refine wpList_guarded (by rfl) ?_; intro KK hKK; refine wp_load_row 25 (.tmp 6) rfl B6 rfl _ _ _ _ H6_20.out Tryd.underlying25 rfl (by rw [infoTy]; rfl) ?_; refine hKK _ _ ?_; clear hKK; simp only [Act.put, List.setIfInBounds_toArray, List.set_cons_zero, List.set_cons_succ]))
    have C := tsame_ok w20 tb ts ub us tms ums ma na mc nc TT_20.out TU_20.out (by have := HL.out; omega) (by have := HL.out; omega)
    rw [← HZ.out] at C
    refine C.mono ?_
    clear C
    rintro e w21 ⟨rfl, r21⟩
    have H5_21 := Lib.hid (r21.heap H5_20.out (by simp))
    have H6_21 := Lib.hid (r21.heap H6_20.out (by simp))
    have TT_21 := Lib.hid (TT_20.out.fr r21)
    have TU_21 := Lib.hid (TU_20.out.fr r21)
    have HS_21 := Lib.hid (HS_20.out.fr r21)
    have TB_21 := Lib.hid (TB_20.out.fr r21)
    have R_21 := Lib.hid (R_20.out.trans r21)
    clear H5_20 H6_20 TT_20 TU_20 HS_20 TB_20 R_20
    clear r21
    go_wp2_with fail
    go_ret
    exact ⟨rfl, R_21.out⟩

theorem parts_rd (w : World) (v : Value) {m0 : Nat} {d0 : Dt} (e0 : Rd Tryd.prog w m0 22 [v] d0) (s1 : Array Value) {m1 : Nat} {d1 : Dt} (e1 : Rd Tryd.prog w m1 25 s1.toList d1)
    (s2 : Array Value) {m2 : Nat} {d2 : Dt} (e2 : Rd Tryd.prog w m2 25 s2.toList d2) (many : Int) (ht : Tb w) :
    Calls Tryd.prog 6 #[v, .agg s1, .agg s2, .int .i64 many] w fun e w' => e = .returned (.bool true) ∧ Fr no w w' := by
  obtain ⟨l, sa, sc, rfl, hs, hr⟩ := sts_of e0
  obtain ⟨t, ma, mc, h1, hm, -⟩ := ty_of e1
  obtain ⟨u, na, nc, h2, hn, -⟩ := ty_of e2
  obtain rfl : s1 = #[.int .i64 t.b, .int .i64 t.s, .slice ma t.ms.length mc] := by rw [← Array.toList_inj, h1]
  obtain rfl : s2 = #[.int .i64 u.b, .int .i64 u.s, .slice na u.ms.length nc] := by rw [← Array.toList_inj, h2]
  exact parts_ok w sa sc l t u many ma na mc nc hs hr hm hn ht

end Go.Proofs.YtjpkmaacalelcaaDoor

/- How large types are: the walk (law24). -/
import Derived.Test.YtjpkmaacalelcaaDoorD3
import Derived.Test.YtjpkmaacalelcaaDoorE4
import Derived.Test.YtjpkmaacalelcaaDoorE7
set_option linter.unusedSimpArgs false
set_option linter.unusedVariables false
set_option linter.unusedSectionVars false
set_option linter.unnecessarySimpa false
set_option maxRecDepth 100000
namespace Go.Proofs.YtjpkmaacalelcaaDoor
open Go.RowKit Go.Ty Go.Deep Go.Sort

attribute [local go_sem] Program.isFuncB Program.isSliceB

variable {w w' w'' w0 : World}

/-- blocks of types turn: structs of one's own stay -/
theorem SOwn.odd {S : Nat → Prop} {B : Nat} {v : Value} {ss : List St} (h : SOwn w B v ss) (r : Fr S w w') (hS : ∀ k, S k → ∃ cs, w.heap[k]? = some (.cells cs 25 (0, 0))) : SOwn w' B v ss := by
  obtain ⟨l, h1, h2, h3⟩ := h
  refine ⟨l, h1, owns_fr h2 r (fun k hk hs => ?_), fun p hp => ?_⟩
  · obtain ⟨cs, hc⟩ := hS k hs
    exact row_block_ne h2 hc (by decide) hk
  · obtain ⟨l', q1, q2, q3⟩ := h3 p hp
    refine ⟨l', q1, owns_fr q2 r (fun k hk hs => ?_), fun p' hp' => owns_fr (q3 p' hp') r (fun k hk hs => ?_)⟩
    · obtain ⟨cs, hc⟩ := hS k hs
      exact row_block_ne q2 hc (by decide) hk
    · obtain ⟨cs, hc⟩ := hS k hs
      exact row_block_ne (q3 p' hp') hc (by decide) hk

set_option maxRecDepth 100000 in
set_option maxHeartbeats 32000000 in
theorem measure_ok (w : World) (sa : Option Addr) (sc : Nat) (l : List St) (t : Ty) (ma : Option Addr) (mc : Nat) (hs : SlIn w sa l) (hr : RawS l) (hm : TIn w ma mc t.ms) (ht : Tb w) :
    Calls Tryd.prog 3 #[.slice sa l.length sc, .agg #[.int .i64 t.b, .int .i64 t.s, .slice ma t.ms.length mc]] w fun e w' => e = .returned (.bool true) ∧ Fr no w w' := by
  obtain ⟨tb, ts, tms⟩ := t
  dsimp only at *
  have q3 := heap_new w (.cells #[.int .i64 tb, .int .i64 ts, .slice ma tms.length mc] 25)
  have r0 := (Fr.refl no w).alloc (.cells #[.int .i64 tb, .int .i64 ts, .slice ma tms.length mc] 25)
  have H3_0 := Lib.hid q3
  have TT_0 := Lib.hid (hm.fr r0)
  have HS_0 := Lib.hid (hs.fr r0)
  have TB_0 := Lib.hid (ht.fr r0)
  have R_0 := Lib.hid r0
  have HR := Lib.hid hr
  clear q3 r0 hm hs ht hr
  go_enter Tryd.func3, Tryd.ntmps3
  go_upto_region 1 with fail
  generalize w.alloc (.cells #[.int .i64 tb, .int .i64 ts, .slice ma tms.length mc] 25) = w0 at *
  generalize hB3 : w.heap.size = B3 at *
  clear hB3
  go_wp2_with fail
  refine (longs_ok w0 sa sc l HS_0.out HR.out).mono ?_
  rintro e w1 ⟨q, rfl, hq, r1⟩
  have HQ := Lib.hid hq
  clear hq
  have H3_1 := Lib.hid (r1.heap H3_0.out (by simp))
  have TT_1 := Lib.hid (TT_0.out.fr r1)
  have HS_1 := Lib.hid (HS_0.out.fr r1)
  have TB_1 := Lib.hid (TB_0.out.fr r1)
  have R_1 := Lib.hid (R_0.out.trans r1)
  clear H3_0 TT_0 HS_0 TB_0 R_0
  clear r1
  cases q
  case true =>
    go_wp2_with fail
    have C := awake_ok w1
    refine C.mono ?_
    clear C
    rintro e w2 ⟨rfl, r2⟩
    have H3_2 := Lib.hid (r2.heap H3_1.out (by simp))
    have TT_2 := Lib.hid (TT_1.out.fr r2)
    have HS_2 := Lib.hid (HS_1.out.fr r2)
    have TB_2 := Lib.hid (TB_1.out.fr r2)
    have R_2 := Lib.hid (R_1.out.trans r2)
    clear H3_1 TT_1 HS_1 TB_1 R_1
    clear r2
    go_wp2_with fail
    go_ret
    exact ⟨rfl, R_2.out⟩
  have HSM := Lib.hid (HQ.out rfl)
  have HNM := Lib.hid HSM.out.nm
  have HNS := Lib.hid HSM.out.nms
  have hl8 : l.length ≤ 8 := HSM.out.1
  clear HQ HR
  go_wp2_with (refine wpList_guarded (by rfl) ?_; intro KK hKK; refine wp_load_row 25 (.tmp 3) rfl B3 rfl _ _ _ _ H3_1.out Tryd.underlying25 rfl (by rw [infoTy]; rfl) ?_; refine hKK _ _ ?_; clear hKK; simp only [Act.put, List.setIfInBounds_toArray, List.set_cons_zero, List.set_cons_succ])
  have C := longt_ok w1 tb ts ma tms.length mc
  refine C.mono ?_
  clear C
  rintro e w2 ⟨rfl, r2⟩
  have H3_2 := Lib.hid (r2.heap H3_1.out (by simp))
  have TT_2 := Lib.hid (TT_1.out.fr r2)
  have HS_2 := Lib.hid (HS_1.out.fr r2)
  have TB_2 := Lib.hid (TB_1.out.fr r2)
  have R_2 := Lib.hid (R_1.out.trans r2)
  clear H3_1 TT_1 HS_1 TB_1 R_1
  clear r2
  by_cases hl5 : 12 < tms.length
  · rw [decide_eq_true hl5]
    clear hl5
    go_wp2_with fail
    have C := awake_ok w2
    refine C.mono ?_
    clear C
    rintro e w3 ⟨rfl, r3⟩
    have H3_3 := Lib.hid (r3.heap H3_2.out (by simp))
    have TT_3 := Lib.hid (TT_2.out.fr r3)
    have HS_3 := Lib.hid (HS_2.out.fr r3)
    have TB_3 := Lib.hid (TB_2.out.fr r3)
    have R_3 := Lib.hid (R_2.out.trans r3)
    clear H3_2 TT_2 HS_2 TB_2 R_2
    clear r3
    go_wp2_with fail
    go_ret
    exact ⟨rfl, R_3.out⟩
  rw [decide_eq_false hl5]
  have hl12 : tms.length ≤ 12 := by omega
  clear hl5
  go_upto_region 3 with fail
  refine Inv.free _ [27, 28, 29, 30, 6, 5, 6] [⟨4, 3, 6, 6, 30, 25, 3⟩] (fun i => [27, 28, 29, 30, 6, 5].getD i 0) (fun i v wq => match i with | 0 => v = .slice sa l.length sc | 1 => ∃ ca cc, v = .slice ca l.length cc ∧ SOwn wq w2.heap.size (.slice ca l.length cc) l | 2 => v = .agg #[.int .i64 tb, .int .i64 ts, .slice ma tms.length mc] | 3 => ∃ ga gc, v = .agg #[.int .i64 tb, .int .i64 ts, .slice ga tms.length gc] ∧ wq.ownsRow w2.heap.size 3 1 (.slice ga tms.length gc) tms.length (ints tms) | 5 => ∃ ca cc, v = .slice ca l.length cc ∧ SOwn wq w2.heap.size (.slice ca l.length cc) l | _ => True) (by kernel_rfl) (by kernel_rfl) (by decide) (by kernel_rfl) 125 rfl (by decide) ?_ ?_ ?_ ?_ ?_ ?_ ?_ ?_
  · intro i v w1 w2 S' hfr hv hS hblk
    have hodd : ∀ k, S' k → ∃ cs, w1.heap[k]? = some (.cells cs 25 (0, 0)) := fun k hk => by
      obtain ⟨-, p, hp, cs, h4⟩ := hblk k hk
      simp only [List.mem_cons, List.not_mem_nil, or_false] at hp
      subst hp
      exact ⟨cs, h4⟩
    match i, hv with
    | 0, hv => exact hv
    | 1, ⟨ca, cc, h1, h2⟩ => exact ⟨ca, cc, h1, h2.odd hS hodd⟩
    | 2, hv => exact hv
    | 3, ⟨ga, gc, h1, h2⟩ =>
      refine ⟨ga, gc, h1, owns_fr h2 hS (fun k hk hs => ?_)⟩
      obtain ⟨cs, h4⟩ := hodd k hs
      exact row_block_ne h2 h4 (by decide) hk
    | 4, _ => exact trivial
    | 5, ⟨ca, cc, h1, h2⟩ => exact ⟨ca, cc, h1, h2.odd hS hodd⟩
    | _ + 6, _ => exact trivial
  · intro p hp
    simp only [List.mem_cons, List.not_mem_nil, or_false] at hp
    rcases hp with rfl
    · exact ⟨_, rfl, rfl, rfl⟩
  · intro p hp
    simp only [List.mem_cons, List.not_mem_nil, or_false] at hp
    rcases hp with rfl
    · exact ⟨_, rfl, rfl, rfl, ⟨⟨4, .data⟩, by simp, rfl, rfl⟩, ⟨⟨3, .data⟩, by simp, rfl, rfl⟩⟩
  · intro p hp
    simp only [List.mem_cons, List.not_mem_nil, or_false] at hp
    rcases hp with rfl
    · exact ⟨.agg #[.int .i64 0, .int .i64 0, .slice none 0 0], fun w => (by kernel_rfl), rfl⟩
  · intro p hp
    simp only [List.mem_cons, List.not_mem_nil, or_false] at hp
    rcases hp with rfl
    · kernel_rfl
  · intro p hp
    simp only [List.mem_cons, List.not_mem_nil, or_false] at hp
    subst hp
    rintro u w1 ⟨ga, gc, hu, -⟩
    exact ⟨_, hu, rfl, by simp [Value.oneCell']⟩
  · skip
    intro i o ho hs x dn wq rq hdep hV hnd hun hcl
    have hlt := (List.getElem?_eq_some_iff.1 ho).1
    simp only [List.length_cons, List.length_nil] at hlt
    obtain rfl | rfl | rfl | rfl | rfl | rfl | rfl : i = 0 ∨ i = 1 ∨ i = 2 ∨ i = 3 ∨ i = 4 ∨ i = 5 ∨ i = 6 := by omega
    all_goals cases ho
    all_goals try (exact absurd hs (by decide))
    all_goals (unfold Inv.over; simp only [List.foldl_cons, List.foldl_nil, List.setIfInBounds_toArray, List.set_cons_zero, List.set_cons_succ])
    · skip
      refine Inv.Step.value (v := .slice sa l.length sc) ?_ ⟨_, rfl, rfl, Fr.refl _ _⟩
      go_simp
    · skip
      have h0 : x 27 = .slice sa l.length sc := hV 0 (hdep ⟨0, .data⟩ (by simp) rfl) rfl
      refine Inv.Step.call1 10 _ _ rfl (fun _ _ => rfl) _ h0 ?_
      have hsz := rq.size
      refine (copysts_ok wq l HSM.out sa sc (HS_2.out.fr rq)).mono ?_
      rintro e w2 ⟨ca, cc, rfl, ho, r2⟩
      exact ⟨_, rfl, ⟨ca, cc, rfl, SOwn.base ho hsz⟩, r2⟩
    · skip
      exact Inv.Step.load_in _ _ rfl B3 0 rfl _ _ ((At.of_heap H3_2.out).fr rq) Tryd.underlying25 rfl (by rw [infoTy]; rfl) ⟨_, rfl, rfl, Fr.refl _ _⟩
    · skip
      have h0 : x 29 = .agg #[.int .i64 tb, .int .i64 ts, .slice ma tms.length mc] := hV 2 (hdep ⟨2, .data⟩ (by simp) rfl) rfl
      refine Inv.Step.call1 11 _ _ rfl (fun _ _ => rfl) _ h0 ?_
      have hsz := rq.size
      refine (copyt_ok wq ⟨tb, ts, tms⟩ ma mc (TT_2.out.fr rq) (by dsimp only; omega)).mono ?_
      rintro e w2 ⟨ga, gc, rfl, ho, r2⟩
      exact ⟨_, rfl, ⟨ga, gc, rfl, owns_base ho (fun k hk => by have := (ho.lt k hk).1; omega)⟩, r2⟩
    · obtain ⟨ca, cc, h1, h2⟩ := hV 1 (hdep ⟨1, .data⟩ (by simp) rfl) rfl
      have h1 : x 28 = .slice ca l.length cc := h1
      refine Inv.Step.value (v := .slice ca l.length cc) ?_ ⟨_, rfl, ⟨ca, cc, rfl, h2⟩, Fr.refl _ _⟩
      go_simp
  · skip
    intro x wq rq hV hvar hne
    unfold Inv.over
    simp only [List.foldl_cons, List.foldl_nil, List.setIfInBounds_toArray, List.set_cons_zero, List.set_cons_succ]
    obtain ⟨B6, c6, y6, l6, hb6, v6⟩ := hvar ⟨4, 3, 6, 6, 30, 25, 3⟩ (by simp)
    obtain ⟨ga, gc, h30', ho⟩ := hV 3 (by decide) rfl
    obtain ⟨ca, cc, h5', hso⟩ := hV 5 (by decide) rfl
    dsimp only at y6 v6 hb6 ho
    have h30 : x 30 = .agg #[.int .i64 tb, .int .i64 ts, .slice ga tms.length gc] := h30'
    have h5 : x 5 = .slice ca l.length cc := h5'
    clear h30' h5'
    rw [h30] at v6
    cases v6
    rw [y6, h5]
    have H6_3 := Lib.hid hb6
    have TY_3 : Hid (TIn wq ga gc tms) := Lib.hid (owns_reads ho)
    have SY_3 := Lib.hid hso.inn
    have H3_3 := Lib.hid (rq.heap H3_2.out (by simp))
    have TT_3 := Lib.hid (TT_2.out.fr rq)
    have HS_3 := Lib.hid (HS_2.out.fr rq)
    have TB_3 := Lib.hid (TB_2.out.fr rq)
    have R_3 := Lib.hid (R_2.out.trans rq)
    clear H3_2 TT_2 HS_2 TB_2 R_2
    clear rq hb6 ho y6 h30 h5 hso hV hvar hne l6
    generalize x 27 = y27
    generalize x 28 = y28
    generalize x 29 = y29
    generalize x 30 = y30
    clear x
    generalize wq = w3 at *
    have HV : Hid (∃ sz al ck se : Nat, ∃ tx : ByteArray, sizeV l ⟨tb, ts, tms⟩ = sz ∧ alignV l ⟨tb, ts, tms⟩ = al ∧ checkE l ⟨tb, ts, tms⟩ = ck ∧ structsE l = se ∧ textV l ⟨tb, ts, tms⟩ = tx) := Lib.hid ⟨_, _, _, _, _, rfl, rfl, rfl, rfl, rfl⟩
    obtain ⟨sz, al, ck, se, tx, v1, v2, v3, v4, v5⟩ := HV.out
    have V1 := Lib.hid v1
    have V2 := Lib.hid v2
    have V3 := Lib.hid v3
    have V4 := Lib.hid v4
    have V5 := Lib.hid v5
    clear HV v1 v2 v3 v4 v5
    go_wp2_with (refine wpList_load_row rfl 25 (.tmp 6) rfl B6 rfl _ _ _ _ H6_3.out Tryd.underlying25 rfl (by rw [infoTy]; rfl) ?_; simp only [Act.put, List.setIfInBounds_toArray, List.set_cons_zero, List.set_cons_succ])
    have C := size_ok l HNM.out ⟨tb, ts, tms⟩ w3 ca ga cc gc SY_3.out TY_3.out
    rw [V1.out, V3.out] at C
    refine C.mono ?_
    clear C
    rintro e w4 ⟨rfl, r4⟩
    have H3_4 := Lib.hid (r4.heap H3_3.out (by simp))
    have TT_4 := Lib.hid (TT_3.out.fr r4)
    have HS_4 := Lib.hid (HS_3.out.fr r4)
    have TB_4 := Lib.hid (TB_3.out.fr r4)
    have R_4 := Lib.hid (R_3.out.trans r4)
    have H6_4 := Lib.hid (r4.heap H6_3.out (by simp))
    have TY_4 := Lib.hid (TY_3.out.fr r4)
    have SY_4 := Lib.hid (SY_3.out.fr r4)
    clear H3_3 TT_3 HS_3 TB_3 R_3 H6_3 TY_3 SY_3
    clear r4
    go_wp2_with (refine wpList_load_row rfl 25 (.tmp 3) rfl B3 rfl _ _ _ _ H3_4.out Tryd.underlying25 rfl (by rw [infoTy]; rfl) ?_; simp only [Act.put, List.setIfInBounds_toArray, List.set_cons_zero, List.set_cons_succ])
    have C := rsize_ok l HSM.out ⟨tb, ts, tms⟩ w4 sa ma sc mc HS_4.out TT_4.out
    rw [V1.out, V3.out] at C
    refine C.mono ?_
    clear C
    rintro e w5 ⟨rfl, r5⟩
    have H3_5 := Lib.hid (r5.heap H3_4.out (by simp))
    have TT_5 := Lib.hid (TT_4.out.fr r5)
    have HS_5 := Lib.hid (HS_4.out.fr r5)
    have TB_5 := Lib.hid (TB_4.out.fr r5)
    have R_5 := Lib.hid (R_4.out.trans r5)
    have H6_5 := Lib.hid (r5.heap H6_4.out (by simp))
    have TY_5 := Lib.hid (TY_4.out.fr r5)
    have SY_5 := Lib.hid (SY_4.out.fr r5)
    clear H3_4 TT_4 HS_4 TB_4 R_4 H6_4 TY_4 SY_4
    clear r5
    go_wp2_with (refine wpList_load_row rfl 25 (.tmp 6) rfl B6 rfl _ _ _ _ H6_5.out Tryd.underlying25 rfl (by rw [infoTy]; rfl) ?_; simp only [Act.put, List.setIfInBounds_toArray, List.set_cons_zero, List.set_cons_succ])
    have C := align_ok l HNM.out ⟨tb, ts, tms⟩ w5 ca ga cc gc SY_5.out TY_5.out
    rw [V2.out, V3.out] at C
    refine C.mono ?_
    clear C
    rintro e w6 ⟨rfl, r6⟩
    have H3_6 := Lib.hid (r6.heap H3_5.out (by simp))
    have TT_6 := Lib.hid (TT_5.out.fr r6)
    have HS_6 := Lib.hid (HS_5.out.fr r6)
    have TB_6 := Lib.hid (TB_5.out.fr r6)
    have R_6 := Lib.hid (R_5.out.trans r6)
    have H6_6 := Lib.hid (r6.heap H6_5.out (by simp))
    have TY_6 := Lib.hid (TY_5.out.fr r6)
    have SY_6 := Lib.hid (SY_5.out.fr r6)
    clear H3_5 TT_5 HS_5 TB_5 R_5 H6_5 TY_5 SY_5
    clear r6
    go_wp2_with (refine wpList_load_row rfl 25 (.tmp 3) rfl B3 rfl _ _ _ _ H3_6.out Tryd.underlying25 rfl (by rw [infoTy]; rfl) ?_; simp only [Act.put, List.setIfInBounds_toArray, List.set_cons_zero, List.set_cons_succ])
    have C := ralign_ok l HSM.out ⟨tb, ts, tms⟩ w6 sa ma sc mc HS_6.out TT_6.out
    rw [V2.out, V3.out] at C
    refine C.mono ?_
    clear C
    rintro e w7 ⟨rfl, r7⟩
    have H3_7 := Lib.hid (r7.heap H3_6.out (by simp))
    have TT_7 := Lib.hid (TT_6.out.fr r7)
    have HS_7 := Lib.hid (HS_6.out.fr r7)
    have TB_7 := Lib.hid (TB_6.out.fr r7)
    have R_7 := Lib.hid (R_6.out.trans r7)
    have H6_7 := Lib.hid (r7.heap H6_6.out (by simp))
    have TY_7 := Lib.hid (TY_6.out.fr r7)
    have SY_7 := Lib.hid (SY_6.out.fr r7)
    clear H3_6 TT_6 HS_6 TB_6 R_6 H6_6 TY_6 SY_6
    clear r7
    go_wp2_with (refine wpList_load_row rfl 25 (.tmp 6) rfl B6 rfl _ _ _ _ H6_7.out Tryd.underlying25 rfl (by rw [infoTy]; rfl) ?_; simp only [Act.put, List.setIfInBounds_toArray, List.set_cons_zero, List.set_cons_succ])
    have C := text_ok l HNM.out HNS.out ⟨tb, ts, tms⟩ w7 ca ga cc gc SY_7.out TY_7.out TB_7.out
    rw [V5.out, V3.out] at C
    refine C.mono ?_
    clear C
    rintro e w8 ⟨rfl, r8⟩
    have H3_8 := Lib.hid (r8.heap H3_7.out (by simp))
    have TT_8 := Lib.hid (TT_7.out.fr r8)
    have HS_8 := Lib.hid (HS_7.out.fr r8)
    have TB_8 := Lib.hid (TB_7.out.fr r8)
    have R_8 := Lib.hid (R_7.out.trans r8)
    have H6_8 := Lib.hid (r8.heap H6_7.out (by simp))
    have TY_8 := Lib.hid (TY_7.out.fr r8)
    have SY_8 := Lib.hid (SY_7.out.fr r8)
    clear H3_7 TT_7 HS_7 TB_7 R_7 H6_7 TY_7 SY_7
    clear r8
    go_wp2_with (refine wpList_load_row rfl 25 (.tmp 3) rfl B3 rfl _ _ _ _ H3_8.out Tryd.underlying25 rfl (by rw [infoTy]; rfl) ?_; simp only [Act.put, List.setIfInBounds_toArray, List.set_cons_zero, List.set_cons_succ])
    have C := rtext_ok l HSM.out ⟨tb, ts, tms⟩ w8 sa ma sc mc HS_8.out TT_8.out
    rw [V5.out, V3.out] at C
    refine C.mono ?_
    clear C
    rintro e w9 ⟨rfl, r9⟩
    have H3_9 := Lib.hid (r9.heap H3_8.out (by simp))
    have TT_9 := Lib.hid (TT_8.out.fr r9)
    have HS_9 := Lib.hid (HS_8.out.fr r9)
    have TB_9 := Lib.hid (TB_8.out.fr r9)
    have R_9 := Lib.hid (R_8.out.trans r9)
    have H6_9 := Lib.hid (r9.heap H6_8.out (by simp))
    have TY_9 := Lib.hid (TY_8.out.fr r9)
    have SY_9 := Lib.hid (SY_8.out.fr r9)
    clear H3_8 TT_8 HS_8 TB_8 R_8 H6_8 TY_8 SY_8
    clear r9
    have e1 : ((sz : Int) == (sz : Int)) = true := by simp
    have e2 : ((al : Int) == (al : Int)) = true := by simp
    have e3 : ((ck : Int) == (ck : Int)) = true := by simp
    have e4 : ((se : Int) == (se : Int)) = true := by simp
    have e5 : (tx.toList == tx.toList) = true := by simp
    go_upto_region 10 with fail
    have r10 := (Fr.refl no w9).drew
    refine Lex.region [30, 32, 38, 41] [45] (by kernel_rfl) (by kernel_rfl) ?_
    refine Lex.opens (fun w' => w'.heap[B3]? = some (.cells #[.int .i64 tb, .int .i64 ts, .slice ma tms.length mc] 25 (0, 0)) ∧ w'.heap[B6]? = some (.cells #[.int .i64 tb, .int .i64 ts, .slice ga tms.length gc] 25 (0, 0))) (⟨r10.heap H3_9.out (by simp), r10.heap H6_9.out (by simp)⟩) ?_
    have H3_10 := Lib.hid (r10.heap H3_9.out (by simp))
    have TT_10 := Lib.hid (TT_9.out.fr r10)
    have HS_10 := Lib.hid (HS_9.out.fr r10)
    have TB_10 := Lib.hid (TB_9.out.fr r10)
    have R_10 := Lib.hid (R_9.out.trans r10)
    have H6_10 := Lib.hid (r10.heap H6_9.out (by simp))
    have TY_10 := Lib.hid (TY_9.out.fr r10)
    have SY_10 := Lib.hid (SY_9.out.fr r10)
    clear H3_9 TT_9 HS_9 TB_9 R_9 H6_9 TY_9 SY_9
    clear r10
    generalize w9.drew = w10 at *
    repeat (first
      | (refine Lex.skips (by rfl) ?_; (try simp only [Act.put, List.setIfInBounds_toArray, List.set_cons_zero, List.set_cons_succ]))
      | (refine Lex.row (by rfl) (by rfl) _ _ rfl _ rfl _ _ _ _ (fun w' h => h.1) Tryd.underlying25 rfl (by rw [infoTy]; rfl) ?_; (try simp only [Act.put, List.setIfInBounds_toArray, List.set_cons_zero, List.set_cons_succ]))
      | (refine Lex.row (by rfl) (by rfl) _ _ rfl _ rfl _ _ _ _ (fun w' h => h.2) Tryd.underlying25 rfl (by rw [infoTy]; rfl) ?_; (try simp only [Act.put, List.setIfInBounds_toArray, List.set_cons_zero, List.set_cons_succ]))
      | (refine Lex.quiet (v := ?_) (by rfl) (by rfl) ?_ ?_; rotate_left; (focus (intro w' hS'; go_simp; try rfl)); (try simp only [Act.put, List.setIfInBounds_toArray, List.set_cons_zero, List.set_cons_succ])))
    refine Lex.loud (by rfl) (by rfl) ?_
    intro K' hK'
    go_simp
    have C := structs_ok l HNM.out w10 ca cc SY_10.out
    rw [V4.out] at C
    refine C.mono ?_
    clear C
    rintro e w11 ⟨rfl, r11⟩
    have H3_11 := Lib.hid (r11.heap H3_10.out (by simp))
    have TT_11 := Lib.hid (TT_10.out.fr r11)
    have HS_11 := Lib.hid (HS_10.out.fr r11)
    have TB_11 := Lib.hid (TB_10.out.fr r11)
    have R_11 := Lib.hid (R_10.out.trans r11)
    have H6_11 := Lib.hid (r11.heap H6_10.out (by simp))
    have TY_11 := Lib.hid (TY_10.out.fr r11)
    have SY_11 := Lib.hid (SY_10.out.fr r11)
    clear H3_10 TT_10 HS_10 TB_10 R_10 H6_10 TY_10 SY_10
    clear r11
    refine hK' _ _ (⟨H3_11.out, H6_11.out⟩) ?_
    clear hK'
    try simp only [Act.put, List.setIfInBounds_toArray, List.set_cons_zero, List.set_cons_succ]
    repeat (first
      | (refine Lex.skips (by rfl) ?_; (try simp only [Act.put, List.setIfInBounds_toArray, List.set_cons_zero, List.set_cons_succ]))
      | (refine Lex.row (by rfl) (by rfl) _ _ rfl _ rfl _ _ _ _ (fun w' h => h.1) Tryd.underlying25 rfl (by rw [infoTy]; rfl) ?_; (try simp only [Act.put, List.setIfInBounds_toArray, List.set_cons_zero, List.set_cons_succ]))
      | (refine Lex.row (by rfl) (by rfl) _ _ rfl _ rfl _ _ _ _ (fun w' h => h.2) Tryd.underlying25 rfl (by rw [infoTy]; rfl) ?_; (try simp only [Act.put, List.setIfInBounds_toArray, List.set_cons_zero, List.set_cons_succ]))
      | (refine Lex.quiet (v := ?_) (by rfl) (by rfl) ?_ ?_; rotate_left; (focus (intro w' hS'; go_simp; try rfl)); (try simp only [Act.put, List.setIfInBounds_toArray, List.set_cons_zero, List.set_cons_succ])))
    refine Lex.loud (by rfl) (by rfl) ?_
    intro K' hK'
    go_simp
    have C := rstructs_ok l HSM.out w11 sa sc HS_11.out
    rw [V4.out] at C
    refine C.mono ?_
    clear C
    rintro e w12 ⟨rfl, r12⟩
    have H3_12 := Lib.hid (r12.heap H3_11.out (by simp))
    have TT_12 := Lib.hid (TT_11.out.fr r12)
    have HS_12 := Lib.hid (HS_11.out.fr r12)
    have TB_12 := Lib.hid (TB_11.out.fr r12)
    have R_12 := Lib.hid (R_11.out.trans r12)
    have H6_12 := Lib.hid (r12.heap H6_11.out (by simp))
    have TY_12 := Lib.hid (TY_11.out.fr r12)
    have SY_12 := Lib.hid (SY_11.out.fr r12)
    clear H3_11 TT_11 HS_11 TB_11 R_11 H6_11 TY_11 SY_11
    clear r12
    refine hK' _ _ (⟨H3_12.out, H6_12.out⟩) ?_
    clear hK'
    try simp only [Act.put, List.setIfInBounds_toArray, List.set_cons_zero, List.set_cons_succ]
    repeat (first
      | (refine Lex.skips (by rfl) ?_; (try simp only [Act.put, List.setIfInBounds_toArray, List.set_cons_zero, List.set_cons_succ]))
      | (refine Lex.row (by rfl) (by rfl) _ _ rfl _ rfl _ _ _ _ (fun w' h => h.1) Tryd.underlying25 rfl (by rw [infoTy]; rfl) ?_; (try simp only [Act.put, List.setIfInBounds_toArray, List.set_cons_zero, List.set_cons_succ]))
      | (refine Lex.row (by rfl) (by rfl) _ _ rfl _ rfl _ _ _ _ (fun w' h => h.2) Tryd.underlying25 rfl (by rw [infoTy]; rfl) ?_; (try simp only [Act.put, List.setIfInBounds_toArray, List.set_cons_zero, List.set_cons_succ]))
      | (refine Lex.quiet (v := ?_) (by rfl) (by rfl) ?_ ?_; rotate_left; (focus (intro w' hS'; go_simp; try rfl)); (try simp only [Act.put, List.setIfInBounds_toArray, List.set_cons_zero, List.set_cons_succ])))
    refine Lex.loud (by rfl) (by rfl) ?_
    intro K' hK'
    go_simp
    have C := check_ok l HNM.out ⟨tb, ts, tms⟩ w12 ca ga cc gc SY_12.out TY_12.out
    rw [V3.out] at C
    refine C.mono ?_
    clear C
    rintro e w13 ⟨rfl, r13⟩
    have H3_13 := Lib.hid (r13.heap H3_12.out (by simp))
    have TT_13 := Lib.hid (TT_12.out.fr r13)
    have HS_13 := Lib.hid (HS_12.out.fr r13)
    have TB_13 := Lib.hid (TB_12.out.fr r13)
    have R_13 := Lib.hid (R_12.out.trans r13)
    have H6_13 := Lib.hid (r13.heap H6_12.out (by simp))
    have TY_13 := Lib.hid (TY_12.out.fr r13)
    have SY_13 := Lib.hid (SY_12.out.fr r13)
    clear H3_12 TT_12 HS_12 TB_12 R_12 H6_12 TY_12 SY_12
    clear r13
    refine hK' _ _ (⟨H3_13.out, H6_13.out⟩) ?_
    clear hK'
    try simp only [Act.put, List.setIfInBounds_toArray, List.set_cons_zero, List.set_cons_succ]
    repeat (first
      | (refine Lex.skips (by rfl) ?_; (try simp only [Act.put, List.setIfInBounds_toArray, List.set_cons_zero, List.set_cons_succ]))
      | (refine Lex.row (by rfl) (by rfl) _ _ rfl _ rfl _ _ _ _ (fun w' h => h.1) Tryd.underlying25 rfl (by rw [infoTy]; rfl) ?_; (try simp only [Act.put, List.setIfInBounds_toArray, List.set_cons_zero, List.set_cons_succ]))
      | (refine Lex.row (by rfl) (by rfl) _ _ rfl _ rfl _ _ _ _ (fun w' h => h.2) Tryd.underlying25 rfl (by rw [infoTy]; rfl) ?_; (try simp only [Act.put, List.setIfInBounds_toArray, List.set_cons_zero, List.set_cons_succ]))
      | (refine Lex.quiet (v := ?_) (by rfl) (by rfl) ?_ ?_; rotate_left; (focus (intro w' hS'; go_simp; try rfl)); (try simp only [Act.put, List.setIfInBounds_toArray, List.set_cons_zero, List.set_cons_succ])))
    refine Lex.loud (by rfl) (by rfl) ?_
    intro K' hK'
    go_simp
    have C := rcheck_ok l HSM.out ⟨tb, ts, tms⟩ w13 sa ma sc mc HS_13.out TT_13.out
    rw [V3.out] at C
    refine C.mono ?_
    clear C
    rintro e w14 ⟨rfl, r14⟩
    have H3_14 := Lib.hid (r14.heap H3_13.out (by simp))
    have TT_14 := Lib.hid (TT_13.out.fr r14)
    have HS_14 := Lib.hid (HS_13.out.fr r14)
    have TB_14 := Lib.hid (TB_13.out.fr r14)
    have R_14 := Lib.hid (R_13.out.trans r14)
    have H6_14 := Lib.hid (r14.heap H6_13.out (by simp))
    have TY_14 := Lib.hid (TY_13.out.fr r14)
    have SY_14 := Lib.hid (SY_13.out.fr r14)
    clear H3_13 TT_13 HS_13 TB_13 R_13 H6_13 TY_13 SY_13
    clear r14
    refine hK' _ _ (⟨H3_14.out, H6_14.out⟩) ?_
    clear hK'
    try simp only [Act.put, List.setIfInBounds_toArray, List.set_cons_zero, List.set_cons_succ]
    repeat (first
      | (refine Lex.skips (by rfl) ?_; (try simp only [Act.put, List.setIfInBounds_toArray, List.set_cons_zero, List.set_cons_succ]))
      | (refine Lex.row (by rfl) (by rfl) _ _ rfl _ rfl _ _ _ _ (fun w' h => h.1) Tryd.underlying25 rfl (by rw [infoTy]; rfl) ?_; (try simp only [Act.put, List.setIfInBounds_toArray, List.set_cons_zero, List.set_cons_succ]))
      | (refine Lex.row (by rfl) (by rfl) _ _ rfl _ rfl _ _ _ _ (fun w' h => h.2) Tryd.underlying25 rfl (by rw [infoTy]; rfl) ?_; (try simp only [Act.put, List.setIfInBounds_toArray, List.set_cons_zero, List.set_cons_succ]))
      | (refine Lex.quiet (v := ?_) (by rfl) (by rfl) ?_ ?_; rotate_left; (focus (intro w' hS'; go_simp; try rfl)); (try simp only [Act.put, List.setIfInBounds_toArray, List.set_cons_zero, List.set_cons_succ])))
    refine Lex.done ?_
    refine Lex.ends ?_
    go_wp2_with fail
    have C := samests_ok w14 l HSM.out ca sa cc sc SY_14.out HS_14.out
    refine C.mono ?_
    clear C
    rintro e w15 ⟨rfl, r15⟩
    have H3_15 := Lib.hid (r15.heap H3_14.out (by simp))
    have TT_15 := Lib.hid (TT_14.out.fr r15)
    have HS_15 := Lib.hid (HS_14.out.fr r15)
    have TB_15 := Lib.hid (TB_14.out.fr r15)
    have R_15 := Lib.hid (R_14.out.trans r15)
    have H6_15 := Lib.hid (r15.heap H6_14.out (by simp))
    have TY_15 := Lib.hid (TY_14.out.fr r15)
    have SY_15 := Lib.hid (SY_14.out.fr r15)
    clear H3_14 TT_14 HS_14 TB_14 R_14 H6_14 TY_14 SY_14
    clear r15
    go_wp2_with (first
          | (refine wpList_guarded (by rfl) ?_; intro KK hKK; refine wp_load_row 25 (.tmp 6) rfl B6 rfl _ _ _ _ H6_15.out Tryd.underlying25 rfl (by rw [infoTy]; rfl) ?_; refine hKK _ _ ?_; clear hKK; simp only [Act.put, List.setIfInBounds_toArray, List.set_cons_zero, List.set_cons_succ])
          | (refine wpList_guarded (by rfl) ?_; intro KK hKK; refine wp_load_row 25 (.tmp 3) rfl B3 rfl _ _ _ _ H3_15.out Tryd.underlying25 rfl (by rw [infoTy]; rfl) ?_; refine hKK _ _ ?_; clear hKK; simp only [Act.put, List.setIfInBounds_toArray, List.set_cons_zero, List.set_cons_succ]))
    have C := samet_ok w15 tb ts tb ts tms tms ga ma gc mc TY_15.out TT_15.out (by omega) (by omega)
    rw [decide_eq_true rfl] at C
    refine C.mono ?_
    clear C
    rintro e w16 ⟨rfl, r16⟩
    have H3_16 := Lib.hid (r16.heap H3_15.out (by simp))
    have TT_16 := Lib.hid (TT_15.out.fr r16)
    have HS_16 := Lib.hid (HS_15.out.fr r16)
    have TB_16 := Lib.hid (TB_15.out.fr r16)
    have R_16 := Lib.hid (R_15.out.trans r16)
    have H6_16 := Lib.hid (r16.heap H6_15.out (by simp))
    have TY_16 := Lib.hid (TY_15.out.fr r16)
    have SY_16 := Lib.hid (SY_15.out.fr r16)
    clear H3_15 TT_15 HS_15 TB_15 R_15 H6_15 TY_15 SY_15
    clear r16
    go_wp2_with fail
    have C := awake_ok w16
    refine C.mono ?_
    clear C
    rintro e w17 ⟨rfl, r17⟩
    have H3_17 := Lib.hid (r17.heap H3_16.out (by simp))
    have TT_17 := Lib.hid (TT_16.out.fr r17)
    have HS_17 := Lib.hid (HS_16.out.fr r17)
    have TB_17 := Lib.hid (TB_16.out.fr r17)
    have R_17 := Lib.hid (R_16.out.trans r17)
    have H6_17 := Lib.hid (r17.heap H6_16.out (by simp))
    have TY_17 := Lib.hid (TY_16.out.fr r17)
    have SY_17 := Lib.hid (SY_16.out.fr r17)
    clear H3_16 TT_16 HS_16 TB_16 R_16 H6_16 TY_16 SY_16
    clear r17
    go_wp2_with fail
    go_ret
    exact ⟨rfl, R_17.out⟩

theorem measure_rd (w : World) (v : Value) {m0 : Nat} {d0 : Dt} (e0 : Rd Tryd.prog w m0 22 [v] d0) (s1 : Array Value) {m1 : Nat} {d1 : Dt} (e1 : Rd Tryd.prog w m1 25 s1.toList d1) (ht : Tb w) :
    Calls Tryd.prog 3 #[v, .agg s1] w fun e w' => e = .returned (.bool true) ∧ Fr no w w' := by
  obtain ⟨l, sa, sc, rfl, hs, hr⟩ := sts_of e0
  obtain ⟨t, ma, mc, h1, hm, -⟩ := ty_of e1
  obtain rfl : s1 = #[.int .i64 t.b, .int .i64 t.s, .slice ma t.ms.length mc] := by rw [← Array.toList_inj, h1]
  exact measure_ok w sa sc l t ma mc hs hr hm ht

end Go.Proofs.YtjpkmaacalelcaaDoor

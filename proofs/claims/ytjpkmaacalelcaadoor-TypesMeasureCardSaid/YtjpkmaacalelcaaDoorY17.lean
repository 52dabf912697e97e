/- Some of the chapter's examples (law24). -/
import Derived.Test.YtjpkmaacalelcaaDoorY16
set_option linter.unusedSimpArgs false
set_option linter.unusedVariables false
set_option linter.unusedSectionVars false
set_option linter.unnecessarySimpa false
set_option maxRecDepth 100000
namespace Go.Proofs.YtjpkmaacalelcaaDoor
open Go.RowKit Go.Ty Go.Deep

attribute [local go_sem] Program.isFuncB Program.isSliceB

variable {w w' w'' w0 : World}

set_option maxHeartbeats 4000000 in
theorem sized_true (w : World) (t : Ty) (ma : Option Addr) (mc : Nat) (hm : TIn w ma mc t.ms) (n : Nat) (hc : checkE twoL t = 0) (hn : (ofM (whole twoL) t).1 = n) :
    Calls Tryd.prog 35 #[.agg #[.int .i64 t.b, .int .i64 t.s, .slice ma t.ms.length mc], .int .i64 n] w fun e w' => e = .returned (.bool true) ∧ Fr no w w' := by
  have hb := heap_new w (.cells #[.int .i64 t.b, .int .i64 t.s, .slice ma t.ms.length mc] 25)
  have r0 := (Fr.refl no w).alloc (.cells #[.int .i64 t.b, .int .i64 t.s, .slice ma t.ms.length mc] 25)
  have HB := Lib.hid hb
  have HM := Lib.hid (hm.fr r0)
  have R0 := Lib.hid r0
  have hsz : sizeV twoL t = n := by unfold sizeV; rw [if_pos hc, hn]
  have HSIZE := Lib.hid (fun w sa sc hs hm => size_ok twoL twoL_nm t w sa ma sc mc hs hm)
  rw [hsz, hc] at HSIZE
  obtain ⟨tb, ts, tms⟩ := t
  dsimp only at *
  clear hb r0 hm hc hn hsz
  go_enter Tryd.func35, Tryd.ntmps35
  go_upto_region 1 with fail
  generalize w.alloc (.cells #[.int .i64 tb, .int .i64 ts, .slice ma tms.length mc] 25) = w1 at *
  generalize w.heap.size = TB at *
  have rd := (Fr.refl no w1).drew
  refine Lex.region [0, 2] [8] (by kernel_rfl) (by kernel_rfl) ?_
  refine Lex.opens (fun w' => w'.heap[TB]? = some (.cells #[.int .i64 tb, .int .i64 ts, .slice ma tms.length mc] 25 (0, 0))) (rd.heap HB.out (by simp)) ?_
  refine Lex.loud (by rfl) (by rfl) ?_
  intro K' hK'
  go_simp
  refine (two_ok _).mono ?_
  rintro e w2 ⟨a, rfl, hS, r2⟩
  have r12 := rd.trans r2
  have HS2 := Lib.hid hS
  have HB2 := Lib.hid (r12.heap HB.out (by simp))
  have HM2 := Lib.hid (HM.out.fr r12)
  have R2 := Lib.hid (R0.out.trans r12)
  clear hS r2 r12 rd
  refine hK' _ _ (HB2.out) ?_
  clear hK'
  try simp only [Act.put, List.setIfInBounds_toArray, List.set_cons_zero, List.set_cons_succ]
  repeat (first
    | (refine Lex.skips (by rfl) ?_; (try simp only [Act.put, List.setIfInBounds_toArray, List.set_cons_zero, List.set_cons_succ]))
    | (refine Lex.row (by rfl) (by rfl) _ _ rfl _ rfl _ _ _ _ (fun w' h => h) Tryd.underlying25 rfl (by rw [infoTy]; rfl) ?_; (try simp only [Act.put, List.setIfInBounds_toArray, List.set_cons_zero, List.set_cons_succ]))
    | (refine Lex.quiet (v := ?_) (by rfl) (by rfl) ?_ ?_; rotate_left; (focus (intro w' hS'; go_simp; try rfl)); (try simp only [Act.put, List.setIfInBounds_toArray, List.set_cons_zero, List.set_cons_succ])))
  refine Lex.loud (by rfl) (by rfl) ?_
  intro K' hK'
  go_simp
  refine (HSIZE.out _ _ _ HS2.out HM2.out).mono ?_
  rintro e w3 ⟨rfl, r3⟩
  have HB3 := Lib.hid (r3.heap HB2.out (by simp))
  have R3 := Lib.hid (R2.out.trans r3)
  clear r3
  refine hK' _ _ (HB3.out) ?_
  clear hK'
  try simp only [Act.put, List.setIfInBounds_toArray, List.set_cons_zero, List.set_cons_succ]
  repeat (first
    | (refine Lex.skips (by rfl) ?_; (try simp only [Act.put, List.setIfInBounds_toArray, List.set_cons_zero, List.set_cons_succ]))
    | (refine Lex.quiet (v := ?_) (by rfl) (by rfl) ?_ ?_; rotate_left; (focus (intro w' hS'; go_simp; try rfl)); (try simp only [Act.put, List.setIfInBounds_toArray, List.set_cons_zero, List.set_cons_succ])))
  refine Lex.done ?_
  refine Lex.ends ?_
  have he : ((n : Int) == n) = true := by simp
  go_wp2_with fail
  go_ret
  exact ⟨rfl, R3.out⟩

set_option maxRecDepth 100000 in
set_option maxHeartbeats 4000000 in
theorem awake_ok (w : World) : Calls Tryd.prog 9 #[] w fun e w' => e = .returned (.bool true) ∧ Fr no w w' := by
  have HOFF := Lib.hid (fun w sa sc hs => offset_ok twoL twoL_nm 1 ⟨#[101]⟩ w sa sc hs)
  have HSZ0 := Lib.hid (fun w => sized_true w ⟨9, 0, []⟩ none 0 (.inl ⟨rfl, rfl, rfl⟩) 8 check_two0.1 (by rw [check_two0.2]))
  have HSZ1 := Lib.hid (fun w => sized_true w ⟨9, 1, []⟩ none 0 (.inl ⟨rfl, rfl, rfl⟩) 24 check_two1.1 (by rw [check_two1.2]))
  have HCM := Lib.hid (fun w => common_ok w 5 6)
  rw [show commB 5 6 = 6 by decide] at HCM
  rw [show (List.length twoL) = 2 from rfl] at HOFF
  dsimp only [List.length_nil] at HSZ0 HSZ1
  go_enter Tryd.func9, Tryd.ntmps9
  go_wp2_with fail
  refine (two_ok _).mono ?_
  rintro e w1 ⟨a, rfl, hS, r1⟩
  have HS1 := Lib.hid hS
  have R1 := Lib.hid r1
  clear hS r1
  go_wp2_with fail
  refine (HOFF.out w1 a 2 HS1.out).mono ?_
  rintro e w2 ⟨n, b, ts, ms, ta, tc, er, rfl, hT, hoff, r2⟩
  rw [off_two] at hoff
  simp only [Prod.mk.injEq, Ty.mk.injEq] at hoff
  obtain ⟨rfl, ⟨rfl, rfl, rfl⟩, rfl⟩ := hoff
  have R2 := Lib.hid (R1.out.trans r2)
  have HT2 := Lib.hid hT
  have HB0 := Lib.hid (heap_new w2 (.cells #[.int .i64 0, .int .i64 0, .slice none 0 0] 25))
  have HB1 := Lib.hid (setRow_heap _ _ _ #[.int .i64 4, .int .i64 0, .slice ta 1 tc] _ _ HB0.out)
  have r3 : Fr no w2 ((w2.alloc (.cells #[.int .i64 0, .int .i64 0, .slice none 0 0] 25)).setRow w2.heap.size #[.int .i64 4, .int .i64 0, .slice ta 1 tc]) := fr_setRow ((Fr.refl no w2).alloc _) (.inr (Nat.le_refl _))
  have HT3 := Lib.hid (hT.fr r3)
  have R3 := Lib.hid (R2.out.trans r3)
  clear r3 r2 hT R1 R2 HT2
  dsimp only [List.length_cons, List.length_nil]
  have hz1 : ((16 : Nat) : Int) = 16 := rfl
  have hz0 : ((0 : Nat) : Int) = 0 := rfl
  rw [hz1, hz0]
  go_upto_region 2 with (refine wpList_store_row rfl 25 (.tmp 2) (.tmp 8) rfl w2.heap.size #[.int .i64 4, .int .i64 0, .slice ta 1 tc] rfl rfl _ _ HB0.out (by rw [infoTy]; rfl) rfl (by simp [Value.oneCell']) ?_; rw [act_put_none])
  generalize (w2.alloc (.cells #[.int .i64 0, .int .i64 0, .slice none 0 0] 25)).setRow w2.heap.size #[.int .i64 4, .int .i64 0, .slice ta 1 tc] = w3 at *
  generalize w2.heap.size = TB at *
  clear HB0 hz1 hz0 HS1 HOFF
  have rd := (Fr.refl no w3).drew
  refine Lex.region [0, 1, 3, 4, 16, 17, 18, 21] [25] (by kernel_rfl) (by kernel_rfl) ?_
  refine Lex.opens (fun w' => w'.heap[TB]? = some (.cells #[.int .i64 4, .int .i64 0, .slice ta 1 tc] 25 (0, 0))) (rd.heap HB1.out (by simp)) ?_
  have R4 := Lib.hid (R3.out.trans rd)
  have HB4 := Lib.hid (rd.heap HB1.out (by simp))
  have HT4 := Lib.hid (HT3.out.fr rd)
  clear rd R3 HB1 HT3
  refine Lex.loud (by rfl) (by rfl) ?_
  intro K' hK'
  go_simp
  refine (mkty_ok _ _ _ _ _ _).mono ?_
  rintro e w5 ⟨rfl, r5⟩
  have HB5 := Lib.hid (r5.heap HB4.out (by simp))
  have HT5 := Lib.hid (HT4.out.fr r5)
  have R5 := Lib.hid (R4.out.trans r5)
  clear r5 R4 HB4 HT4
  refine hK' _ _ (HB5.out) ?_
  clear hK'
  try simp only [Act.put, List.setIfInBounds_toArray, List.set_cons_zero, List.set_cons_succ]
  repeat (first
    | (refine Lex.skips (by rfl) ?_; (try simp only [Act.put, List.setIfInBounds_toArray, List.set_cons_zero, List.set_cons_succ]))
    | (refine Lex.quiet (v := ?_) (by rfl) (by rfl) ?_ ?_; rotate_left; (focus (intro w' hS'; go_simp; try rfl)); (try simp only [Act.put, List.setIfInBounds_toArray, List.set_cons_zero, List.set_cons_succ])))
  refine Lex.loud (by rfl) (by rfl) ?_
  intro K' hK'
  go_simp
  refine (HSZ0.out _).mono ?_
  rintro e w6 ⟨rfl, r6⟩
  have HB6 := Lib.hid (r6.heap HB5.out (by simp))
  have HT6 := Lib.hid (HT5.out.fr r6)
  have R6 := Lib.hid (R5.out.trans r6)
  clear r6 R5 HB5 HT5
  refine hK' _ _ (HB6.out) ?_
  clear hK'
  try simp only [Act.put, List.setIfInBounds_toArray, List.set_cons_zero, List.set_cons_succ]
  repeat (first
    | (refine Lex.skips (by rfl) ?_; (try simp only [Act.put, List.setIfInBounds_toArray, List.set_cons_zero, List.set_cons_succ]))
    | (refine Lex.quiet (v := ?_) (by rfl) (by rfl) ?_ ?_; rotate_left; (focus (intro w' hS'; go_simp; try rfl)); (try simp only [Act.put, List.setIfInBounds_toArray, List.set_cons_zero, List.set_cons_succ])))
  refine Lex.loud (by rfl) (by rfl) ?_
  intro K' hK'
  go_simp
  refine (mkty_ok _ _ _ _ _ _).mono ?_
  rintro e w7 ⟨rfl, r7⟩
  have HB7 := Lib.hid (r7.heap HB6.out (by simp))
  have HT7 := Lib.hid (HT6.out.fr r7)
  have R7 := Lib.hid (R6.out.trans r7)
  clear r7 R6 HB6 HT6
  refine hK' _ _ (HB7.out) ?_
  clear hK'
  try simp only [Act.put, List.setIfInBounds_toArray, List.set_cons_zero, List.set_cons_succ]
  repeat (first
    | (refine Lex.skips (by rfl) ?_; (try simp only [Act.put, List.setIfInBounds_toArray, List.set_cons_zero, List.set_cons_succ]))
    | (refine Lex.quiet (v := ?_) (by rfl) (by rfl) ?_ ?_; rotate_left; (focus (intro w' hS'; go_simp; try rfl)); (try simp only [Act.put, List.setIfInBounds_toArray, List.set_cons_zero, List.set_cons_succ])))
  refine Lex.loud (by rfl) (by rfl) ?_
  intro K' hK'
  go_simp
  refine (HSZ1.out _).mono ?_
  rintro e w8 ⟨rfl, r8⟩
  have HB8 := Lib.hid (r8.heap HB7.out (by simp))
  have HT8 := Lib.hid (HT7.out.fr r8)
  have R8 := Lib.hid (R7.out.trans r8)
  clear r8 R7 HB7 HT7
  refine hK' _ _ (HB8.out) ?_
  clear hK'
  try simp only [Act.put, List.setIfInBounds_toArray, List.set_cons_zero, List.set_cons_succ]
  repeat (first
    | (refine Lex.skips (by rfl) ?_; (try simp only [Act.put, List.setIfInBounds_toArray, List.set_cons_zero, List.set_cons_succ]))
    | (refine Lex.row (by rfl) (by rfl) _ _ rfl _ rfl _ _ _ _ (fun w' h => h) Tryd.underlying25 rfl (by rw [infoTy]; rfl) ?_; (try simp only [Act.put, List.setIfInBounds_toArray, List.set_cons_zero, List.set_cons_succ]))
    | (refine Lex.quiet (v := ?_) (by rfl) (by rfl) ?_ ?_; rotate_left; (focus (intro w' hS'; go_simp; try rfl)); (try simp only [Act.put, List.setIfInBounds_toArray, List.set_cons_zero, List.set_cons_succ])))
  refine Lex.loud (by rfl) (by rfl) ?_
  intro K' hK'
  go_simp
  have r9 := (Fr.refl no w8).alloc (.cells #[.int .i64 3] 3)
  have HB9 := Lib.hid (r9.heap HB8.out (by simp))
  have HT9 := Lib.hid (HT8.out.fr r9)
  have HN9 := Lib.hid (heap_new w8 (.cells #[.int .i64 3] 3))
  have R9 := Lib.hid (R8.out.trans r9)
  clear r9 R8 HB8 HT8
  generalize w8.alloc (.cells #[.int .i64 3] 3) = w9 at *
  generalize w8.heap.size = NB at *
  refine hK' _ _ (HB9.out) ?_
  clear hK'
  try simp only [Act.put, List.setIfInBounds_toArray, List.set_cons_zero, List.set_cons_succ]
  repeat (first
    | (refine Lex.skips (by rfl) ?_; (try simp only [Act.put, List.setIfInBounds_toArray, List.set_cons_zero, List.set_cons_succ]))
    | (refine Lex.quiet (v := ?_) (by rfl) (by rfl) ?_ ?_; rotate_left; (focus (intro w' hS'; go_simp; try rfl)); (try simp only [Act.put, List.setIfInBounds_toArray, List.set_cons_zero, List.set_cons_succ])))
  refine Lex.loud (by rfl) (by rfl) ?_
  intro K' hK'
  go_simp
  refine (mkty_ok _ _ _ _ _ _).mono ?_
  rintro e wa ⟨rfl, ra⟩
  have HBa := Lib.hid (ra.heap HB9.out (by simp))
  have HTa := Lib.hid (HT9.out.fr ra)
  have HNa := Lib.hid (ra.heap HN9.out (by simp))
  have Ra := Lib.hid (R9.out.trans ra)
  clear ra R9 HB9 HT9 HN9
  refine hK' _ _ (HBa.out) ?_
  clear hK'
  try simp only [Act.put, List.setIfInBounds_toArray, List.set_cons_zero, List.set_cons_succ]
  repeat (first
    | (refine Lex.skips (by rfl) ?_; (try simp only [Act.put, List.setIfInBounds_toArray, List.set_cons_zero, List.set_cons_succ]))
    | (refine Lex.quiet (v := ?_) (by rfl) (by rfl) ?_ ?_; rotate_left; (focus (intro w' hS'; go_simp; try rfl)); (try simp only [Act.put, List.setIfInBounds_toArray, List.set_cons_zero, List.set_cons_succ])))
  refine Lex.loud (by rfl) (by rfl) ?_
  intro K' hK'
  go_simp
  have hs := samet_ok wa 4 0 4 0 [3] [3] ta (some ⟨NB, 0, none⟩) tc 1 HTa.out (reads_row1 HNa.out) (by simp) (by simp)
  rw [show decide ((⟨4, 0, [3]⟩ : Ty) = ⟨4, 0, [3]⟩) = true from rfl] at hs
  refine hs.mono ?_
  rintro e wb ⟨rfl, rb⟩
  clear hs
  have HBb := Lib.hid (rb.heap HBa.out (by simp))
  have Rb := Lib.hid (Ra.out.trans rb)
  clear rb Ra HBa HTa HNa
  refine hK' _ _ (HBb.out) ?_
  clear hK'
  try simp only [Act.put, List.setIfInBounds_toArray, List.set_cons_zero, List.set_cons_succ]
  repeat (first
    | (refine Lex.skips (by rfl) ?_; (try simp only [Act.put, List.setIfInBounds_toArray, List.set_cons_zero, List.set_cons_succ]))
    | (refine Lex.quiet (v := ?_) (by rfl) (by rfl) ?_ ?_; rotate_left; (focus (intro w' hS'; go_simp; try rfl)); (try simp only [Act.put, List.setIfInBounds_toArray, List.set_cons_zero, List.set_cons_succ])))
  refine Lex.loud (by rfl) (by rfl) ?_
  intro K' hK'
  go_simp
  refine (HCM.out wb).mono ?_
  rintro e w' ⟨rfl, rfl⟩
  refine hK' _ _ (HBb.out) ?_
  clear hK'
  try simp only [Act.put, List.setIfInBounds_toArray, List.set_cons_zero, List.set_cons_succ]
  repeat (first
    | (refine Lex.skips (by rfl) ?_; (try simp only [Act.put, List.setIfInBounds_toArray, List.set_cons_zero, List.set_cons_succ]))
    | (refine Lex.quiet (v := ?_) (by rfl) (by rfl) ?_ ?_; rotate_left; (focus (intro w' hS'; go_simp; try rfl)); (try simp only [Act.put, List.setIfInBounds_toArray, List.set_cons_zero, List.set_cons_succ])))
  refine Lex.done ?_
  refine Lex.ends ?_
  go_wp2_with fail
  go_ret
  exact ⟨rfl, Rb.out⟩

end Go.Proofs.YtjpkmaacalelcaaDoor

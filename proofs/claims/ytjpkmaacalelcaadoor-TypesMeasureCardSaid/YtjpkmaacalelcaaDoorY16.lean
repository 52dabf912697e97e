/- The chapter's structs (law24). -/
import Derived.Test.YtjpkmaacalelcaaDoorY15
set_option linter.unusedSimpArgs false
set_option linter.unusedVariables false
set_option linter.unusedSectionVars false
set_option linter.unnecessarySimpa false
set_option maxRecDepth 100000
namespace Go.Ty
def twoL : List St := [⟨⟨#[112]⟩, [⟨⟨#[97]⟩, ⟨2, 0, []⟩⟩, ⟨⟨#[98]⟩, ⟨5, 0, []⟩⟩]⟩, ⟨⟨#[113]⟩, [⟨⟨#[99]⟩, ⟨9, 0, []⟩⟩, ⟨⟨#[100]⟩, ⟨9, 1, [-1]⟩⟩, ⟨⟨#[101]⟩, ⟨4, 0, [3]⟩⟩]⟩]
end Go.Ty
namespace Go.Proofs.YtjpkmaacalelcaaDoor
open Go.RowKit Go.Ty Go.Deep

attribute [local go_sem] Program.isFuncB Program.isSliceB

variable {w w' w'' w0 : World}

theorem twoL_nm : NmOk twoL := by
  intro i f hf
  match i, hf with
  | 0, hf =>
    rcases List.mem_cons.1 hf with rfl | hf
    · decide
    · rcases List.mem_cons.1 hf with rfl | hf
      · decide
      · cases hf
  | 1, hf =>
    rcases List.mem_cons.1 hf with rfl | hf
    · decide
    · rcases List.mem_cons.1 hf with rfl | hf
      · decide
      · rcases List.mem_cons.1 hf with rfl | hf
        · decide
        · cases hf
  | _ + 2, hf => cases hf
theorem structs_two : structsE twoL = 0 := by decide +kernel
theorem check_two0 : checkE twoL ⟨9, 0, []⟩ = 0 ∧ (ofM (whole twoL) ⟨9, 0, []⟩) = (8, 4) := by decide +kernel
theorem check_two1 : checkE twoL ⟨9, 1, []⟩ = 0 ∧ (ofM (whole twoL) ⟨9, 1, []⟩) = (24, 8) := by decide +kernel
theorem off_two : offS twoL 1 ⟨#[101]⟩ = (16, ⟨4, 0, [3]⟩, 0) := by decide +kernel

theorem At.sub {b o : Nat} {c : Array Value} {cs : List Value} {t : TypeId} {z : Nat × Nat} (h : w.heap[b]? = some (.cells c t z)) (hc : (c.toList.drop o).take cs.length = cs) : At w b o cs := fun j v hj => by
  refine cell_of_heap h ?_
  have : ((c.toList.drop o).take cs.length)[j]? = some v := by rw [hc]; exact hj
  have hl : j < cs.length := (List.getElem?_eq_some_iff.1 hj).1
  rw [List.getElem?_take, if_pos hl, List.getElem?_drop] at this
  simpa using this

theorem mkty_ok (w : World) (b s : Int) (a : Option Addr) (n c : Nat) : Calls Tryd.prog 25 #[.int .i64 b, .int .i64 s, .slice a n c] w fun e w' => e = .returned (.agg #[.int .i64 b, .int .i64 s, .slice a n c]) ∧ Fr no w w' := by
  have h0 := Lib.hid (heap_new w (.cells #[.int .i64 0, .int .i64 0, .slice none 0 0] 25))
  have r0 := Lib.hid ((Fr.refl no w).alloc (.cells #[.int .i64 0, .int .i64 0, .slice none 0 0] 25))
  go_enter Tryd.func25, Tryd.ntmps25
  go_wp2_with (refine wpList_store_row rfl 25 (.tmp 6) (.tmp 10) rfl w.heap.size #[.int .i64 b, .int .i64 s, .slice a n c] rfl rfl _ _ h0.out (by rw [infoTy]; rfl) rfl (by simp [Value.oneCell']) ?_; rw [act_put_none])
  refine bodyPost_ret (results_cell rfl rfl (load_ty _ _ _ _ _ (setRow_heap _ _ _ _ _ _ h0.out))) rfl ?_
  exact ⟨rfl, fr_setRow r0.out (.inr (Nat.le_refl _))⟩

set_option maxRecDepth 100000 in
set_option maxHeartbeats 4000000 in
theorem two_ok (w : World) : Calls Tryd.prog 24 #[] w fun e w' => ∃ a, e = .returned (.slice a 2 2) ∧ SlIn w' a twoL ∧ Fr no w w' := by
  go_enter Tryd.func24, Tryd.ntmps24
  go_wp2_with fail
  refine (mkty_ok _ _ _ _ _ _).mono ?_
  rintro e w1 ⟨rfl, r1⟩
  have R1 := Lib.hid r1
  clear r1
  go_wp2_with fail
  refine (mkty_ok _ _ _ _ _ _).mono ?_
  rintro e w2 ⟨rfl, r2⟩
  have R2 := Lib.hid (R1.out.trans r2)
  clear r2
  go_wp2_with fail
  have r3 : Fr no w2 ((w2.alloc (.cells #[.string { data := #[97] }, .int .i64 2, .int .i64 0, .slice none 0 0, .string { data := #[98] }, .int .i64 5, .int .i64 0, .slice none 0 0] 55)).alloc (.cells #[.string { data := #[112] }, .slice (some ⟨w2.heap.size, 0, none⟩) 2 2] 53)) := ((Fr.refl no w2).alloc _).alloc _
  have HA := Lib.hid (heap_new2 w2 (.cells #[.string { data := #[97] }, .int .i64 2, .int .i64 0, .slice none 0 0, .string { data := #[98] }, .int .i64 5, .int .i64 0, .slice none 0 0] 55) (.cells #[.string { data := #[112] }, .slice (some ⟨w2.heap.size, 0, none⟩) 2 2] 53))
  have HP := Lib.hid (heap_new2' w2 (.cells #[.string { data := #[97] }, .int .i64 2, .int .i64 0, .slice none 0 0, .string { data := #[98] }, .int .i64 5, .int .i64 0, .slice none 0 0] 55) (.cells #[.string { data := #[112] }, .slice (some ⟨w2.heap.size, 0, none⟩) 2 2] 53))
  have R3 := Lib.hid (R2.out.trans r3)
  clear r3
  generalize (w2.alloc (.cells #[.string { data := #[97] }, .int .i64 2, .int .i64 0, .slice none 0 0, .string { data := #[98] }, .int .i64 5, .int .i64 0, .slice none 0 0] 55)).alloc (.cells #[.string { data := #[112] }, .slice (some ⟨w2.heap.size, 0, none⟩) 2 2] 53) = w3 at *
  generalize w2.heap.size + 1 = PB at *
  generalize w2.heap.size = PA at *
  refine (mkty_ok _ _ _ _ _ _).mono ?_
  rintro e w4 ⟨rfl, r4⟩
  have HA4 := Lib.hid (r4.heap HA.out (by simp))
  have HP4 := Lib.hid (r4.heap HP.out (by simp))
  have R4 := Lib.hid (R3.out.trans r4)
  clear r4 HA HP R3 R2 R1
  go_wp2_with fail
  have HM := Lib.hid (heap_new w4 (.cells #[.int .i64 (-1)] 3))
  have r5 := (Fr.refl no w4).alloc (.cells #[.int .i64 (-1)] 3)
  have HA5 := Lib.hid (r5.heap HA4.out (by simp))
  have HP5 := Lib.hid (r5.heap HP4.out (by simp))
  have R5 := Lib.hid (R4.out.trans r5)
  generalize w4.alloc (.cells #[.int .i64 (-1)] 3) = w5 at *
  generalize w4.heap.size = MB at *
  refine (mkty_ok _ _ _ _ _ _).mono ?_
  rintro e w6 ⟨rfl, r6⟩
  have HA6 := Lib.hid (r6.heap HA5.out (by simp))
  have HP6 := Lib.hid (r6.heap HP5.out (by simp))
  have HM6 := Lib.hid (r6.heap HM.out (by simp))
  have R6 := Lib.hid (R5.out.trans r6)
  clear r5 r6 HA4 HP4 R4 HA5 HP5 R5 HM
  go_wp2_with fail
  have HN := Lib.hid (heap_new w6 (.cells #[.int .i64 3] 3))
  have r7 := (Fr.refl no w6).alloc (.cells #[.int .i64 3] 3)
  have HA7 := Lib.hid (r7.heap HA6.out (by simp))
  have HP7 := Lib.hid (r7.heap HP6.out (by simp))
  have HM7 := Lib.hid (r7.heap HM6.out (by simp))
  have R7 := Lib.hid (R6.out.trans r7)
  generalize w6.alloc (.cells #[.int .i64 3] 3) = w7 at *
  generalize w6.heap.size = NB at *
  refine (mkty_ok _ _ _ _ _ _).mono ?_
  rintro e w8 ⟨rfl, r8⟩
  have HA8 := Lib.hid (r8.heap HA7.out (by simp))
  have HP8 := Lib.hid (r8.heap HP7.out (by simp))
  have HM8 := Lib.hid (r8.heap HM7.out (by simp))
  have HN8 := Lib.hid (r8.heap HN.out (by simp))
  have R8 := Lib.hid (R7.out.trans r8)
  clear r7 r8 HA6 HP6 HM6 R6 HA7 HP7 HM7 R7 HN
  go_upto_region 3 with fail
  have r9 : Fr no w8 ((w8.alloc (.cells #[.string { data := #[99] }, .int .i64 9, .int .i64 0, .slice none 0 0, .string { data := #[100] }, .int .i64 9, .int .i64 1, .slice (some ⟨MB, 0, none⟩) 1 1, .string { data := #[101] }, .int .i64 4, .int .i64 0, .slice (some ⟨NB, 0, none⟩) 1 1] 55)).alloc (.cells #[.string { data := #[113] }, .slice (some ⟨w8.heap.size, 0, none⟩) 3 3] 53)) := ((Fr.refl no w8).alloc _).alloc _
  have HB := Lib.hid (heap_new2 w8 (.cells #[.string { data := #[99] }, .int .i64 9, .int .i64 0, .slice none 0 0, .string { data := #[100] }, .int .i64 9, .int .i64 1, .slice (some ⟨MB, 0, none⟩) 1 1, .string { data := #[101] }, .int .i64 4, .int .i64 0, .slice (some ⟨NB, 0, none⟩) 1 1] 55) (.cells #[.string { data := #[113] }, .slice (some ⟨w8.heap.size, 0, none⟩) 3 3] 53))
  have HQ := Lib.hid (heap_new2' w8 (.cells #[.string { data := #[99] }, .int .i64 9, .int .i64 0, .slice none 0 0, .string { data := #[100] }, .int .i64 9, .int .i64 1, .slice (some ⟨MB, 0, none⟩) 1 1, .string { data := #[101] }, .int .i64 4, .int .i64 0, .slice (some ⟨NB, 0, none⟩) 1 1] 55) (.cells #[.string { data := #[113] }, .slice (some ⟨w8.heap.size, 0, none⟩) 3 3] 53))
  have HA9 := Lib.hid (r9.heap HA8.out (by simp))
  have HP9 := Lib.hid (r9.heap HP8.out (by simp))
  have HM9 := Lib.hid (r9.heap HM8.out (by simp))
  have HN9 := Lib.hid (r9.heap HN8.out (by simp))
  have R9 := Lib.hid (R8.out.trans r9)
  clear r9 HA8 HP8 HM8 HN8 R8
  generalize (w8.alloc (.cells #[.string { data := #[99] }, .int .i64 9, .int .i64 0, .slice none 0 0, .string { data := #[100] }, .int .i64 9, .int .i64 1, .slice (some ⟨MB, 0, none⟩) 1 1, .string { data := #[101] }, .int .i64 4, .int .i64 0, .slice (some ⟨NB, 0, none⟩) 1 1] 55)).alloc (.cells #[.string { data := #[113] }, .slice (some ⟨w8.heap.size, 0, none⟩) 3 3] 53) = w9 at *
  generalize w8.heap.size + 1 = QB at *
  generalize w8.heap.size = QA at *
  go_wp2_with (first
    | (refine wpList_load_row rfl 53 (.tmp 1) rfl PB rfl _ _ _ _ HP9.out Tryd.underlying53 rfl (by rw [infoSt]; rfl) ?_; simp only [Act.put, List.setIfInBounds_toArray, List.set_cons_zero, List.set_cons_succ])
    | (refine wpList_load_row rfl 53 (.tmp 2) rfl QB rfl _ _ _ _ HQ.out Tryd.underlying53 rfl (by rw [infoSt]; rfl) ?_; simp only [Act.put, List.setIfInBounds_toArray, List.set_cons_zero, List.set_cons_succ]))
  have HL := Lib.hid (heap_new w9 (.cells #[.string { data := #[112] }, .slice (some ⟨PA, 0, none⟩) 2 2, .string { data := #[113] }, .slice (some ⟨QA, 0, none⟩) 3 3] 53))
  have ra := (Fr.refl no w9).alloc (.cells #[.string { data := #[112] }, .slice (some ⟨PA, 0, none⟩) 2 2, .string { data := #[113] }, .slice (some ⟨QA, 0, none⟩) 3 3] 53)
  have HAa := Lib.hid (ra.heap HA9.out (by simp))
  have HBa := Lib.hid (ra.heap HB.out (by simp))
  have HMa := Lib.hid (ra.heap HM9.out (by simp))
  have HNa := Lib.hid (ra.heap HN9.out (by simp))
  have Ra := Lib.hid (R9.out.trans ra)
  clear ra
  generalize w9.alloc (.cells #[.string { data := #[112] }, .slice (some ⟨PA, 0, none⟩) 2 2, .string { data := #[113] }, .slice (some ⟨QA, 0, none⟩) 3 3] 53) = wa at *
  generalize w9.heap.size = LB at *
  go_ret
  have HT0 : TIn wa none 0 [] := .inl ⟨rfl, rfl, rfl⟩
  refine ⟨some ⟨LB, 0, none⟩, rfl, fun k hk => ?_, Ra.out⟩
  match k, hk with
  | 0, _ =>
    refine ⟨LB, 0, some ⟨PA, 0, none⟩, 2, rfl, At.sub HL.out rfl, fun j hj => ?_⟩
    match j, hj with
    | 0, _ => exact ⟨PA, 0, none, 0, rfl, At.sub HAa.out rfl, HT0⟩
    | 1, _ => exact ⟨PA, 0, none, 0, rfl, At.sub HAa.out rfl, HT0⟩
  | 1, _ =>
    refine ⟨LB, 0, some ⟨QA, 0, none⟩, 3, rfl, At.sub HL.out rfl, fun j hj => ?_⟩
    match j, hj with
    | 0, _ => exact ⟨QA, 0, none, 0, rfl, At.sub HBa.out rfl, HT0⟩
    | 1, _ => exact ⟨QA, 0, some ⟨MB, 0, none⟩, 1, rfl, At.sub HBa.out rfl, reads_row1 HMa.out⟩
    | 2, _ => exact ⟨QA, 0, some ⟨NB, 0, none⟩, 1, rfl, At.sub HBa.out rfl, reads_row1 HNa.out⟩

end Go.Proofs.YtjpkmaacalelcaaDoor

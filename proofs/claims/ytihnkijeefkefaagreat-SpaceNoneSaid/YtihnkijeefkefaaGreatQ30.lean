import Derived.Test.YtihnkijeefkefaaGreatQ28
import Derived.Test.YtihnkijeefkefaaGreatQ29
set_option linter.unusedSimpArgs false
set_option linter.unusedVariables false
set_option linter.unusedSectionVars false
set_option linter.unnecessarySimpa false
set_option maxRecDepth 100000
/- SpaceNone. -/
namespace Go.Proofs.YtihnkijeefkefaaGreat
open Go.RowKit

attribute [local go_sem] Program.isFuncB Program.isSliceB

variable {w w' w'' w0 : World}

theorem cells8n {b : Nat} {a0 a1 a2 a3 a4 a5 a6 a7 : Value} {t : TypeId} (h : w.heap[b]? = some (.cells #[a0, a1, a2, a3, a4, a5, a6, a7] t (0, 0))) :
    w.cell? ⟨b, 0, none⟩ = some a0 ∧ w.cell? ⟨b, 1, none⟩ = some a1 ∧ w.cell? ⟨b, 2, none⟩ = some a2 ∧ w.cell? ⟨b, 3, none⟩ = some a3 ∧ w.cell? ⟨b, 4, none⟩ = some a4 ∧ w.cell? ⟨b, 5, none⟩ = some a5 ∧ w.cell? ⟨b, 6, none⟩ = some a6 ∧ w.cell? ⟨b, 7, none⟩ = some a7 :=
  ⟨cell_of_heap h rfl, cell_of_heap h rfl, cell_of_heap h rfl, cell_of_heap h rfl, cell_of_heap h rfl, cell_of_heap h rfl, cell_of_heap h rfl, cell_of_heap h rfl⟩
theorem acts_one {b : Nat} {x : Ax} {ua : Option Addr} {uc : Nat} {t : TypeId} (h : w.heap[b]? = some (.cells (x.cells (.slice ua x.l.length uc)).toArray t (0, 0))) (hr : Reads w (.slice ua x.l.length uc) 1 x.l.length (ints x.l)) (hf : x.Fine) : ActsIn w (some ⟨b, 0, none⟩) [x] := fun k hk => by
  obtain rfl : k = 0 := by simp at hk; exact hk
  refine ⟨b, 0, ua, uc, rfl, ?_, hr, hf⟩
  intro j v hj
  rw [Nat.zero_mul, Nat.add_zero, Nat.zero_add]
  exact cell_of_heap h (by simpa using hj)
theorem Tryz.infoAct : (Tryz.prog.info? 57).map (·.size) = some 8 := by kernel_rfl
set_option maxHeartbeats 4000000 in
theorem none15_ok (w : World) (x : Ax) (ua : Option Addr) (uc : Nat) (hr : Reads w (.slice ua x.l.length uc) 1 x.l.length (ints x.l)) (hf : x.Fine) :
    Calls Tryz.prog 7 #[.agg #[.int .i64 x.k, .int .i64 x.r, .int .i64 x.n, .int .i64 x.b, .int .u64 x.v, .slice ua x.l.length uc, .int .i64 x.ek, .int .i64 x.ec]] w fun e w' => e = .returned (.bool true) ∧ Fr no w w' := by
  have r1 := (Fr.refl no w).alloc (.cells #[.int .i64 x.k, .int .i64 x.r, .int .i64 x.n, .int .i64 x.b, .int .u64 x.v, .slice ua x.l.length uc, .int .i64 x.ek, .int .i64 x.ec] 57)
  have hb1 := heap_new w (.cells #[.int .i64 x.k, .int .i64 x.r, .int .i64 x.n, .int .i64 x.b, .int .u64 x.v, .slice ua x.l.length uc, .int .i64 x.ek, .int .i64 x.ec] 57)
  have r2 := (Fr.refl no (w.alloc (.cells #[.int .i64 x.k, .int .i64 x.r, .int .i64 x.n, .int .i64 x.b, .int .u64 x.v, .slice ua x.l.length uc, .int .i64 x.ek, .int .i64 x.ec] 57))).alloc (.cells #[.int .i64 x.k, .int .i64 x.r, .int .i64 x.n, .int .i64 x.b, .int .u64 x.v, .slice ua x.l.length uc, .int .i64 x.ek, .int .i64 x.ec] 57)
  have hb2 := heap_new (w.alloc (.cells #[.int .i64 x.k, .int .i64 x.r, .int .i64 x.n, .int .i64 x.b, .int .u64 x.v, .slice ua x.l.length uc, .int .i64 x.ek, .int .i64 x.ec] 57)) (.cells #[.int .i64 x.k, .int .i64 x.r, .int .i64 x.n, .int .i64 x.b, .int .u64 x.v, .slice ua x.l.length uc, .int .i64 x.ek, .int .i64 x.ec] 57)
  rw [World.size_alloc] at hb2
  have HLG := Lib.hid (long15_ok _ _ 1 [x] (acts_one (x := x) hb2 (hr.fr (r1.trans r2) (by simp)) hf) (by unfold maxLen; simp))
  have HAT : Hid (At (w.alloc (.cells #[.int .i64 x.k, .int .i64 x.r, .int .i64 x.n, .int .i64 x.b, .int .u64 x.v, .slice ua x.l.length uc, .int .i64 x.ek, .int .i64 x.ec] 57)) w.heap.size 0 [.int .i64 x.k, .int .i64 x.r, .int .i64 x.n, .int .i64 x.b, .int .u64 x.v, .slice ua x.l.length uc, .int .i64 x.ek, .int .i64 x.ec]) := Lib.hid (At.of_heap hb1)
  have R2 := Lib.hid (r1.trans r2)
  have HB := Lib.hid (r2.heap hb1 (by simp))
  clear r1 hb1 r2 hb2 hr hf
  cases hlg : longA [x]
  · rw [hlg] at HLG
    clear hlg
    go_enter Tryz.func7, Tryz.ntmps7
    go_upto_region 1 with (fail)
    go_wp2_with ((refine wpList_load_in (o := ⟨some 12, .load 57 (.tmp 1), _, _, _, _⟩) rfl 57 (.tmp 1) rfl w.heap.size 0 rfl _ _ HAT.out Tryz.underlying57 rfl (by rw [Tryz.infoAct]; rfl) ?_))
    refine HLG.out.mono ?_
    rintro e w3 ⟨rfl, r3⟩
    have R3 := Lib.hid (R2.out.trans r3)
    have HB3 := Lib.hid (r3.heap HB.out (by simp))
    clear r3
    go_upto_region 4 with (fail)
    have r4 := (Fr.refl no w3).alloc (.cells zeroSp 94)
    have hz4 := heap_new w3 (.cells zeroSp 94)
    have r5 := (Fr.refl no (w3.alloc (.cells zeroSp 94))).alloc (.cells #[.pointer none, .pointer (some ⟨w3.heap.size, 0, none⟩)] 30)
    have hp5 := heap_new (w3.alloc (.cells zeroSp 94)) (.cells #[.pointer none, .pointer (some ⟨w3.heap.size, 0, none⟩)] 30)
    rw [World.size_alloc] at hp5
    have HZ := Lib.hid (r5.heap hz4 (by simp))
    have HP := Lib.hid hp5
    have HB5 := Lib.hid (r5.heap (r4.heap HB3.out (by simp)) (by simp))
    have R5 := Lib.hid (R3.out.trans (r4.trans r5))
    clear r4 hz4 r5 hp5
    unfold zeroSp at HP HZ HB5 R5
    generalize (w3.alloc (.cells #[.int .u32 0, .int .i32 0, .int .u32 0, .int .i64 0, .slice none 0 0, .slice none 0 0, .slice none 0 0, .int .i64 0, .pointer none, .pointer none, .int .i64 0, .int .u64 0, .int .u64 0, .int .i64 0, .int .i64 0, .slice none 0 0, .int .i64 0, .int .i64 0] 94)).alloc (.cells #[.pointer none, .pointer (some ⟨w3.heap.size, 0, none⟩)] 30) = w5 at *
    go_wp2_with fail
    go_loopw [4] (fun y wr => ∃ j : Nat, j ≤ 2 ∧ y = .int .i64 j ∧ Hid (Fr no w5 wr)) (fun y _ => (2 - intOf y).toNat)
    case atStart => exact ⟨0, by omega, by simp, Lib.hid (Fr.refl _ _)⟩
    case round =>
      obtain ⟨j, hj, rfl, hfr⟩ := hrel
      by_cases hjl : j < 2
      · have hlt : (j : Int) < 2 := by omega
        obtain ⟨v, hv, hc⟩ : ∃ v, NoSp wr v ∧ wr.cell? ⟨w3.heap.size + 1, j, none⟩ = some v := by
          obtain rfl | rfl : j = 0 ∨ j = 1 := by omega
          · exact ⟨_, .inl rfl, cell_of_heap (hfr.out.heap HP.out (by simp)) rfl⟩
          · exact ⟨_, .inr ⟨_, rfl, hfr.out.heap HZ.out (by simp)⟩, cell_of_heap (hfr.out.heap HP.out (by simp)) rfl⟩
        have HNS := Lib.hid hv
        have R6 : Hid (Fr no wr wr) := Lib.hid (Fr.refl _ _)
        have B6 := Lib.hid (hfr.out.heap HB5.out (by simp))
        obtain ⟨b0, b1, b2, b3, b4, b5, b6, b7⟩ := cells8n B6.out
        clear hv
        go_wp2_with fail
        refine (ns_Get _ x.r (HNS.out.fr R6.out)).mono ?_
        rintro e w' ⟨rfl, rfl⟩
        go_wp2_with fail
        refine (ns_Getb _ (HNS.out.fr R6.out)).mono ?_
        rintro e w' ⟨rfl, rfl⟩
        go_wp2_with fail
        refine (ns_End _ (HNS.out.fr R6.out)).mono ?_
        rintro e w7 ⟨rfl, r7⟩
        clear b0 b1 b2 b3 b4 b5 b6 b7
        have R7 := Lib.hid (R6.out.trans r7)
        have B7 := Lib.hid (r7.heap B6.out (by simp))
        clear r7
        obtain ⟨b0, b1, b2, b3, b4, b5, b6, b7⟩ := cells8n B7.out
        go_upto_region 11 with (fail)
        have r8 := (Fr.refl no w7).alloc (.cells #[.int .i64 0, .int .i64 0] 43)
        have E8 := Lib.hid (heap_new w7 (.cells #[.int .i64 0, .int .i64 0] 43))
        clear b0 b1 b2 b3 b4 b5 b6 b7
        have R8 := Lib.hid (R7.out.trans r8)
        have B8 := Lib.hid (r8.heap B7.out (by simp))
        clear r8
        generalize w7.alloc (.cells #[.int .i64 0, .int .i64 0] 43) = w8 at *
        obtain ⟨b0, b1, b2, b3, b4, b5, b6, b7⟩ := cells8n B8.out
        have e0 := cell_of_heap (o := 0) E8.out rfl
        have e1 := cell_of_heap (o := 1) E8.out rfl
        go_wp2_with fail
        refine (ns_Memory _ (HNS.out.fr R8.out)).mono ?_
        rintro e w' ⟨rfl, rfl⟩
        go_wp2_with fail
        refine (ns_Func _ (HNS.out.fr R8.out)).mono ?_
        rintro e w' ⟨rfl, rfl⟩
        go_wp2_with fail
        refine (ns_Place _ (HNS.out.fr R8.out)).mono ?_
        rintro e w' ⟨rfl, rfl⟩
        go_wp2_with fail
        refine (ns_Fuel _ (HNS.out.fr R8.out)).mono ?_
        rintro e w' ⟨rfl, rfl⟩
        go_wp2_with fail
        refine (ns_Depth _ (HNS.out.fr R8.out)).mono ?_
        rintro e w' ⟨rfl, rfl⟩
        go_wp2_with fail
        refine (ns_At _ (HNS.out.fr R8.out)).mono ?_
        rintro e w' ⟨rfl, rfl⟩
        go_wp2_with fail
        have hfld : ∀ w, (Instr.field 99 (.agg #[.slice none 0 0, .int .i64 0, .int .i64 0]) 0).run Tryz.prog w = .ok (.slice none 0 0) w := fun w => by kernel_rfl
        refine (ns_Outcome _ (HNS.out.fr R8.out)).mono ?_
        rintro e w9 ⟨rfl, r9⟩
        clear b0 b1 b2 b3 b4 b5 b6 b7
        have R9 := Lib.hid (R8.out.trans r9)
        have B9 := Lib.hid (r9.heap B8.out (by simp))
        clear r9
        obtain ⟨b0, b1, b2, b3, b4, b5, b6, b7⟩ := cells8n B9.out
        clear e0 e1
        go_wp2_with fail
        clear hfld
        refine (ns_Set _ x.r x.v (HNS.out.fr R9.out)).mono ?_
        rintro e w' ⟨rfl, rfl⟩
        go_wp2_with fail
        refine (ns_Go _ x.n (HNS.out.fr R9.out)).mono ?_
        rintro e w' ⟨rfl, rfl⟩
        go_wp2_with fail
        refine (ns_Burn _ x.n (HNS.out.fr R9.out)).mono ?_
        rintro e w' ⟨rfl, rfl⟩
        go_wp2_with fail
        refine (ns_Call _ x.n x.r x.b _ (HNS.out.fr R9.out)).mono ?_
        rintro e w10 ⟨rfl, r10⟩
        clear b0 b1 b2 b3 b4 b5 b6 b7
        have R10 := Lib.hid (R9.out.trans r10)
        have B10 := Lib.hid (r10.heap B9.out (by simp))
        clear r10
        obtain ⟨b0, b1, b2, b3, b4, b5, b6, b7⟩ := cells8n B10.out
        go_wp2_with fail
        refine (ns_Return _ x.v (HNS.out.fr R10.out)).mono ?_
        rintro e w' ⟨rfl, rfl⟩
        go_wp2_with fail
        refine (ns_Stop _ x.ek x.ec (HNS.out.fr R10.out)).mono ?_
        rintro e w11 ⟨rfl, r11⟩
        clear b0 b1 b2 b3 b4 b5 b6 b7
        have R11 := Lib.hid (R10.out.trans r11)
        have B11 := Lib.hid (r11.heap B10.out (by simp))
        clear r11
        obtain ⟨b0, b1, b2, b3, b4, b5, b6, b7⟩ := cells8n B11.out
        go_wp2_with fail
        refine (ns_Putb _ x.n (HNS.out.fr R11.out)).mono ?_
        rintro e w' ⟨rfl, rfl⟩
        go_wp2_with fail
        refine (ns_Same _ (HNS.out.fr R11.out)).mono ?_
        rintro e w' ⟨rfl, rfl⟩
        go_wp2_with fail
        refine (ns_Copy _ (HNS.out.fr R11.out)).mono ?_
        rintro e w' ⟨rfl, rfl⟩
        go_wp2_with fail
        go_roundw
        case rel => exact ⟨j + 1, by omega, by go_num, Lib.hid (hfr.out.trans R11.out)⟩
        case measure => first | (simp [intOf]; done) | (simp [intOf]; omega)
      · obtain rfl : j = 2 := by omega
        go_wp2_with fail
        refine (awake15_ok wr).mono ?_
        rintro e w9 ⟨rfl, r9⟩
        have RF := Lib.hid (R5.out.trans (hfr.out.trans r9))
        clear r9
        go_wp2_with fail
        go_ret
        exact ⟨rfl, RF.out⟩
  · rw [hlg] at HLG
    clear hlg
    go_enter Tryz.func7, Tryz.ntmps7
    go_upto_region 1 with (fail)
    go_wp2_with ((refine wpList_load_in (o := ⟨some 12, .load 57 (.tmp 1), _, _, _, _⟩) rfl 57 (.tmp 1) rfl w.heap.size 0 rfl _ _ HAT.out Tryz.underlying57 rfl (by rw [Tryz.infoAct]; rfl) ?_))
    refine HLG.out.mono ?_
    rintro e w3 ⟨rfl, r3⟩
    have R3 := Lib.hid (R2.out.trans r3)
    clear r3
    go_wp2_with fail
    refine (awake15_ok w3).mono ?_
    rintro e w4 ⟨rfl, r4⟩
    have R4 := Lib.hid (R3.out.trans r4)
    clear r4
    go_wp2_with fail
    go_ret
    exact ⟨rfl, R4.out⟩
theorem none15_rd (w : World) (s0 : Array Value) {n : Nat} {d : Dt} (h : Rd Tryz.prog w n 57 s0.toList d) : Calls Tryz.prog 7 #[.agg s0] w fun e w' => e = .returned (.bool true) ∧ Fr no w w' := by
  obtain ⟨x, ua, uc, hcs, hr, hf⟩ := act_of h
  have : s0 = (x.cells (.slice ua x.l.length uc)).toArray := by rw [← hcs]
  subst this
  exact none15_ok w x ua uc hr hf

end Go.Proofs.YtihnkijeefkefaaGreat

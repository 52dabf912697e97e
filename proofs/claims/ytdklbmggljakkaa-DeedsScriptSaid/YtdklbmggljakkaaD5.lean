import Derived.Test.YtdklbmggljakkaaD4
import Derived.Laws.Rows
import Derived.Laws.Tables
set_option linter.unusedSimpArgs false
set_option linter.unusedVariables false
set_option linter.unusedSectionVars false
set_option linter.unnecessarySimpa false
namespace Go.Proofs.Ytdklbmggljakkaa
open Go.RowKit

attribute [local go_sem] Program.isFuncB Program.isSliceB

variable {w w' w'' w0 : World}

theorem fr_setRow2 {S : Nat → Prop} {g : Nat} {cs : Array Value} (h : Fr S w w') (hS : S g ∨ w.heap.size ≤ g) : Fr S w (w'.setRow g cs) :=
  ⟨h.os, h.tape, h.output, by simp [World.setRow, h.size], fun k hk hs => by
    have : g ≠ k := fun e => by rcases hS with m | m; exact hs (e ▸ m); omega
    rw [show (w'.setRow g cs).heap[k]? = w'.heap[k]? from by simp [World.setRow, Array.getElem?_modify, this]]
    exact h.block k hk hs⟩

theorem mayD_over (d : Dd) (o : Bool) : mayD d o = (mayD d false && !(o && (d.1 == 1) && decide (0 ≤ d.2))) := by
  obtain ⟨k, b⟩ := d
  unfold mayD
  dsimp only
  by_cases h1 : k = 1
  · subst h1
    rw [if_pos rfl, if_pos rfl]
    cases o <;> simp [Bool.and_comm]
  · have e1 : (k == 1) = false := by simpa using h1
    rw [if_neg h1, if_neg h1, e1]
    simp
theorem scan_bad (l : List Dd) (j : Nat) (hj : j < l.length) (h : mayD l[j] (overL (l.take j)) = false) : scanD l false = false := by
  have e : l = l.take j ++ (l[j] :: l.drop (j + 1)) := by rw [← List.drop_eq_getElem_cons hj, List.take_append_drop]
  rw [e, scanD_app]
  show (scanD (l.take j) false && (mayD l[j] (overL (l.take j)) && scanD (l.drop (j + 1)) (overD (overL (l.take j)) l[j]))) = false
  rw [h]
  simp
theorem scan_good (l : List Dd) (j : Nat) (hj : j < l.length) (h0 : scanD (l.take j) false = true) (h : mayD l[j] (overL (l.take j)) = true) : scanD (l.take (j + 1)) false = true := by
  rw [List.take_succ_eq_append_getElem hj, scanD_app, h0]
  show (true && (mayD l[j] (overL (l.take j)) && true)) = true
  rw [h]; rfl
theorem over_take (l : List Dd) (j : Nat) (hj : j < l.length) : overL (l.take (j + 1)) = overD (overL (l.take j)) l[j] := by
  rw [List.take_succ_eq_append_getElem hj, overL_snoc]

/-- an outcome in a block of its own -/
theorem outObj (w : World) (dv : Value) (k c : Int) (e : TypeId) : (w.alloc (.cells #[dv, .int .i64 k, .int .i64 c] e)).heap[w.heap.size]? = some (.cells #[dv, .int .i64 k, .int .i64 c] e (0, 0)) := heap_new _ _
theorem cells3 {b : Nat} {a0 a1 a2 : Value} {t : TypeId} (h : w.heap[b]? = some (.cells #[a0, a1, a2] t (0, 0))) : w.cell? ⟨b, 0, none⟩ = some a0 ∧ w.cell? ⟨b, 1, none⟩ = some a1 ∧ w.cell? ⟨b, 2, none⟩ = some a2 :=
  ⟨cell_of_heap h rfl, cell_of_heap h rfl, cell_of_heap h rfl⟩

set_option maxRecDepth 100000 in
set_option maxHeartbeats 8000000 in
theorem refcheck_ok (w : World) (dv : Value) (l : List Dd) (k c : Int) (hd : Reads w dv 2 l.length (deedsC l)) (hl : l.length ≤ maxLen) :
    Calls Try.prog 27 #[.agg #[dv, .int .i64 k, .int .i64 c]] w fun e w' => e = .returned (.int .i64 (chkO l (k, c))) ∧ Fr no w w' := by
  obtain ⟨da, dc, rfl⟩ := hd.shape
  unfold maxLen at hl
  have r0 := (Fr.refl no w).alloc (.cells #[.slice da l.length dc, .int .i64 k, .int .i64 c] 52)
  have R0 := Lib.hid r0
  have HO := Lib.hid (outObj w (.slice da l.length dc) k c 52)
  have HD := Lib.hid hd
  have EN := Lib.hid (refending_ok (w.alloc (.cells #[.slice da l.length dc, .int .i64 k, .int .i64 c] 52)) k c)
  obtain ⟨c0, c1, c2⟩ := cells3 HO.out
  clear hd r0
  by_cases h5 : 100000 < l.length
  · have hop : binOp .gtr 3 (.int .i64 l.length) (.int .i64 100000) = pure (.bool true) := by rw [binOp_gtr, decide_eq_true (by omega)]
    have HQ : Hid (chkO l (k, c) = 2) := Lib.hid (by unfold chkO; rw [if_pos (.inl h5)])
    clear h5 hl
    go_enter Try.func27, Try.ntmps27
    go_wp2_with fail
    go_ret
    exact ⟨by rw [HQ.out]; rfl, R0.out⟩
  have hop : binOp .gtr 3 (.int .i64 l.length) (.int .i64 100000) = pure (.bool false) := by rw [binOp_gtr, decide_eq_false (by omega)]
  have H5 := Lib.hid h5
  clear h5
  cases hm : mayE (k, c)
  · have HQ : Hid (chkO l (k, c) = 2) := Lib.hid (by unfold chkO; rw [if_pos (.inr hm)])
    rw [hm] at EN
    clear hm
    go_enter Try.func27, Try.ntmps27
    go_wp2_with fail
    refine EN.out.mono ?_
    rintro e w1 ⟨rfl, r1⟩
    have R1 := Lib.hid (R0.out.trans r1)
    clear r1
    go_wp2_with fail
    go_ret
    exact ⟨by rw [HQ.out]; rfl, R1.out⟩
  have HQ : Hid (chkO l (k, c) = if scanD l false = true then 0 else 2) := Lib.hid (by
    unfold chkO; rw [if_neg (by rintro (h | h); exact H5.out h; rw [hm] at h; cases h)])
  rw [hm] at EN
  clear hm
  go_enter Try.func27, Try.ntmps27
  go_wp2_with fail
  refine EN.out.mono ?_
  rintro e w1 ⟨rfl, r1⟩
  have R1 := Lib.hid (R0.out.trans r1)
  have HO1 := Lib.hid (r1.heap HO.out (by simp))
  clear r1 c0 c1 c2 HO EN R0
  obtain ⟨c0, c1, c2⟩ := cells3 HO1.out
  go_wp2_with fail
  clear c0 c1 c2 hop
  go_loopw [3, 4] (fun x y wr => ∃ j : Nat, j ≤ l.length ∧ y = .int .i64 j ∧ x = .bool (overL (l.take j)) ∧ Hid (scanD (l.take j) false = true) ∧ Hid (Fr no w1 wr)) (fun _ y _ => (l.length - intOf y).toNat)
  case atStart => exact ⟨0, by omega, rfl, rfl, Lib.hid rfl, Lib.hid (Fr.refl _ _)⟩
  case round =>
    obtain ⟨j, hj, rfl, rfl, hsc, hfr⟩ := hrel
    obtain ⟨c0, c1, c2⟩ := cells3 (hfr.out.heap HO1.out (by simp))
    by_cases hjl : j < l.length
    · have hjl' : (j : Int) < l.length := by omega
      obtain ⟨b, o, rfl, hat⟩ := reads_elem (HD.out.fr (R1.out.trans hfr.out) (by simp)) (by decide) hjl
      rw [deedsC_at l j hjl] at hat
      have HB := Lib.hid (scan_bad l j hjl)
      have HG := Lib.hid (scan_good l j hjl hsc.out)
      have HOV := Lib.hid (over_take l j hjl)
      have HMO := Lib.hid (mayD_over l[j] (overL (l.take j)))
      generalize l[j] = d at *
      obtain ⟨dk, db⟩ := d
      have x0 : wr.cell? ⟨b, o + j * 2, none⟩ = some (.int .i64 dk) := hat 0 _ rfl
      have x1 : wr.cell? ⟨b, o + j * 2 + 1, none⟩ = some (.int .i64 db) := hat 1 _ rfl
      generalize overL (l.take j) = ov at *
      dsimp only at HMO
      clear hat
      have HX0 := Lib.hid (heap_new wr (.cells #[.int .i64 0, .int .i64 0] 59))
      have ra := (Fr.refl no wr).alloc (.cells #[.int .i64 0, .int .i64 0] 59)
      have RB := Lib.hid (ra.trans' (fr_setRow2 (g := wr.heap.size) (cs := #[.int .i64 dk, .int .i64 db]) (Fr.refl (only [wr.heap.size]) _) (.inl (by simp))) (fun k hk _ => by simp at hk; omega))
      have HX1 := Lib.hid (setRow_heap _ wr.heap.size _ #[.int .i64 dk, .int .i64 db] _ _ HX0.out)
      clear ra
      go_upto_region 8 with (refine wpList_store_row rfl 59 (.tmp 5) (.tmp 27) rfl wr.heap.size #[.int .i64 dk, .int .i64 db] rfl rfl _ _ HX0.out (by rw [Try.infoDeed]; rfl) rfl (by simp [Value.oneCell']) ?_; rw [act_put_none])
      generalize World.setRow _ wr.heap.size #[.int .i64 dk, .int .i64 db] = w3 at *
      have F3 := Lib.hid (hfr.out.trans RB.out)
      have RD := Lib.hid (refdeed_ok w3 dk db)
      clear HX0 RB x0 x1 c0 c1 c2 hfr
      have y0 : w3.cell? ⟨wr.heap.size, 0, none⟩ = some (.int .i64 dk) := cell_of_heap HX1.out rfl
      have y1 : w3.cell? ⟨wr.heap.size, 1, none⟩ = some (.int .i64 db) := cell_of_heap HX1.out rfl
      generalize mayD (dk, db) false = m at *
      go_wp2_with fail
      refine RD.out.mono ?_
      rintro e w4 ⟨rfl, r4⟩
      have F4 := Lib.hid (F3.out.trans r4)
      have HX4 := Lib.hid (r4.heap HX1.out (by simp))
      clear r4 RD y0 y1 HX1 F3
      have y0 : w4.cell? ⟨wr.heap.size, 0, none⟩ = some (.int .i64 dk) := cell_of_heap HX4.out rfl
      have y1 : w4.cell? ⟨wr.heap.size, 1, none⟩ = some (.int .i64 db) := cell_of_heap HX4.out rfl
      cases m
      case false =>
        have HF := Lib.hid (HB.out (by rw [HMO.out]; rfl))
        clear HG HB HMO HOV
        go_wp2_with fail
        go_ret
        exact ⟨by rw [HQ.out, HF.out]; rfl, R1.out.trans F4.out⟩
      by_cases hk1 : dk = 1
      · subst hk1
        by_cases hb : 0 ≤ db
        · have hb2 : ¬ db < 0 := by omega
          cases ov
          · have HT := Lib.hid (HG.out (by rw [HMO.out]; rfl))
            have HV : Hid (overD false (1, db) = false) := Lib.hid (by simp [overD]; omega)
            rw [HV.out] at HOV
            clear HG HB HMO HV
            go_wp2_with fail
            go_roundw
            case rel => exact ⟨j + 1, by omega, by go_num, by rw [HOV.out]; first | done | rfl | (simp; omega), HT, F4⟩
            case measure => first | (simp [intOf]; done) | (simp [intOf]; omega)
          · have HF := Lib.hid (HB.out (by rw [HMO.out]; simp [hb]))
            clear HG HB HMO HOV
            go_wp2_with fail
            go_ret
            exact ⟨by rw [HQ.out, HF.out]; rfl, R1.out.trans F4.out⟩
        · have hb2 : db < 0 := by omega
          have HT := Lib.hid (HG.out (by rw [HMO.out]; simp [hb]))
          have HV : Hid (overD ov (1, db) = true) := Lib.hid (by simp [overD, hb2])
          rw [HV.out] at HOV
          clear HG HB HMO HV
          cases ov
          all_goals
            go_wp2_with fail
            go_roundw
            case rel => exact ⟨j + 1, by omega, by go_num, by rw [HOV.out]; first | done | rfl | (simp; omega), HT, F4⟩
            case measure => first | (simp [intOf]; done) | (simp [intOf]; omega)
      · have e1 : (dk == 1) = false := by simpa using hk1
        have HT := Lib.hid (HG.out (by rw [HMO.out, e1]; simp))
        have HV : Hid (overD ov (dk, db) = ov) := Lib.hid (by simp [overD, e1])
        rw [HV.out] at HOV
        clear HG HB HMO HV hk1
        cases ov
        all_goals
          go_wp2_with fail
          go_roundw
          case rel => exact ⟨j + 1, by omega, by go_num, by rw [HOV.out]; first | done | rfl | (simp; omega), HT, F4⟩
          case measure => first | (simp [intOf]; done) | (simp [intOf]; omega)
    · obtain rfl : j = l.length := by omega
      have HF : Hid (scanD l false = true) := Lib.hid (by have := hsc.out; rwa [List.take_length] at this)
      have F4 := Lib.hid (R1.out.trans hfr.out)
      clear hsc
      go_wp2_with fail
      go_ret
      exact ⟨by rw [HQ.out, HF.out]; rfl, F4.out⟩

end Go.Proofs.Ytdklbmggljakkaa

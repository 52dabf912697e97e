import Derived.Test.YtihnkijeefkefaaGreatDA
import Derived.Laws.Rows
import Derived.Laws.Tables
import Derived.RangeFuncFrom
import Derived.RangeFuncBound
import Derived.RangeFuncCalls
import Derived.RangeFuncLeaves
import Derived.Shelf.Abstract
import Derived.Shelf.RegionOpen
import Derived.OwnWalkIn
import Derived.TacticsInMore
import Derived.LoopNIn
import Derived.LoopIn
set_option linter.unusedSimpArgs false
set_option linter.unusedVariables false
set_option linter.unusedSectionVars false
set_option linter.unnecessarySimpa false
set_option maxRecDepth 100000
namespace Go.Proofs.YtihnkijeefkefaaGreat
open Go.RowKit

attribute [local go_sem] Program.isFuncB Program.isSliceB

variable {w w' w'' w0 : World}

theorem fr_setRow2 {S : Nat → Prop} {g : Nat} {cs : Array Value} (h : Fr S w w') (hS : S g ∨ w.heap.size ≤ g) : Fr S w (w'.setRow g cs) :=
  ⟨h.os, h.tape, h.output, by simp [World.setRow, h.size], fun k hk hs => by
    have : g ≠ k := fun e => by rcases hS with m | m; exact hs (e ▸ m); omega
    rw [show (w'.setRow g cs).heap[k]? = w'.heap[k]? from by simp [World.setRow, Array.getElem?_modify, this]]
    exact h.block k hk hs⟩

theorem mayD_over (d : Dd) (o : Bool) : mayD d o = (mayD d false && !(o && (d.1 == 1) && decide (0 ≤ d.2))) := by
  obtain ⟨k, b⟩ := d
  unfold mayD
  dsimp only
  by_cases h1 : k = 1
  · subst h1
    rw [if_pos rfl, if_pos rfl]
    cases o <;> simp [Bool.and_comm]
  · have e1 : (k == 1) = false := by simpa using h1
    rw [if_neg h1, if_neg h1, e1]
    simp
theorem scan_bad (l : List Dd) (j : Nat) (hj : j < l.length) (h : mayD l[j] (overL (l.take j)) = false) : scanD l false = false := by
  have e : l = l.take j ++ (l[j] :: l.drop (j + 1)) := by rw [← List.drop_eq_getElem_cons hj, List.take_append_drop]
  rw [e, scanD_app]
  show (scanD (l.take j) false && (mayD l[j] (overL (l.take j)) && scanD (l.drop (j + 1)) (overD (overL (l.take j)) l[j]))) = false
  rw [h]
  simp
theorem scan_good (l : List Dd) (j : Nat) (hj : j < l.length) (h0 : scanD (l.take j) false = true) (h : mayD l[j] (overL (l.take j)) = true) : scanD (l.take (j + 1)) false = true := by
  rw [List.take_succ_eq_append_getElem hj, scanD_app, h0]
  show (true && (mayD l[j] (overL (l.take j)) && true)) = true
  rw [h]; rfl
theorem over_take (l : List Dd) (j : Nat) (hj : j < l.length) : overL (l.take (j + 1)) = overD (overL (l.take j)) l[j] := by
  rw [List.take_succ_eq_append_getElem hj, overL_snoc]

/-- an outcome in a block of its own -/
theorem outObj (w : World) (dv : Value) (k c : Int) (e : TypeId) : (w.alloc (.cells #[dv, .int .i64 k, .int .i64 c] e)).heap[w.heap.size]? = some (.cells #[dv, .int .i64 k, .int .i64 c] e (0, 0)) := heap_new _ _
theorem cells3 {b : Nat} {a0 a1 a2 : Value} {t : TypeId} (h : w.heap[b]? = some (.cells #[a0, a1, a2] t (0, 0))) : w.cell? ⟨b, 0, none⟩ = some a0 ∧ w.cell? ⟨b, 1, none⟩ = some a1 ∧ w.cell? ⟨b, 2, none⟩ = some a2 :=
  ⟨cell_of_heap h rfl, cell_of_heap h rfl, cell_of_heap h rfl⟩

set_option maxRecDepth 100000 in
set_option maxHeartbeats 8000000 in
theorem orefcheck_ok (w : World) (dv : Value) (l : List Dd) (k c : Int) (hd : Reads w dv 2 l.length (deedsC l)) (hl : l.length ≤ maxLen) :
    Calls Tryz.prog 144 #[.agg #[dv, .int .i64 k, .int .i64 c]] w fun e w' => e = .returned (.int .i64 (chkO l (k, c))) ∧ Fr no w w' := by
  obtain ⟨da, dc, rfl⟩ := hd.shape
  unfold maxLen at hl
  have r0 := (Fr.refl no w).alloc (.cells #[.slice da l.length dc, .int .i64 k, .int .i64 c] 99)
  have R0 := Lib.hid r0
  have HO := Lib.hid (outObj w (.slice da l.length dc) k c 99)
  have HD := Lib.hid hd
  have EN := Lib.hid (refending_ok (w.alloc (.cells #[.slice da l.length dc, .int .i64 k, .int .i64 c] 99)) k c)
  obtain ⟨c0, c1, c2⟩ := cells3 HO.out
  clear hd r0
  by_cases h5 : 100000 < l.length
  · have hop : binOp .gtr 3 (.int .i64 l.length) (.int .i64 100000) = pure (.bool true) := by rw [binOp_gtr, decide_eq_true (by omega)]
    have HQ : Hid (chkO l (k, c) = 2) := Lib.hid (by unfold chkO; rw [if_pos (.inl h5)])
    clear h5 hl
    go_enter Tryz.func144, Tryz.ntmps144
    go_wp2_with fail
    go_ret
    exact ⟨by rw [HQ.out]; rfl, R0.out⟩
  have hop : binOp .gtr 3 (.int .i64 l.length) (.int .i64 100000) = pure (.bool false) := by rw [binOp_gtr, decide_eq_false (by omega)]
  have H5 := Lib.hid h5
  clear h5
  cases hm : mayE (k, c)
  · have HQ : Hid (chkO l (k, c) = 2) := Lib.hid (by unfold chkO; rw [if_pos (.inr hm)])
    rw [hm] at EN
    clear hm
    go_enter Tryz.func144, Tryz.ntmps144
    go_wp2_with fail
    refine EN.out.mono ?_
    rintro e w1 ⟨rfl, r1⟩
    have R1 := Lib.hid (R0.out.trans r1)
    clear r1
    go_wp2_with fail
    go_ret
    exact ⟨by rw [HQ.out]; rfl, R1.out⟩
  have HQ : Hid (chkO l (k, c) = if scanD l false = true then 0 else 2) := Lib.hid (by
    unfold chkO; rw [if_neg (by rintro (h | h); exact H5.out h; rw [hm] at h; cases h)])
  rw [hm] at EN
  clear hm
  go_enter Tryz.func144, Tryz.ntmps144
  go_wp2_with fail
  refine EN.out.mono ?_
  rintro e w1 ⟨rfl, r1⟩
  have R1 := Lib.hid (R0.out.trans r1)
  have HO1 := Lib.hid (r1.heap HO.out (by simp))
  clear r1 c0 c1 c2 HO EN R0
  obtain ⟨c0, c1, c2⟩ := cells3 HO1.out
  go_wp2_with fail
  clear c0 c1 c2 hop
  go_loopw [3, 4] (fun x y wr => ∃ j : Nat, j ≤ l.length ∧ y = .int .i64 j ∧ x = .bool (overL (l.take j)) ∧ Hid (scanD (l.take j) false = true) ∧ Hid (Fr no w1 wr)) (fun _ y _ => (l.length - intOf y).toNat)
  case atStart => exact ⟨0, by omega, rfl, rfl, Lib.hid rfl, Lib.hid (Fr.refl _ _)⟩
  case round =>
    obtain ⟨j, hj, rfl, rfl, hsc, hfr⟩ := hrel
    obtain ⟨c0, c1, c2⟩ := cells3 (hfr.out.heap HO1.out (by simp))
    by_cases hjl : j < l.length
    · have hjl' : (j : Int) < l.length := by omega
      obtain ⟨b, o, rfl, hat⟩ := reads_elem (HD.out.fr (R1.out.trans hfr.out) (by simp)) (by decide) hjl
      rw [deedsC_at l j hjl] at hat
      have HB := Lib.hid (scan_bad l j hjl)
      have HG := Lib.hid (scan_good l j hjl hsc.out)
      have HOV := Lib.hid (over_take l j hjl)
      have HMO := Lib.hid (mayD_over l[j] (overL (l.take j)))
      generalize l[j] = d at *
      obtain ⟨dk, db⟩ := d
      have x0 : wr.cell? ⟨b, o + j * 2, none⟩ = some (.int .i64 dk) := hat 0 _ rfl
      have x1 : wr.cell? ⟨b, o + j * 2 + 1, none⟩ = some (.int .i64 db) := hat 1 _ rfl
      generalize overL (l.take j) = ov at *
      dsimp only at HMO
      clear hat
      have HX0 := Lib.hid (heap_new wr (.cells #[.int .i64 0, .int .i64 0] 179))
      have ra := (Fr.refl no wr).alloc (.cells #[.int .i64 0, .int .i64 0] 179)
      have RB := Lib.hid (ra.trans' (fr_setRow2 (g := wr.heap.size) (cs := #[.int .i64 dk, .int .i64 db]) (Fr.refl (only [wr.heap.size]) _) (.inl (by simp))) (fun k hk _ => by simp at hk; omega))
      have HX1 := Lib.hid (setRow_heap _ wr.heap.size _ #[.int .i64 dk, .int .i64 db] _ _ HX0.out)
      clear ra
      go_upto_region 8 with (refine wpList_store_row rfl 179 (.tmp 5) (.tmp 27) rfl wr.heap.size #[.int .i64 dk, .int .i64 db] rfl rfl _ _ HX0.out (by rw [Tryz.infoDeed]; rfl) rfl (by simp [Value.oneCell']) ?_; rw [act_put_none])
      generalize World.setRow _ wr.heap.size #[.int .i64 dk, .int .i64 db] = w3 at *
      have F3 := Lib.hid (hfr.out.trans RB.out)
      have RD := Lib.hid (refdeed_ok w3 dk db)
      clear HX0 RB x0 x1 c0 c1 c2 hfr
      have y0 : w3.cell? ⟨wr.heap.size, 0, none⟩ = some (.int .i64 dk) := cell_of_heap HX1.out rfl
      have y1 : w3.cell? ⟨wr.heap.size, 1, none⟩ = some (.int .i64 db) := cell_of_heap HX1.out rfl
      generalize mayD (dk, db) false = m at *
      go_wp2_with fail
      refine RD.out.mono ?_
      rintro e w4 ⟨rfl, r4⟩
      have F4 := Lib.hid (F3.out.trans r4)
      have HX4 := Lib.hid (r4.heap HX1.out (by simp))
      clear r4 RD y0 y1 HX1 F3
      have y0 : w4.cell? ⟨wr.heap.size, 0, none⟩ = some (.int .i64 dk) := cell_of_heap HX4.out rfl
      have y1 : w4.cell? ⟨wr.heap.size, 1, none⟩ = some (.int .i64 db) := cell_of_heap HX4.out rfl
      cases m
      case false =>
        have HF := Lib.hid (HB.out (by rw [HMO.out]; rfl))
        clear HG HB HMO HOV
        go_wp2_with fail
        go_ret
        exact ⟨by rw [HQ.out, HF.out]; rfl, R1.out.trans F4.out⟩
      by_cases hk1 : dk = 1
      · subst hk1
        by_cases hb : 0 ≤ db
        · have hb2 : ¬ db < 0 := by omega
          cases ov
          · have HT := Lib.hid (HG.out (by rw [HMO.out]; rfl))
            have HV : Hid (overD false (1, db) = false) := Lib.hid (by simp [overD]; omega)
            rw [HV.out] at HOV
            clear HG HB HMO HV
            go_wp2_with fail
            go_roundw
            case rel => exact ⟨j + 1, by omega, by go_num, by rw [HOV.out]; first | done | rfl | (simp; omega), HT, F4⟩
            case measure => first | (simp [intOf]; done) | (simp [intOf]; omega)
          · have HF := Lib.hid (HB.out (by rw [HMO.out]; simp [hb]))
            clear HG HB HMO HOV
            go_wp2_with fail
            go_ret
            exact ⟨by rw [HQ.out, HF.out]; rfl, R1.out.trans F4.out⟩
        · have hb2 : db < 0 := by omega
          have HT := Lib.hid (HG.out (by rw [HMO.out]; simp [hb]))
          have HV : Hid (overD ov (1, db) = true) := Lib.hid (by simp [overD, hb2])
          rw [HV.out] at HOV
          clear HG HB HMO HV
          cases ov
          all_goals
            go_wp2_with fail
            go_roundw
            case rel => exact ⟨j + 1, by omega, by go_num, by rw [HOV.out]; first | done | rfl | (simp; omega), HT, F4⟩
            case measure => first | (simp [intOf]; done) | (simp [intOf]; omega)
      · have e1 : (dk == 1) = false := by simpa using hk1
        have HT := Lib.hid (HG.out (by rw [HMO.out, e1]; simp))
        have HV : Hid (overD ov (dk, db) = ov) := Lib.hid (by simp [overD, e1])
        rw [HV.out] at HOV
        clear HG HB HMO HV hk1
        cases ov
        all_goals
          go_wp2_with fail
          go_roundw
          case rel => exact ⟨j + 1, by omega, by go_num, by rw [HOV.out]; first | done | rfl | (simp; omega), HT, F4⟩
          case measure => first | (simp [intOf]; done) | (simp [intOf]; omega)
    · obtain rfl : j = l.length := by omega
      have HF : Hid (scanD l false = true) := Lib.hid (by have := hsc.out; rwa [List.take_length] at this)
      have F4 := Lib.hid (R1.out.trans hfr.out)
      clear hsc
      go_wp2_with fail
      go_ret
      exact ⟨by rw [HQ.out, HF.out]; rfl, F4.out⟩

end Go.Proofs.YtihnkijeefkefaaGreat

namespace Go.Proofs.YtihnkijeefkefaaGreat
open Go.RowKit

attribute [local go_sem] Program.isFuncB Program.isSliceB

variable {w w' w'' w0 : World}

set_option maxHeartbeats 4000000 in
/-- are two lists of deeds equal? -/
theorem equal_ok (w : World) (u v : Value) (a b : List Dd) (ha : Reads w u 2 a.length (deedsC a)) (hb : Reads w v 2 b.length (deedsC b)) (hl : a.length ≤ 1000000000) (hm : b.length ≤ 1000000000) :
    Calls Tryz.prog 152 #[u, v] w fun e w' => e = .returned (.bool (decide (a = b))) ∧ Fr no w w' := by
  obtain ⟨ua, uc, rfl⟩ := ha.shape
  obtain ⟨va, vc, rfl⟩ := hb.shape
  by_cases hab : a.length = b.length
  case neg =>
    have HN : Hid (decide (a = b) = false) := Lib.hid (decide_eq_false (fun e => hab (by rw [e])))
    have e1 : ((a.length : Int) != (b.length : Int)) = true := by rw [bne_iff_ne]; omega
    clear hab ha hb
    go_enter Tryz.func152, Tryz.ntmps152
    go_wp2_with fail
    go_ret
    exact ⟨by rw [HN.out]; rfl, Fr.refl _ _⟩
  have HA := Lib.hid ha
  have HB := Lib.hid hb
  clear ha hb
  generalize hmm : b.length = mm at *
  obtain rfl : mm = a.length := by omega
  have HJL := Lib.hid hmm
  clear hmm hab
  go_enter Tryz.func152, Tryz.ntmps152
  go_wp2_with fail
  go_loopw [13] (fun x wr => ∃ k : Nat, k ≤ a.length ∧ x = .int .i64 k ∧ Hid (a.take k = b.take k) ∧ Hid (Fr no w wr)) (fun x _ => (a.length - intOf x).toNat)
  case atStart => exact ⟨0, by omega, rfl, Lib.hid rfl, Lib.hid (Fr.refl _ _)⟩
  case round =>
    obtain ⟨k, hk, rfl, hpre, hfr⟩ := hrel
    by_cases hks : k < a.length
    · have hks' : (k : Int) < a.length := by omega
      have hkb : k < b.length := by have := HJL.out; omega
      have rd := hfr.out.trans (Fr.refl no wr).drew
      obtain ⟨b1, o1, rfl, h1⟩ := reads_elem (HA.out.fr rd (by simp)) (by decide) hks
      obtain ⟨b2, o2, rfl, h2⟩ := reads_elem (HB.out.fr rd (by simp)) (by decide) hks
      rw [deedsC_at a k hks] at h1
      rw [deedsC_at b k hkb] at h2
      have HD : Hid ((a[k] == b[k]) = decide (a.take (k + 1) = b.take (k + 1))) := Lib.hid (by
        rw [List.take_succ_eq_append_getElem hks, List.take_succ_eq_append_getElem hkb, hpre.out]
        rw [Bool.eq_iff_iff, beq_iff_eq, decide_eq_true_eq]
        exact ⟨fun h => by rw [h], fun h => by have := List.append_inj_right' h rfl; injection this⟩)
      have HBD : Hid (decide (a.take (k + 1) = b.take (k + 1)) = false → decide (a = b) = false) := Lib.hid (fun h => decide_eq_false (fun e => by
        have h2 : a.take (k + 1) ≠ b.take (k + 1) := of_decide_eq_false h
        exact h2 (by rw [e])))
      have HTD : Hid (decide (a.take (k + 1) = b.take (k + 1)) = true → a.take (k + 1) = b.take (k + 1)) := Lib.hid (fun h => by simpa using h)
      have A1 := Lib.hid h1
      have A2 := Lib.hid h2
      have R1 := Lib.hid rd
      clear h1 h2 rd
      generalize a[k] = x at *
      generalize b[k] = y at *
      obtain ⟨x1, x2⟩ := x
      obtain ⟨y1, y2⟩ := y
      dsimp only at A1 A2
      have HXY : Hid (((x1, x2) == (y1, y2)) = ((x1 == y1) && (x2 == y2))) := Lib.hid rfl
      rw [HXY.out] at HD
      go_wp2_with fail
      cases e1 : (x1 == y1)
      case false =>
        have e2 : (x1 != y1) = true := by rw [bne, e1]; rfl
        have HF := Lib.hid (HBD.out (by rw [← HD.out, e1]; rfl))
        refine Lex.region [] [9] (by kernel_rfl) (by kernel_rfl) ?_
        refine Lex.opens (fun w' => At w' b1 (o1 + k * 2) [.int .i64 x1, .int .i64 x2] ∧ At w' b2 (o2 + k * 2) [.int .i64 y1, .int .i64 y2]) (⟨A1.out, A2.out⟩) ?_
        repeat (first
          | (refine Lex.skips (by rfl) ?_; (try simp only [Act.put, List.setIfInBounds_toArray, List.set_cons_zero, List.set_cons_succ]))
          | (refine Lex.into (by rfl) (by rfl) _ _ rfl _ _ rfl _ _ (fun w' h => h.1) Tryz.underlying179 rfl (by rw [Tryz.infoDeed]; rfl) ?_; (try simp only [Act.put, List.setIfInBounds_toArray, List.set_cons_zero, List.set_cons_succ]))
          | (refine Lex.into (by rfl) (by rfl) _ _ rfl _ _ rfl _ _ (fun w' h => h.2) Tryz.underlying179 rfl (by rw [Tryz.infoDeed]; rfl) ?_; (try simp only [Act.put, List.setIfInBounds_toArray, List.set_cons_zero, List.set_cons_succ]))
          | (refine Lex.quiet (v := ?_) (by rfl) (by rfl) ?_ ?_; rotate_left; (focus (intro w' hS'; go_simp; try rfl)); (try simp only [Act.put, List.setIfInBounds_toArray, List.set_cons_zero, List.set_cons_succ])))
        refine Lex.done ?_
        refine Lex.ends ?_
        go_wp2_with fail
        go_ret
        exact ⟨by rw [HF.out]; rfl, R1.out⟩
      cases e2 : (x2 == y2)
      case false =>
        have HF := Lib.hid (HBD.out (by rw [← HD.out, e1, e2]; rfl))
        refine Lex.region [] [9] (by kernel_rfl) (by kernel_rfl) ?_
        refine Lex.opens (fun w' => At w' b1 (o1 + k * 2) [.int .i64 x1, .int .i64 x2] ∧ At w' b2 (o2 + k * 2) [.int .i64 y1, .int .i64 y2]) (⟨A1.out, A2.out⟩) ?_
        repeat (first
          | (refine Lex.skips (by rfl) ?_; (try simp only [Act.put, List.setIfInBounds_toArray, List.set_cons_zero, List.set_cons_succ]))
          | (refine Lex.into (by rfl) (by rfl) _ _ rfl _ _ rfl _ _ (fun w' h => h.1) Tryz.underlying179 rfl (by rw [Tryz.infoDeed]; rfl) ?_; (try simp only [Act.put, List.setIfInBounds_toArray, List.set_cons_zero, List.set_cons_succ]))
          | (refine Lex.into (by rfl) (by rfl) _ _ rfl _ _ rfl _ _ (fun w' h => h.2) Tryz.underlying179 rfl (by rw [Tryz.infoDeed]; rfl) ?_; (try simp only [Act.put, List.setIfInBounds_toArray, List.set_cons_zero, List.set_cons_succ]))
          | (refine Lex.quiet (v := ?_) (by rfl) (by rfl) ?_ ?_; rotate_left; (focus (intro w' hS'; go_simp; try rfl)); (try simp only [Act.put, List.setIfInBounds_toArray, List.set_cons_zero, List.set_cons_succ])))
        refine Lex.done ?_
        refine Lex.ends ?_
        go_wp2_with fail
        go_ret
        exact ⟨by rw [HF.out]; rfl, R1.out⟩
      case true =>
        have HF := Lib.hid (HTD.out (by rw [← HD.out, e1, e2]; rfl))
        refine Lex.region [] [9] (by kernel_rfl) (by kernel_rfl) ?_
        refine Lex.opens (fun w' => At w' b1 (o1 + k * 2) [.int .i64 x1, .int .i64 x2] ∧ At w' b2 (o2 + k * 2) [.int .i64 y1, .int .i64 y2]) (⟨A1.out, A2.out⟩) ?_
        repeat (first
          | (refine Lex.skips (by rfl) ?_; (try simp only [Act.put, List.setIfInBounds_toArray, List.set_cons_zero, List.set_cons_succ]))
          | (refine Lex.into (by rfl) (by rfl) _ _ rfl _ _ rfl _ _ (fun w' h => h.1) Tryz.underlying179 rfl (by rw [Tryz.infoDeed]; rfl) ?_; (try simp only [Act.put, List.setIfInBounds_toArray, List.set_cons_zero, List.set_cons_succ]))
          | (refine Lex.into (by rfl) (by rfl) _ _ rfl _ _ rfl _ _ (fun w' h => h.2) Tryz.underlying179 rfl (by rw [Tryz.infoDeed]; rfl) ?_; (try simp only [Act.put, List.setIfInBounds_toArray, List.set_cons_zero, List.set_cons_succ]))
          | (refine Lex.quiet (v := ?_) (by rfl) (by rfl) ?_ ?_; rotate_left; (focus (intro w' hS'; go_simp; try rfl)); (try simp only [Act.put, List.setIfInBounds_toArray, List.set_cons_zero, List.set_cons_succ])))
        refine Lex.done ?_
        refine Lex.ends ?_
        go_wp2_with fail
        go_roundw
        case rel => exact ⟨k + 1, by omega, by go_num, HF, R1⟩
        case measure => first | (simp [intOf]; done) | (simp [intOf]; omega)
    · obtain rfl : k = a.length := by omega
      have HF : Hid (decide (a = b) = true) := Lib.hid (by
        have h := hpre.out
        rw [List.take_length, ← HJL.out, List.take_length] at h
        exact decide_eq_true h)
      go_wp2_with fail
      go_ret
      exact ⟨by rw [HF.out]; rfl, hfr.out⟩

/-- begin one's deeds another one's? -/
def begD (a b : List Dd) : Bool := decide (a = b.take a.length)
set_option maxHeartbeats 4000000 in
theorem refbegins_ok (w : World) (u v : Value) (a b : List Dd) (k1 c1 k2 c2 : Int) (ha : Reads w u 2 a.length (deedsC a)) (hb : Reads w v 2 b.length (deedsC b)) (hl : a.length ≤ 1000000000) (hm : b.length ≤ 1000000000) :
    Calls Tryz.prog 155 #[.agg #[u, .int .i64 k1, .int .i64 c1], .agg #[v, .int .i64 k2, .int .i64 c2]] w fun e w' => e = .returned (.bool (begD a b)) ∧ Fr no w w' := by
  obtain ⟨ua, uc, rfl⟩ := ha.shape
  obtain ⟨va, vc, rfl⟩ := hb.shape
  have HO1 := Lib.hid (heap_new2 w (.cells #[.slice ua a.length uc, .int .i64 k1, .int .i64 c1] 99) (.cells #[.slice va b.length vc, .int .i64 k2, .int .i64 c2] 99))
  have HO2 := Lib.hid (heap_new2' w (.cells #[.slice ua a.length uc, .int .i64 k1, .int .i64 c1] 99) (.cells #[.slice va b.length vc, .int .i64 k2, .int .i64 c2] 99))
  have R0 := Lib.hid (((Fr.refl no w).alloc (.cells #[.slice ua a.length uc, .int .i64 k1, .int .i64 c1] 99)).alloc (.cells #[.slice va b.length vc, .int .i64 k2, .int .i64 c2] 99))
  have HA := Lib.hid (ha.fr R0.out (by simp))
  have HB := Lib.hid (hb.fr R0.out (by simp))
  clear ha hb
  unfold begD
  obtain ⟨c0, -, -⟩ := cells3 HO1.out
  obtain ⟨d0, -, -⟩ := cells3 HO2.out
  by_cases hab : b.length < a.length
  · have hab' : (b.length : Int) < a.length := by omega
    have HN : Hid (decide (a = b.take a.length) = false) := Lib.hid (decide_eq_false (fun e => by have := congrArg List.length e; rw [List.length_take] at this; omega))
    go_enter Tryz.func155, Tryz.ntmps155
    go_wp2_with fail
    go_ret
    exact ⟨by rw [HN.out]; rfl, R0.out⟩
  have hab' : ¬ (b.length : Int) < a.length := by omega
  go_enter Tryz.func155, Tryz.ntmps155
  go_wp2_with fail
  clear c0 d0
  generalize (w.alloc (.cells #[.slice ua a.length uc, .int .i64 k1, .int .i64 c1] 99)).alloc (.cells #[.slice va b.length vc, .int .i64 k2, .int .i64 c2] 99) = w1 at *
  go_loopw [5] (fun x wr => ∃ k : Nat, k ≤ a.length ∧ x = .int .i64 k ∧ Hid (a.take k = b.take k) ∧ Hid (Fr no w1 wr)) (fun x _ => (a.length - intOf x).toNat)
  case atStart => exact ⟨0, by omega, rfl, Lib.hid rfl, Lib.hid (Fr.refl _ _)⟩
  case round =>
    obtain ⟨k, hk, rfl, hpre, hfr⟩ := hrel
    obtain ⟨c0, -, -⟩ := cells3 (hfr.out.heap HO1.out (by simp))
    obtain ⟨d0, -, -⟩ := cells3 (hfr.out.heap HO2.out (by simp))
    by_cases hks : k < a.length
    · have hks' : (k : Int) < a.length := by omega
      have hkb : k < b.length := by omega
      have hkb' : (k : Int) < b.length := by omega
      have rd := hfr.out.trans (Fr.refl no wr).drew
      obtain ⟨e0, -, -⟩ := cells3 (rd.heap HO1.out (by simp))
      obtain ⟨f0, -, -⟩ := cells3 (rd.heap HO2.out (by simp))
      obtain ⟨b1, o1, rfl, h1⟩ := reads_elem (HA.out.fr rd (by simp)) (by decide) hks
      obtain ⟨b2, o2, rfl, h2⟩ := reads_elem (HB.out.fr rd (by simp)) (by decide) hkb
      rw [deedsC_at a k hks] at h1
      rw [deedsC_at b k hkb] at h2
      have HD : Hid ((a[k] == b[k]) = decide (a.take (k + 1) = b.take (k + 1))) := Lib.hid (by
        rw [List.take_succ_eq_append_getElem hks, List.take_succ_eq_append_getElem hkb, hpre.out]
        rw [Bool.eq_iff_iff, beq_iff_eq, decide_eq_true_eq]
        exact ⟨fun h => by rw [h], fun h => by have := List.append_inj_right' h rfl; injection this⟩)
      have HBD : Hid (decide (a.take (k + 1) = b.take (k + 1)) = false → decide (a = b.take a.length) = false) := Lib.hid (fun h => decide_eq_false (fun e => by
        have h2 : a.take (k + 1) ≠ b.take (k + 1) := of_decide_eq_false h
        exact h2 (by rw [e, List.take_take, Nat.min_eq_left (by omega)])))
      have HTD : Hid (decide (a.take (k + 1) = b.take (k + 1)) = true → a.take (k + 1) = b.take (k + 1)) := Lib.hid (fun h => by simpa using h)
      have A1 := Lib.hid h1
      have A2 := Lib.hid h2
      have R1 := Lib.hid rd
      clear h1 h2 rd
      generalize a[k] = x at *
      generalize b[k] = y at *
      obtain ⟨x1, x2⟩ := x
      obtain ⟨y1, y2⟩ := y
      dsimp only at A1 A2
      have HXY : Hid (((x1, x2) == (y1, y2)) = ((x1 == y1) && (x2 == y2))) := Lib.hid rfl
      rw [HXY.out] at HD
      go_wp2_with fail
      cases e1 : (x1 == y1)
      case false =>
        have e2 : (x1 != y1) = true := by rw [bne, e1]; rfl
        have HF := Lib.hid (HBD.out (by rw [← HD.out, e1]; rfl))
        refine Lex.region [] [11] (by kernel_rfl) (by kernel_rfl) ?_
        refine Lex.opens (fun w' => At w' b1 (o1 + k * 2) [.int .i64 x1, .int .i64 x2] ∧ At w' b2 (o2 + k * 2) [.int .i64 y1, .int .i64 y2] ∧ w'.cell? ⟨w.heap.size, 0, none⟩ = some (.slice (some ⟨b1, o1, none⟩) a.length uc) ∧ w'.cell? ⟨w.heap.size + 1, 0, none⟩ = some (.slice (some ⟨b2, o2, none⟩) b.length vc)) (⟨A1.out, A2.out, e0, f0⟩) ?_
        repeat (first
          | (refine Lex.skips (by rfl) ?_; (try simp only [Act.put, List.setIfInBounds_toArray, List.set_cons_zero, List.set_cons_succ]))
          | (refine Lex.into (by rfl) (by rfl) _ _ rfl _ _ rfl _ _ (fun w' h => h.1) Tryz.underlying179 rfl (by rw [Tryz.infoDeed]; rfl) ?_; (try simp only [Act.put, List.setIfInBounds_toArray, List.set_cons_zero, List.set_cons_succ]))
          | (refine Lex.into (by rfl) (by rfl) _ _ rfl _ _ rfl _ _ (fun w' h => h.2.1) Tryz.underlying179 rfl (by rw [Tryz.infoDeed]; rfl) ?_; (try simp only [Act.put, List.setIfInBounds_toArray, List.set_cons_zero, List.set_cons_succ]))
          | (refine Lex.quiet (v := ?_) (by rfl) (by rfl) ?_ ?_; rotate_left; (focus (intro w' hS'; go_simp; try rfl)); (try simp only [Act.put, List.setIfInBounds_toArray, List.set_cons_zero, List.set_cons_succ])))
        refine Lex.done ?_
        refine Lex.ends ?_
        go_wp2_with fail
        go_ret
        exact ⟨by rw [HF.out]; rfl, R0.out.trans R1.out⟩
      cases e2 : (x2 == y2)
      case false =>
        have HF := Lib.hid (HBD.out (by rw [← HD.out, e1, e2]; rfl))
        refine Lex.region [] [11] (by kernel_rfl) (by kernel_rfl) ?_
        refine Lex.opens (fun w' => At w' b1 (o1 + k * 2) [.int .i64 x1, .int .i64 x2] ∧ At w' b2 (o2 + k * 2) [.int .i64 y1, .int .i64 y2] ∧ w'.cell? ⟨w.heap.size, 0, none⟩ = some (.slice (some ⟨b1, o1, none⟩) a.length uc) ∧ w'.cell? ⟨w.heap.size + 1, 0, none⟩ = some (.slice (some ⟨b2, o2, none⟩) b.length vc)) (⟨A1.out, A2.out, e0, f0⟩) ?_
        repeat (first
          | (refine Lex.skips (by rfl) ?_; (try simp only [Act.put, List.setIfInBounds_toArray, List.set_cons_zero, List.set_cons_succ]))
          | (refine Lex.into (by rfl) (by rfl) _ _ rfl _ _ rfl _ _ (fun w' h => h.1) Tryz.underlying179 rfl (by rw [Tryz.infoDeed]; rfl) ?_; (try simp only [Act.put, List.setIfInBounds_toArray, List.set_cons_zero, List.set_cons_succ]))
          | (refine Lex.into (by rfl) (by rfl) _ _ rfl _ _ rfl _ _ (fun w' h => h.2.1) Tryz.underlying179 rfl (by rw [Tryz.infoDeed]; rfl) ?_; (try simp only [Act.put, List.setIfInBounds_toArray, List.set_cons_zero, List.set_cons_succ]))
          | (refine Lex.quiet (v := ?_) (by rfl) (by rfl) ?_ ?_; rotate_left; (focus (intro w' hS'; go_simp; try rfl)); (try simp only [Act.put, List.setIfInBounds_toArray, List.set_cons_zero, List.set_cons_succ])))
        refine Lex.done ?_
        refine Lex.ends ?_
        go_wp2_with fail
        go_ret
        exact ⟨by rw [HF.out]; rfl, R0.out.trans R1.out⟩
      case true =>
        have HF := Lib.hid (HTD.out (by rw [← HD.out, e1, e2]; rfl))
        refine Lex.region [] [11] (by kernel_rfl) (by kernel_rfl) ?_
        refine Lex.opens (fun w' => At w' b1 (o1 + k * 2) [.int .i64 x1, .int .i64 x2] ∧ At w' b2 (o2 + k * 2) [.int .i64 y1, .int .i64 y2] ∧ w'.cell? ⟨w.heap.size, 0, none⟩ = some (.slice (some ⟨b1, o1, none⟩) a.length uc) ∧ w'.cell? ⟨w.heap.size + 1, 0, none⟩ = some (.slice (some ⟨b2, o2, none⟩) b.length vc)) (⟨A1.out, A2.out, e0, f0⟩) ?_
        repeat (first
          | (refine Lex.skips (by rfl) ?_; (try simp only [Act.put, List.setIfInBounds_toArray, List.set_cons_zero, List.set_cons_succ]))
          | (refine Lex.into (by rfl) (by rfl) _ _ rfl _ _ rfl _ _ (fun w' h => h.1) Tryz.underlying179 rfl (by rw [Tryz.infoDeed]; rfl) ?_; (try simp only [Act.put, List.setIfInBounds_toArray, List.set_cons_zero, List.set_cons_succ]))
          | (refine Lex.into (by rfl) (by rfl) _ _ rfl _ _ rfl _ _ (fun w' h => h.2.1) Tryz.underlying179 rfl (by rw [Tryz.infoDeed]; rfl) ?_; (try simp only [Act.put, List.setIfInBounds_toArray, List.set_cons_zero, List.set_cons_succ]))
          | (refine Lex.quiet (v := ?_) (by rfl) (by rfl) ?_ ?_; rotate_left; (focus (intro w' hS'; go_simp; try rfl)); (try simp only [Act.put, List.setIfInBounds_toArray, List.set_cons_zero, List.set_cons_succ])))
        refine Lex.done ?_
        refine Lex.ends ?_
        go_wp2_with fail
        go_roundw
        case rel => exact ⟨k + 1, by omega, by go_num, HF, R1⟩
        case measure => first | (simp [intOf]; done) | (simp [intOf]; omega)
    · obtain rfl : k = a.length := by omega
      have HF : Hid (decide (a = b.take a.length) = true) := Lib.hid (by
        have h := hpre.out
        rw [List.take_length] at h
        exact decide_eq_true h)
      go_wp2_with fail
      go_ret
      exact ⟨by rw [HF.out]; rfl, R0.out.trans hfr.out⟩

end Go.Proofs.YtihnkijeefkefaaGreat

namespace Go.Proofs.YtihnkijeefkefaaGreat
open Go.RowKit

attribute [local go_sem] Program.isFuncB Program.isSliceB

variable {w w' w'' w0 : World}

/-- are two outcomes the same? -/
def sameO (a b : List Dd) (e f : Dd) : Bool := decide (e = f) && decide (a = b)
theorem ends_eq (k1 c1 k2 c2 : Int) : decide (((k1, c1) : Dd) = (k2, c2)) = ((k1 == k2) && (c1 == c2)) := by
  rw [Bool.eq_iff_iff]; simp

set_option maxHeartbeats 4000000 in
theorem sameo_ok (w : World) (u v : Value) (a b : List Dd) (k1 c1 k2 c2 : Int) (ha : Reads w u 2 a.length (deedsC a)) (hb : Reads w v 2 b.length (deedsC b)) (hl : a.length ≤ 1000000000) (hm : b.length ≤ 1000000000) :
    Calls Tryz.prog 95 #[.agg #[u, .int .i64 k1, .int .i64 c1], .agg #[v, .int .i64 k2, .int .i64 c2]] w fun e w' => e = .returned (.bool (sameO a b (k1, c1) (k2, c2))) ∧ Fr no w w' := by
  obtain ⟨ua, uc, rfl⟩ := ha.shape
  obtain ⟨va, vc, rfl⟩ := hb.shape
  have HO1 := Lib.hid (heap_new2 w (.cells #[.slice ua a.length uc, .int .i64 k1, .int .i64 c1] 99) (.cells #[.slice va b.length vc, .int .i64 k2, .int .i64 c2] 99))
  have HO2 := Lib.hid (heap_new2' w (.cells #[.slice ua a.length uc, .int .i64 k1, .int .i64 c1] 99) (.cells #[.slice va b.length vc, .int .i64 k2, .int .i64 c2] 99))
  have R0 := Lib.hid (((Fr.refl no w).alloc (.cells #[.slice ua a.length uc, .int .i64 k1, .int .i64 c1] 99)).alloc (.cells #[.slice va b.length vc, .int .i64 k2, .int .i64 c2] 99))
  have EQ := Lib.hid (equal_ok _ _ _ a b (ha.fr R0.out (by simp)) (hb.fr R0.out (by simp)) hl hm)
  have HS : Hid (sameO a b (k1, c1) (k2, c2) = (((k1 == k2) && (c1 == c2)) && decide (a = b))) := Lib.hid (by unfold sameO; rw [ends_eq])
  obtain ⟨x0, x1, x2⟩ := cells3 HO1.out
  obtain ⟨y0, y1, y2⟩ := cells3 HO2.out
  clear ha hb
  generalize decide (a = b) = q at *
  cases e1 : (k1 == k2)
  case false =>
    go_enter Tryz.func95, Tryz.ntmps95
    go_wp2_with fail
    go_ret
    exact ⟨by rw [HS.out, e1]; rfl, R0.out⟩
  cases e2 : (c1 == c2)
  case false =>
    go_enter Tryz.func95, Tryz.ntmps95
    go_wp2_with fail
    go_ret
    exact ⟨by rw [HS.out, e1, e2]; rfl, R0.out⟩
  rw [e1, e2] at HS
  go_enter Tryz.func95, Tryz.ntmps95
  go_wp2_with fail
  refine EQ.out.mono ?_
  rintro e w1 ⟨rfl, r1⟩
  have R1 := Lib.hid (R0.out.trans r1)
  clear r1 x0 x1 x2 y0 y1 y2
  go_wp2_with fail
  go_ret
  exact ⟨by rw [HS.out]; rfl, R1.out⟩

set_option maxHeartbeats 4000000 in
theorem refsameo_ok (w : World) (u v : Value) (a b : List Dd) (k1 c1 k2 c2 : Int) (ha : Reads w u 2 a.length (deedsC a)) (hb : Reads w v 2 b.length (deedsC b)) (hl : a.length ≤ 1000000000) (hm : b.length ≤ 1000000000) :
    Calls Tryz.prog 100 #[.agg #[u, .int .i64 k1, .int .i64 c1], .agg #[v, .int .i64 k2, .int .i64 c2]] w fun e w' => e = .returned (.bool (sameO a b (k1, c1) (k2, c2))) ∧ Fr no w w' := by
  obtain ⟨ua, uc, rfl⟩ := ha.shape
  obtain ⟨va, vc, rfl⟩ := hb.shape
  have HO1 := Lib.hid (heap_new2 w (.cells #[.slice ua a.length uc, .int .i64 k1, .int .i64 c1] 99) (.cells #[.slice va b.length vc, .int .i64 k2, .int .i64 c2] 99))
  have HO2 := Lib.hid (heap_new2' w (.cells #[.slice ua a.length uc, .int .i64 k1, .int .i64 c1] 99) (.cells #[.slice va b.length vc, .int .i64 k2, .int .i64 c2] 99))
  have R0 := Lib.hid (((Fr.refl no w).alloc (.cells #[.slice ua a.length uc, .int .i64 k1, .int .i64 c1] 99)).alloc (.cells #[.slice va b.length vc, .int .i64 k2, .int .i64 c2] 99))
  have EQ := Lib.hid (refbegins_ok _ _ _ a b k1 c1 k2 c2 (ha.fr R0.out (by simp)) (hb.fr R0.out (by simp)) hl hm)
  have HS : Hid (sameO a b (k1, c1) (k2, c2) = (((k1 == k2) && (c1 == c2)) && (((a.length : Int) == b.length) && begD a b))) := Lib.hid (by
    unfold sameO
    rw [ends_eq]
    congr 1
    unfold begD
    rw [Bool.eq_iff_iff]
    simp only [Bool.and_eq_true, decide_eq_true_eq, beq_iff_eq]
    constructor
    · rintro rfl; simp
    · rintro ⟨h1, h2⟩
      rw [List.take_of_length_le (by omega)] at h2
      exact h2)
  obtain ⟨x0, x1, x2⟩ := cells3 HO1.out
  obtain ⟨y0, y1, y2⟩ := cells3 HO2.out
  clear ha hb
  generalize begD a b = q at *
  cases e1 : (k1 == k2)
  case false =>
    go_enter Tryz.func100, Tryz.ntmps100
    go_wp2_with fail
    go_ret
    exact ⟨by rw [HS.out, e1]; rfl, R0.out⟩
  cases e2 : (c1 == c2)
  case false =>
    go_enter Tryz.func100, Tryz.ntmps100
    go_wp2_with fail
    go_ret
    exact ⟨by rw [HS.out, e1, e2]; rfl, R0.out⟩
  cases e3 : ((a.length : Int) == (b.length : Int))
  case false =>
    go_enter Tryz.func100, Tryz.ntmps100
    go_wp2_with fail
    go_ret
    exact ⟨by rw [HS.out, e1, e2, e3]; rfl, R0.out⟩
  rw [e1, e2, e3] at HS
  go_enter Tryz.func100, Tryz.ntmps100
  go_wp2_with fail
  refine EQ.out.mono ?_
  rintro e w1 ⟨rfl, r1⟩
  have R1 := Lib.hid (R0.out.trans r1)
  clear r1 x0 x1 x2 y0 y1 y2
  go_wp2_with fail
  go_ret
  exact ⟨by rw [HS.out]; rfl, R1.out⟩

end Go.Proofs.YtihnkijeefkefaaGreat

namespace Go.Proofs.YtihnkijeefkefaaGreat
open Go.RowKit Go.Shelf

attribute [local go_sem] Program.isFuncB Program.isSliceB

variable {w w' w'' w0 : World}

theorem all_nil (w : World) : Calls Tryz.prog 160 #[.slice none 0 0] w fun e w' => e = .returned (.func (.func 180) #[] #[.pointer (some ⟨w.heap.size, 0, none⟩)]) ∧ w.alloc (.cells #[.slice none 0 0] 186) = w' := by
  go_enter Tryz.func160, Tryz.ntmps160
  go_wp2_with fail
  go_ret
  exact ⟨rfl, rfl⟩

set_option maxHeartbeats 1000000 in
/-- the iterator over no deeds hands nothing on -/
theorem all_stops_nil (n : Nat) (hn : 1 ≤ n) (lb n₀ : Nat) (w0 : World) (hlb : lb < w0.heap.size) (hc : w0.cell? ⟨lb, 0, none⟩ = some (.slice none 0 0)) :
    SeqStopsK Fence.wide n Tryz.prog 180 #[.pointer (some ⟨lb, 0, none⟩)] (fun (x : Empty) => x.elim) (Below n₀) (fun xs => xs = []) (fun _ => False) 0 w0 := fun l J Jx W hW hJ hJx hY h0 => by
  have hcW : W.cell? ⟨lb, 0, none⟩ = some (.slice none 0 0) := (hW.cell (p := ⟨lb, 0, none⟩) hlb).trans hc
  refine callsIn_of_wp Tryz.func180 rfl trivial ?_ rfl
  simp only [Tryz.ntmps180, List.size_toArray, List.length_cons, List.length_nil, Nat.reduceAdd, Nat.reduceSub, Array.replicate_succ, Array.replicate_zero, List.push_toArray, List.append_toArray, List.nil_append, List.cons_append]
  gi_wp2
  gi_loopw [8] (fun p wr => p = .int .i64 0 ∧ wr = W) (fun _ _ => 0)
  case atStart => exact ⟨rfl, rfl⟩
  case round =>
    obtain ⟨rfl, rfl⟩ := hrel
    gi_wp2
    go_end0
    exact ⟨⟨_, rfl⟩, .inl ⟨[], rfl, h0⟩⟩

end Go.Proofs.YtihnkijeefkefaaGreat

namespace Go.Proofs.YtihnkijeefkefaaGreat
open Go.RowKit Go.Shelf

attribute [local go_sem] Program.isFuncB Program.isSliceB

variable {w w' w'' w0 : World}

theorem fr_of_below (h : Below w.heap.size w w') : Fr no w w' := Fr.of_below h

/-- an ending that may not be -/
theorem check_badend (w : World) (k c : Int) (h : mayE (k, c) = false) : Calls Tryz.prog 104 #[.agg #[.slice none 0 0, .int .i64 k, .int .i64 c]] w fun e w' => e = .returned (.int .i64 2) ∧ Fr no w w' := by
  have HO := Lib.hid (heap_new2 w (.cells #[.slice none 0 0, .int .i64 k, .int .i64 c] 99) (.cells #[.int .i64 0] 31))
  have HR := Lib.hid (heap_new2' w (.cells #[.slice none 0 0, .int .i64 k, .int .i64 c] 99) (.cells #[.int .i64 0] 31))
  have R0 := Lib.hid (((Fr.refl no w).alloc (.cells #[.slice none 0 0, .int .i64 k, .int .i64 c] 99)).alloc (.cells #[.int .i64 0] 31))
  have EN := ending_ok ((w.alloc (.cells #[.slice none 0 0, .int .i64 k, .int .i64 c] 99)).alloc (.cells #[.int .i64 0] 31)) k c
  rw [h] at EN
  have EN2 := Lib.hid EN
  clear h EN
  obtain ⟨x0, x1, x2⟩ := cells3 HO.out
  go_enter Tryz.func104, Tryz.ntmps104
  go_wp2_with fail
  refine EN2.out.mono ?_
  rintro e w1 ⟨rfl, r1⟩
  have R1 := Lib.hid (R0.out.trans r1)
  have HR1 := Lib.hid (r1.heap HR.out (by simp))
  clear r1 x0 x1 x2
  have y0 : w1.cell? ⟨w.heap.size + 1, 0, none⟩ = some (.int .i64 0) := cell_of_heap HR1.out rfl
  have y1 : w1.frozen? ⟨w.heap.size + 1, 0, none⟩ = false := frozen_of_heap HR1.out
  go_wp2_with fail
  have HR2 := heap_setCell (o := 0) (v := .int .i64 2) HR1.out
  have z0 : (w1.setCell ⟨w.heap.size + 1, 0, none⟩ (.int .i64 2)).cell? ⟨w.heap.size + 1, 0, none⟩ = some (.int .i64 2) := cell_of_heap HR2 rfl
  exact bodyPost_ret (v := .int .i64 2) (by simp [results, Tryz.f104, go_sem, z0]) rfl ⟨rfl, R1.out.setCell _ _ (.inr (by simp))⟩

attribute [local go_sem] Oper.semAt_some

set_option maxRecDepth 100000 in
set_option maxHeartbeats 4000000 in
/-- no deeds, and an ending that may be -/
theorem check_nil (w : World) (k c : Int) (h : mayE (k, c) = true) : Calls Tryz.prog 104 #[.agg #[.slice none 0 0, .int .i64 k, .int .i64 c]] w fun e w' => e = .returned (.int .i64 0) ∧ Fr no w w' := by
  have HO := Lib.hid (heap_new2 w (.cells #[.slice none 0 0, .int .i64 k, .int .i64 c] 99) (.cells #[.int .i64 0] 31))
  have HR := Lib.hid (heap_new2' w (.cells #[.slice none 0 0, .int .i64 k, .int .i64 c] 99) (.cells #[.int .i64 0] 31))
  have R0 := Lib.hid (((Fr.refl no w).alloc (.cells #[.slice none 0 0, .int .i64 k, .int .i64 c] 99)).alloc (.cells #[.int .i64 0] 31))
  have EN := ending_ok ((w.alloc (.cells #[.slice none 0 0, .int .i64 k, .int .i64 c] 99)).alloc (.cells #[.int .i64 0] 31)) k c
  rw [h] at EN
  have EN2 := Lib.hid EN
  clear h EN
  obtain ⟨x0, x1, x2⟩ := cells3 HO.out
  refine (callsIn_wide (n := 3)).1 ?_
  refine callsIn_of_wp_marks Tryz.func104 rfl trivial ?_ rfl
  simp only [Tryz.ntmps104, List.size_toArray, List.length_cons, List.length_nil, Nat.reduceAdd, Nat.reduceSub, Array.replicate_succ, Array.replicate_zero, List.push_toArray, List.append_toArray, List.nil_append, List.cons_append]
  gi_wp2_with fail
  refine ⟨trivial, ?_⟩
  refine (callsIn_wide.2 EN2.out).mono ?_
  rintro e w1 ⟨rfl, r1⟩
  have R1 := Lib.hid (R0.out.trans r1)
  have HR1 := Lib.hid (r1.heap HR.out (by simp))
  have HO1 := Lib.hid (r1.heap HO.out (by simp))
  clear r1 x0 x1 x2
  obtain ⟨x0, x1, x2⟩ := cells3 HO1.out
  gi_wp2_with fail
  refine ⟨trivial, ?_⟩
  refine (callsIn_wide.2 (all_nil w1)).mono ?_
  rintro e w2 ⟨rfl, rfl⟩
  gi_wp2_with fail
  have HB0 : Hid (Below w.heap.size w (w1.alloc (.cells #[.slice none 0 0] 186))) := Lib.hid ((R1.out.below (Nat.le_refl _) (fun k hk => hk.elim)).alloc R1.out.size _)
  have rn := (Fr.refl no w1).alloc (.cells #[.slice none 0 0] 186)
  have HR2 := Lib.hid (rn.heap HR1.out (by simp))
  have hsz : w.heap.size ≤ w1.heap.size := R1.out.size
  have hnew : (w1.alloc (.cells #[.slice none 0 0] 186)).cell? ⟨w1.heap.size, 0, none⟩ = some (.slice none 0 0) := cell_of_heap (heap_new w1 _) rfl
  clear rn x0 x1 x2
  refine wpIn_rangeFunc_ownF (α := Empty) rfl (by omega) (gf := 180) (lb := #[.pointer (some ⟨w1.heap.size, 0, none⟩)]) rfl trivial (enters_of Tryz.func180 (by kernel_rfl) rfl)
    (all_stops_nil 2 (by omega) w1.heap.size w.heap.size _ (by simp) hnew) belowK_t (belowK_b (by simp; omega)) (Below.refl _ _) (fun x => x.elim)
    (fun _ W => (W.cell? ⟨w.heap.size + 1, 0, none⟩ = some (.int .i64 0) ∧ W.frozen? ⟨w.heap.size + 1, 0, none⟩ = false) ∧ Below w.heap.size w W)
    (fun _ _ _ => False)
    (OwnFrom.and (Own.from (fun s A B row hs hg hr => ⟨cell_kept hs.1 hg hr, (frozen_kept hs.1 hg hr).trans hs.2⟩) _) (ownFrom_below (Nat.le_refl _) (by simp; omega)))
    (fun _ _ _ _ _ hs _ _ => hs)
    ⟨⟨cell_of_heap HR2.out rfl, frozen_of_heap HR2.out⟩, HB0.out⟩
    (fun x => x.elim) ?assign ?body ?done ?stop
  case assign => intro l x; exact x.elim
  case body => intro l pre x; exact x.elim
  case done =>
    rintro D ys W hD rfl ⟨⟨hc, hf⟩, hB⟩ hK
    gi_wp2
    have hK' := (KeepsOthers.setCell W ⟨w.heap.size + 1, 0, none⟩ (.int .i64 0)).same D _ hK rfl
    refine ⟨by simp, .inl ⟨_, _, rfl, run_takeDeferred hK', ?_⟩⟩
    have hc5 := cell_kept (World.cell?_setCell_same' W ⟨w.heap.size + 1, 0, none⟩ (.int .i64 0) (by rw [hc]; rfl)) (grownBy_putObj' _ D (.deferred none)) (fun r e => by cases e; exact ⟨_, hK', rfl⟩)
    refine ⟨.int .i64 0, ?_, rfl, fr_of_below ((hB.setCell (p := ⟨w.heap.size + 1, 0, none⟩) (by simp) _).trans (belowK_b (w := w) (Nat.le_refl _) _ D _ _ (by simp at hD; omega) hK' rfl rfl))⟩
    simp [results, Tryz.f104, go_sem, hc5]
  case stop =>
    rintro D c pre W _ _ h _
    exact h.elim

end Go.Proofs.YtihnkijeefkefaaGreat

namespace Go.Proofs.YtihnkijeefkefaaGreat
open Go.RowKit

attribute [local go_sem] Program.isFuncB Program.isSliceB

variable {w w' w'' w0 : World}

end Go.Proofs.YtihnkijeefkefaaGreat

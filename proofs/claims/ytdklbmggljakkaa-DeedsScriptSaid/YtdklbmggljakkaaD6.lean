import Derived.Test.YtdklbmggljakkaaD5
set_option linter.unusedSimpArgs false
set_option linter.unusedVariables false
set_option linter.unusedSectionVars false
set_option linter.unnecessarySimpa false
namespace Go.Proofs.Ytdklbmggljakkaa
open Go.RowKit

attribute [local go_sem] Program.isFuncB Program.isSliceB

variable {w w' w'' w0 : World}

set_option maxHeartbeats 4000000 in
/-- are two lists of deeds equal? -/
theorem equal_ok (w : World) (u v : Value) (a b : List Dd) (ha : Reads w u 2 a.length (deedsC a)) (hb : Reads w v 2 b.length (deedsC b)) (hl : a.length ≤ 1000000000) (hm : b.length ≤ 1000000000) :
    Calls Try.prog 51 #[u, v] w fun e w' => e = .returned (.bool (decide (a = b))) ∧ Fr no w w' := by
  obtain ⟨ua, uc, rfl⟩ := ha.shape
  obtain ⟨va, vc, rfl⟩ := hb.shape
  by_cases hab : a.length = b.length
  case neg =>
    have HN : Hid (decide (a = b) = false) := Lib.hid (decide_eq_false (fun e => hab (by rw [e])))
    have e1 : ((a.length : Int) != (b.length : Int)) = true := by rw [bne_iff_ne]; omega
    clear hab ha hb
    go_enter Try.func51, Try.ntmps51
    go_wp2_with fail
    go_ret
    exact ⟨by rw [HN.out]; rfl, Fr.refl _ _⟩
  have HA := Lib.hid ha
  have HB := Lib.hid hb
  clear ha hb
  generalize hmm : b.length = mm at *
  obtain rfl : mm = a.length := by omega
  have HJL := Lib.hid hmm
  clear hmm hab
  go_enter Try.func51, Try.ntmps51
  go_wp2_with fail
  go_loopw [13] (fun x wr => ∃ k : Nat, k ≤ a.length ∧ x = .int .i64 k ∧ Hid (a.take k = b.take k) ∧ Hid (Fr no w wr)) (fun x _ => (a.length - intOf x).toNat)
  case atStart => exact ⟨0, by omega, rfl, Lib.hid rfl, Lib.hid (Fr.refl _ _)⟩
  case round =>
    obtain ⟨k, hk, rfl, hpre, hfr⟩ := hrel
    by_cases hks : k < a.length
    · have hks' : (k : Int) < a.length := by omega
      have hkb : k < b.length := by have := HJL.out; omega
      have rd := hfr.out.trans (Fr.refl no wr).drew
      obtain ⟨b1, o1, rfl, h1⟩ := reads_elem (HA.out.fr rd (by simp)) (by decide) hks
      obtain ⟨b2, o2, rfl, h2⟩ := reads_elem (HB.out.fr rd (by simp)) (by decide) hks
      rw [deedsC_at a k hks] at h1
      rw [deedsC_at b k hkb] at h2
      have HD : Hid ((a[k] == b[k]) = decide (a.take (k + 1) = b.take (k + 1))) := Lib.hid (by
        rw [List.take_succ_eq_append_getElem hks, List.take_succ_eq_append_getElem hkb, hpre.out]
        rw [Bool.eq_iff_iff, beq_iff_eq, decide_eq_true_eq]
        exact ⟨fun h => by rw [h], fun h => by have := List.append_inj_right' h rfl; injection this⟩)
      have HBD : Hid (decide (a.take (k + 1) = b.take (k + 1)) = false → decide (a = b) = false) := Lib.hid (fun h => decide_eq_false (fun e => by
        have h2 : a.take (k + 1) ≠ b.take (k + 1) := of_decide_eq_false h
        exact h2 (by rw [e])))
      have HTD : Hid (decide (a.take (k + 1) = b.take (k + 1)) = true → a.take (k + 1) = b.take (k + 1)) := Lib.hid (fun h => by simpa using h)
      have A1 := Lib.hid h1
      have A2 := Lib.hid h2
      have R1 := Lib.hid rd
      clear h1 h2 rd
      generalize a[k] = x at *
      generalize b[k] = y at *
      obtain ⟨x1, x2⟩ := x
      obtain ⟨y1, y2⟩ := y
      dsimp only at A1 A2
      have HXY : Hid (((x1, x2) == (y1, y2)) = ((x1 == y1) && (x2 == y2))) := Lib.hid rfl
      rw [HXY.out] at HD
      go_wp2_with fail
      cases e1 : (x1 == y1)
      case false =>
        have e2 : (x1 != y1) = true := by rw [bne, e1]; rfl
        have HF := Lib.hid (HBD.out (by rw [← HD.out, e1]; rfl))
        refine Lex.region [] [9] (by kernel_rfl) (by kernel_rfl) ?_
        refine Lex.opens (fun w' => At w' b1 (o1 + k * 2) [.int .i64 x1, .int .i64 x2] ∧ At w' b2 (o2 + k * 2) [.int .i64 y1, .int .i64 y2]) (⟨A1.out, A2.out⟩) ?_
        repeat (first
          | (refine Lex.skips (by rfl) ?_; (try simp only [Act.put, List.setIfInBounds_toArray, List.set_cons_zero, List.set_cons_succ]))
          | (refine Lex.into (by rfl) (by rfl) _ _ rfl _ _ rfl _ _ (fun w' h => h.1) Try.underlying59 rfl (by rw [Try.infoDeed]; rfl) ?_; (try simp only [Act.put, List.setIfInBounds_toArray, List.set_cons_zero, List.set_cons_succ]))
          | (refine Lex.into (by rfl) (by rfl) _ _ rfl _ _ rfl _ _ (fun w' h => h.2) Try.underlying59 rfl (by rw [Try.infoDeed]; rfl) ?_; (try simp only [Act.put, List.setIfInBounds_toArray, List.set_cons_zero, List.set_cons_succ]))
          | (refine Lex.quiet (v := ?_) (by rfl) (by rfl) ?_ ?_; rotate_left; (focus (intro w' hS'; go_simp; try rfl)); (try simp only [Act.put, List.setIfInBounds_toArray, List.set_cons_zero, List.set_cons_succ])))
        refine Lex.done ?_
        refine Lex.ends ?_
        go_wp2_with fail
        go_ret
        exact ⟨by rw [HF.out]; rfl, R1.out⟩
      cases e2 : (x2 == y2)
      case false =>
        have HF := Lib.hid (HBD.out (by rw [← HD.out, e1, e2]; rfl))
        refine Lex.region [] [9] (by kernel_rfl) (by kernel_rfl) ?_
        refine Lex.opens (fun w' => At w' b1 (o1 + k * 2) [.int .i64 x1, .int .i64 x2] ∧ At w' b2 (o2 + k * 2) [.int .i64 y1, .int .i64 y2]) (⟨A1.out, A2.out⟩) ?_
        repeat (first
          | (refine Lex.skips (by rfl) ?_; (try simp only [Act.put, List.setIfInBounds_toArray, List.set_cons_zero, List.set_cons_succ]))
          | (refine Lex.into (by rfl) (by rfl) _ _ rfl _ _ rfl _ _ (fun w' h => h.1) Try.underlying59 rfl (by rw [Try.infoDeed]; rfl) ?_; (try simp only [Act.put, List.setIfInBounds_toArray, List.set_cons_zero, List.set_cons_succ]))
          | (refine Lex.into (by rfl) (by rfl) _ _ rfl _ _ rfl _ _ (fun w' h => h.2) Try.underlying59 rfl (by rw [Try.infoDeed]; rfl) ?_; (try simp only [Act.put, List.setIfInBounds_toArray, List.set_cons_zero, List.set_cons_succ]))
          | (refine Lex.quiet (v := ?_) (by rfl) (by rfl) ?_ ?_; rotate_left; (focus (intro w' hS'; go_simp; try rfl)); (try simp only [Act.put, List.setIfInBounds_toArray, List.set_cons_zero, List.set_cons_succ])))
        refine Lex.done ?_
        refine Lex.ends ?_
        go_wp2_with fail
        go_ret
        exact ⟨by rw [HF.out]; rfl, R1.out⟩
      case true =>
        have HF := Lib.hid (HTD.out (by rw [← HD.out, e1, e2]; rfl))
        refine Lex.region [] [9] (by kernel_rfl) (by kernel_rfl) ?_
        refine Lex.opens (fun w' => At w' b1 (o1 + k * 2) [.int .i64 x1, .int .i64 x2] ∧ At w' b2 (o2 + k * 2) [.int .i64 y1, .int .i64 y2]) (⟨A1.out, A2.out⟩) ?_
        repeat (first
          | (refine Lex.skips (by rfl) ?_; (try simp only [Act.put, List.setIfInBounds_toArray, List.set_cons_zero, List.set_cons_succ]))
          | (refine Lex.into (by rfl) (by rfl) _ _ rfl _ _ rfl _ _ (fun w' h => h.1) Try.underlying59 rfl (by rw [Try.infoDeed]; rfl) ?_; (try simp only [Act.put, List.setIfInBounds_toArray, List.set_cons_zero, List.set_cons_succ]))
          | (refine Lex.into (by rfl) (by rfl) _ _ rfl _ _ rfl _ _ (fun w' h => h.2) Try.underlying59 rfl (by rw [Try.infoDeed]; rfl) ?_; (try simp only [Act.put, List.setIfInBounds_toArray, List.set_cons_zero, List.set_cons_succ]))
          | (refine Lex.quiet (v := ?_) (by rfl) (by rfl) ?_ ?_; rotate_left; (focus (intro w' hS'; go_simp; try rfl)); (try simp only [Act.put, List.setIfInBounds_toArray, List.set_cons_zero, List.set_cons_succ])))
        refine Lex.done ?_
        refine Lex.ends ?_
        go_wp2_with fail
        go_roundw
        case rel => exact ⟨k + 1, by omega, by go_num, HF, R1⟩
        case measure => first | (simp [intOf]; done) | (simp [intOf]; omega)
    · obtain rfl : k = a.length := by omega
      have HF : Hid (decide (a = b) = true) := Lib.hid (by
        have h := hpre.out
        rw [List.take_length, ← HJL.out, List.take_length] at h
        exact decide_eq_true h)
      go_wp2_with fail
      go_ret
      exact ⟨by rw [HF.out]; rfl, hfr.out⟩

/-- begin one's deeds another one's? -/
def begD (a b : List Dd) : Bool := decide (a = b.take a.length)
set_option maxHeartbeats 4000000 in
theorem refbegins_ok (w : World) (u v : Value) (a b : List Dd) (k1 c1 k2 c2 : Int) (ha : Reads w u 2 a.length (deedsC a)) (hb : Reads w v 2 b.length (deedsC b)) (hl : a.length ≤ 1000000000) (hm : b.length ≤ 1000000000) :
    Calls Try.prog 31 #[.agg #[u, .int .i64 k1, .int .i64 c1], .agg #[v, .int .i64 k2, .int .i64 c2]] w fun e w' => e = .returned (.bool (begD a b)) ∧ Fr no w w' := by
  obtain ⟨ua, uc, rfl⟩ := ha.shape
  obtain ⟨va, vc, rfl⟩ := hb.shape
  have HO1 := Lib.hid (heap_new2 w (.cells #[.slice ua a.length uc, .int .i64 k1, .int .i64 c1] 52) (.cells #[.slice va b.length vc, .int .i64 k2, .int .i64 c2] 52))
  have HO2 := Lib.hid (heap_new2' w (.cells #[.slice ua a.length uc, .int .i64 k1, .int .i64 c1] 52) (.cells #[.slice va b.length vc, .int .i64 k2, .int .i64 c2] 52))
  have R0 := Lib.hid (((Fr.refl no w).alloc (.cells #[.slice ua a.length uc, .int .i64 k1, .int .i64 c1] 52)).alloc (.cells #[.slice va b.length vc, .int .i64 k2, .int .i64 c2] 52))
  have HA := Lib.hid (ha.fr R0.out (by simp))
  have HB := Lib.hid (hb.fr R0.out (by simp))
  clear ha hb
  unfold begD
  obtain ⟨c0, -, -⟩ := cells3 HO1.out
  obtain ⟨d0, -, -⟩ := cells3 HO2.out
  by_cases hab : b.length < a.length
  · have hab' : (b.length : Int) < a.length := by omega
    have HN : Hid (decide (a = b.take a.length) = false) := Lib.hid (decide_eq_false (fun e => by have := congrArg List.length e; rw [List.length_take] at this; omega))
    go_enter Try.func31, Try.ntmps31
    go_wp2_with fail
    go_ret
    exact ⟨by rw [HN.out]; rfl, R0.out⟩
  have hab' : ¬ (b.length : Int) < a.length := by omega
  go_enter Try.func31, Try.ntmps31
  go_wp2_with fail
  clear c0 d0
  generalize (w.alloc (.cells #[.slice ua a.length uc, .int .i64 k1, .int .i64 c1] 52)).alloc (.cells #[.slice va b.length vc, .int .i64 k2, .int .i64 c2] 52) = w1 at *
  go_loopw [5] (fun x wr => ∃ k : Nat, k ≤ a.length ∧ x = .int .i64 k ∧ Hid (a.take k = b.take k) ∧ Hid (Fr no w1 wr)) (fun x _ => (a.length - intOf x).toNat)
  case atStart => exact ⟨0, by omega, rfl, Lib.hid rfl, Lib.hid (Fr.refl _ _)⟩
  case round =>
    obtain ⟨k, hk, rfl, hpre, hfr⟩ := hrel
    obtain ⟨c0, -, -⟩ := cells3 (hfr.out.heap HO1.out (by simp))
    obtain ⟨d0, -, -⟩ := cells3 (hfr.out.heap HO2.out (by simp))
    by_cases hks : k < a.length
    · have hks' : (k : Int) < a.length := by omega
      have hkb : k < b.length := by omega
      have hkb' : (k : Int) < b.length := by omega
      have rd := hfr.out.trans (Fr.refl no wr).drew
      obtain ⟨e0, -, -⟩ := cells3 (rd.heap HO1.out (by simp))
      obtain ⟨f0, -, -⟩ := cells3 (rd.heap HO2.out (by simp))
      obtain ⟨b1, o1, rfl, h1⟩ := reads_elem (HA.out.fr rd (by simp)) (by decide) hks
      obtain ⟨b2, o2, rfl, h2⟩ := reads_elem (HB.out.fr rd (by simp)) (by decide) hkb
      rw [deedsC_at a k hks] at h1
      rw [deedsC_at b k hkb] at h2
      have HD : Hid ((a[k] == b[k]) = decide (a.take (k + 1) = b.take (k + 1))) := Lib.hid (by
        rw [List.take_succ_eq_append_getElem hks, List.take_succ_eq_append_getElem hkb, hpre.out]
        rw [Bool.eq_iff_iff, beq_iff_eq, decide_eq_true_eq]
        exact ⟨fun h => by rw [h], fun h => by have := List.append_inj_right' h rfl; injection this⟩)
      have HBD : Hid (decide (a.take (k + 1) = b.take (k + 1)) = false → decide (a = b.take a.length) = false) := Lib.hid (fun h => decide_eq_false (fun e => by
        have h2 : a.take (k + 1) ≠ b.take (k + 1) := of_decide_eq_false h
        exact h2 (by rw [e, List.take_take, Nat.min_eq_left (by omega)])))
      have HTD : Hid (decide (a.take (k + 1) = b.take (k + 1)) = true → a.take (k + 1) = b.take (k + 1)) := Lib.hid (fun h => by simpa using h)
      have A1 := Lib.hid h1
      have A2 := Lib.hid h2
      have R1 := Lib.hid rd
      clear h1 h2 rd
      generalize a[k] = x at *
      generalize b[k] = y at *
      obtain ⟨x1, x2⟩ := x
      obtain ⟨y1, y2⟩ := y
      dsimp only at A1 A2
      have HXY : Hid (((x1, x2) == (y1, y2)) = ((x1 == y1) && (x2 == y2))) := Lib.hid rfl
      rw [HXY.out] at HD
      go_wp2_with fail
      cases e1 : (x1 == y1)
      case false =>
        have e2 : (x1 != y1) = true := by rw [bne, e1]; rfl
        have HF := Lib.hid (HBD.out (by rw [← HD.out, e1]; rfl))
        refine Lex.region [] [11] (by kernel_rfl) (by kernel_rfl) ?_
        refine Lex.opens (fun w' => At w' b1 (o1 + k * 2) [.int .i64 x1, .int .i64 x2] ∧ At w' b2 (o2 + k * 2) [.int .i64 y1, .int .i64 y2] ∧ w'.cell? ⟨w.heap.size, 0, none⟩ = some (.slice (some ⟨b1, o1, none⟩) a.length uc) ∧ w'.cell? ⟨w.heap.size + 1, 0, none⟩ = some (.slice (some ⟨b2, o2, none⟩) b.length vc)) (⟨A1.out, A2.out, e0, f0⟩) ?_
        repeat (first
          | (refine Lex.skips (by rfl) ?_; (try simp only [Act.put, List.setIfInBounds_toArray, List.set_cons_zero, List.set_cons_succ]))
          | (refine Lex.into (by rfl) (by rfl) _ _ rfl _ _ rfl _ _ (fun w' h => h.1) Try.underlying59 rfl (by rw [Try.infoDeed]; rfl) ?_; (try simp only [Act.put, List.setIfInBounds_toArray, List.set_cons_zero, List.set_cons_succ]))
          | (refine Lex.into (by rfl) (by rfl) _ _ rfl _ _ rfl _ _ (fun w' h => h.2.1) Try.underlying59 rfl (by rw [Try.infoDeed]; rfl) ?_; (try simp only [Act.put, List.setIfInBounds_toArray, List.set_cons_zero, List.set_cons_succ]))
          | (refine Lex.quiet (v := ?_) (by rfl) (by rfl) ?_ ?_; rotate_left; (focus (intro w' hS'; go_simp; try rfl)); (try simp only [Act.put, List.setIfInBounds_toArray, List.set_cons_zero, List.set_cons_succ])))
        refine Lex.done ?_
        refine Lex.ends ?_
        go_wp2_with fail
        go_ret
        exact ⟨by rw [HF.out]; rfl, R0.out.trans R1.out⟩
      cases e2 : (x2 == y2)
      case false =>
        have HF := Lib.hid (HBD.out (by rw [← HD.out, e1, e2]; rfl))
        refine Lex.region [] [11] (by kernel_rfl) (by kernel_rfl) ?_
        refine Lex.opens (fun w' => At w' b1 (o1 + k * 2) [.int .i64 x1, .int .i64 x2] ∧ At w' b2 (o2 + k * 2) [.int .i64 y1, .int .i64 y2] ∧ w'.cell? ⟨w.heap.size, 0, none⟩ = some (.slice (some ⟨b1, o1, none⟩) a.length uc) ∧ w'.cell? ⟨w.heap.size + 1, 0, none⟩ = some (.slice (some ⟨b2, o2, none⟩) b.length vc)) (⟨A1.out, A2.out, e0, f0⟩) ?_
        repeat (first
          | (refine Lex.skips (by rfl) ?_; (try simp only [Act.put, List.setIfInBounds_toArray, List.set_cons_zero, List.set_cons_succ]))
          | (refine Lex.into (by rfl) (by rfl) _ _ rfl _ _ rfl _ _ (fun w' h => h.1) Try.underlying59 rfl (by rw [Try.infoDeed]; rfl) ?_; (try simp only [Act.put, List.setIfInBounds_toArray, List.set_cons_zero, List.set_cons_succ]))
          | (refine Lex.into (by rfl) (by rfl) _ _ rfl _ _ rfl _ _ (fun w' h => h.2.1) Try.underlying59 rfl (by rw [Try.infoDeed]; rfl) ?_; (try simp only [Act.put, List.setIfInBounds_toArray, List.set_cons_zero, List.set_cons_succ]))
          | (refine Lex.quiet (v := ?_) (by rfl) (by rfl) ?_ ?_; rotate_left; (focus (intro w' hS'; go_simp; try rfl)); (try simp only [Act.put, List.setIfInBounds_toArray, List.set_cons_zero, List.set_cons_succ])))
        refine Lex.done ?_
        refine Lex.ends ?_
        go_wp2_with fail
        go_ret
        exact ⟨by rw [HF.out]; rfl, R0.out.trans R1.out⟩
      case true =>
        have HF := Lib.hid (HTD.out (by rw [← HD.out, e1, e2]; rfl))
        refine Lex.region [] [11] (by kernel_rfl) (by kernel_rfl) ?_
        refine Lex.opens (fun w' => At w' b1 (o1 + k * 2) [.int .i64 x1, .int .i64 x2] ∧ At w' b2 (o2 + k * 2) [.int .i64 y1, .int .i64 y2] ∧ w'.cell? ⟨w.heap.size, 0, none⟩ = some (.slice (some ⟨b1, o1, none⟩) a.length uc) ∧ w'.cell? ⟨w.heap.size + 1, 0, none⟩ = some (.slice (some ⟨b2, o2, none⟩) b.length vc)) (⟨A1.out, A2.out, e0, f0⟩) ?_
        repeat (first
          | (refine Lex.skips (by rfl) ?_; (try simp only [Act.put, List.setIfInBounds_toArray, List.set_cons_zero, List.set_cons_succ]))
          | (refine Lex.into (by rfl) (by rfl) _ _ rfl _ _ rfl _ _ (fun w' h => h.1) Try.underlying59 rfl (by rw [Try.infoDeed]; rfl) ?_; (try simp only [Act.put, List.setIfInBounds_toArray, List.set_cons_zero, List.set_cons_succ]))
          | (refine Lex.into (by rfl) (by rfl) _ _ rfl _ _ rfl _ _ (fun w' h => h.2.1) Try.underlying59 rfl (by rw [Try.infoDeed]; rfl) ?_; (try simp only [Act.put, List.setIfInBounds_toArray, List.set_cons_zero, List.set_cons_succ]))
          | (refine Lex.quiet (v := ?_) (by rfl) (by rfl) ?_ ?_; rotate_left; (focus (intro w' hS'; go_simp; try rfl)); (try simp only [Act.put, List.setIfInBounds_toArray, List.set_cons_zero, List.set_cons_succ])))
        refine Lex.done ?_
        refine Lex.ends ?_
        go_wp2_with fail
        go_roundw
        case rel => exact ⟨k + 1, by omega, by go_num, HF, R1⟩
        case measure => first | (simp [intOf]; done) | (simp [intOf]; omega)
    · obtain rfl : k = a.length := by omega
      have HF : Hid (decide (a = b.take a.length) = true) := Lib.hid (by
        have h := hpre.out
        rw [List.take_length] at h
        exact decide_eq_true h)
      go_wp2_with fail
      go_ret
      exact ⟨by rw [HF.out]; rfl, R0.out.trans hfr.out⟩

end Go.Proofs.Ytdklbmggljakkaa

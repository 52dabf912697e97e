import Derived.Test.YtdklbmggljakkaaD6
set_option linter.unusedSimpArgs false
set_option linter.unusedVariables false
set_option linter.unusedSectionVars false
set_option linter.unnecessarySimpa false
namespace Go.Proofs.Ytdklbmggljakkaa
open Go.RowKit

attribute [local go_sem] Program.isFuncB Program.isSliceB

variable {w w' w'' w0 : World}

/-- are two outcomes the same? -/
def sameO (a b : List Dd) (e f : Dd) : Bool := decide (e = f) && decide (a = b)
theorem ends_eq (k1 c1 k2 c2 : Int) : decide (((k1, c1) : Dd) = (k2, c2)) = ((k1 == k2) && (c1 == c2)) := by
  rw [Bool.eq_iff_iff]; simp

set_option maxHeartbeats 4000000 in
theorem sameo_ok (w : World) (u v : Value) (a b : List Dd) (k1 c1 k2 c2 : Int) (ha : Reads w u 2 a.length (deedsC a)) (hb : Reads w v 2 b.length (deedsC b)) (hl : a.length ≤ 1000000000) (hm : b.length ≤ 1000000000) :
    Calls Try.prog 28 #[.agg #[u, .int .i64 k1, .int .i64 c1], .agg #[v, .int .i64 k2, .int .i64 c2]] w fun e w' => e = .returned (.bool (sameO a b (k1, c1) (k2, c2))) ∧ Fr no w w' := by
  obtain ⟨ua, uc, rfl⟩ := ha.shape
  obtain ⟨va, vc, rfl⟩ := hb.shape
  have HO1 := Lib.hid (heap_new2 w (.cells #[.slice ua a.length uc, .int .i64 k1, .int .i64 c1] 52) (.cells #[.slice va b.length vc, .int .i64 k2, .int .i64 c2] 52))
  have HO2 := Lib.hid (heap_new2' w (.cells #[.slice ua a.length uc, .int .i64 k1, .int .i64 c1] 52) (.cells #[.slice va b.length vc, .int .i64 k2, .int .i64 c2] 52))
  have R0 := Lib.hid (((Fr.refl no w).alloc (.cells #[.slice ua a.length uc, .int .i64 k1, .int .i64 c1] 52)).alloc (.cells #[.slice va b.length vc, .int .i64 k2, .int .i64 c2] 52))
  have EQ := Lib.hid (equal_ok _ _ _ a b (ha.fr R0.out (by simp)) (hb.fr R0.out (by simp)) hl hm)
  have HS : Hid (sameO a b (k1, c1) (k2, c2) = (((k1 == k2) && (c1 == c2)) && decide (a = b))) := Lib.hid (by unfold sameO; rw [ends_eq])
  obtain ⟨x0, x1, x2⟩ := cells3 HO1.out
  obtain ⟨y0, y1, y2⟩ := cells3 HO2.out
  clear ha hb
  generalize decide (a = b) = q at *
  cases e1 : (k1 == k2)
  case false =>
    go_enter Try.func28, Try.ntmps28
    go_wp2_with fail
    go_ret
    exact ⟨by rw [HS.out, e1]; rfl, R0.out⟩
  cases e2 : (c1 == c2)
  case false =>
    go_enter Try.func28, Try.ntmps28
    go_wp2_with fail
    go_ret
    exact ⟨by rw [HS.out, e1, e2]; rfl, R0.out⟩
  rw [e1, e2] at HS
  go_enter Try.func28, Try.ntmps28
  go_wp2_with fail
  refine EQ.out.mono ?_
  rintro e w1 ⟨rfl, r1⟩
  have R1 := Lib.hid (R0.out.trans r1)
  clear r1 x0 x1 x2 y0 y1 y2
  go_wp2_with fail
  go_ret
  exact ⟨by rw [HS.out]; rfl, R1.out⟩

set_option maxHeartbeats 4000000 in
theorem begins_ok (w : World) (u v : Value) (a b : List Dd) (k1 c1 k2 c2 : Int) (ha : Reads w u 2 a.length (deedsC a)) (hb : Reads w v 2 b.length (deedsC b)) (hl : a.length ≤ 1000000000) (hm : b.length ≤ 1000000000) :
    Calls Try.prog 30 #[.agg #[u, .int .i64 k1, .int .i64 c1], .agg #[v, .int .i64 k2, .int .i64 c2]] w fun e w' => e = .returned (.bool (begD a b)) ∧ Fr no w w' := by
  obtain ⟨ua, uc, rfl⟩ := ha.shape
  obtain ⟨va, vc, rfl⟩ := hb.shape
  have hcap := cap_of_reads hb
  have HO1 := Lib.hid (heap_new2 w (.cells #[.slice ua a.length uc, .int .i64 k1, .int .i64 c1] 52) (.cells #[.slice va b.length vc, .int .i64 k2, .int .i64 c2] 52))
  have HO2 := Lib.hid (heap_new2' w (.cells #[.slice ua a.length uc, .int .i64 k1, .int .i64 c1] 52) (.cells #[.slice va b.length vc, .int .i64 k2, .int .i64 c2] 52))
  have R0 := Lib.hid (((Fr.refl no w).alloc (.cells #[.slice ua a.length uc, .int .i64 k1, .int .i64 c1] 52)).alloc (.cells #[.slice va b.length vc, .int .i64 k2, .int .i64 c2] 52))
  generalize hw1 : (w.alloc (.cells #[.slice ua a.length uc, .int .i64 k1, .int .i64 c1] 52)).alloc (.cells #[.slice va b.length vc, .int .i64 k2, .int .i64 c2] 52) = w1 at *
  have HW1 := Lib.hid hw1
  have rd := (Fr.refl no w1).drew
  have HP1 := rd.heap HO1.out (by simp)
  have HP2 := rd.heap HO2.out (by simp)
  obtain ⟨x0, -, -⟩ := cells3 HP1
  obtain ⟨y0, -, -⟩ := cells3 HP2
  unfold begD
  by_cases hab : a.length ≤ b.length
  case neg =>
    have hab' : ¬ (a.length : Int) ≤ b.length := by omega
    have HN : Hid (decide (a = b.take a.length) = false) := Lib.hid (decide_eq_false (fun e => by have := congrArg List.length e; rw [List.length_take] at this; omega))
    have R1 := Lib.hid (R0.out.trans rd)
    clear hw1 rd HP1 HP2 ha hb
    go_enter Try.func30, Try.ntmps30
    go_wp2_with fail
    rw [HW1.out]
    refine Lex.region [16] [19] (by kernel_rfl) (by kernel_rfl) ?_
    refine Lex.opens (fun w' => w'.cell? ⟨w.heap.size, 0, none⟩ = some (.slice ua a.length uc) ∧ w'.cell? ⟨w.heap.size + 1, 0, none⟩ = some (.slice va b.length vc)) (⟨x0, y0⟩) ?_
    repeat (first
      | (refine Lex.skips (by rfl) ?_; (try simp only [Act.put, List.setIfInBounds_toArray, List.set_cons_zero, List.set_cons_succ]))
      | (refine Lex.quiet (v := ?_) (by rfl) (by rfl) ?_ ?_; rotate_left; (focus (intro w' hS'; go_simp; try rfl)); (try simp only [Act.put, List.setIfInBounds_toArray, List.set_cons_zero, List.set_cons_succ])))
    refine Lex.done ?_
    refine Lex.ends ?_
    go_wp2_with fail
    go_ret
    exact ⟨by rw [HN.out]; rfl, R1.out⟩
  have hab' : (a.length : Int) ≤ b.length := by omega
  have hcap' : (a.length : Int) ≤ (vc : Int) := by omega
  have hcap2 : a.length ≤ vc := by omega
  have R1 := Lib.hid (R0.out.trans rd)
  have htl : (b.take a.length).length = a.length := by rw [List.length_take]; omega
  have EQ := equal_ok w1.drew (.slice ua a.length uc) (.slice va a.length vc) a (b.take a.length) (ha.fr R1.out (by simp)) (by
    rw [htl, ← deedsC_take]
    exact reads_cut (hb.fr R1.out (by simp)) hab) hl (by omega)
  have EQ2 := Lib.hid EQ
  clear hw1 rd HP1 HP2 ha hb EQ htl
  generalize decide (a = b.take a.length) = q at *
  go_enter Try.func30, Try.ntmps30
  go_wp2_with fail
  rw [HW1.out]
  refine Lex.region [16] [19] (by kernel_rfl) (by kernel_rfl) ?_
  refine Lex.opens (fun w' => w'.cell? ⟨w.heap.size, 0, none⟩ = some (.slice ua a.length uc) ∧ w'.cell? ⟨w.heap.size + 1, 0, none⟩ = some (.slice va b.length vc)) (⟨x0, y0⟩) ?_
  repeat (first
    | (refine Lex.skips (by rfl) ?_; (try simp only [Act.put, List.setIfInBounds_toArray, List.set_cons_zero, List.set_cons_succ]))
    | (refine Lex.quiet (v := ?_) (by rfl) (by rfl) ?_ ?_; rotate_left; (focus (intro w' hS'; go_simp; try rfl)); (try simp only [Act.put, List.setIfInBounds_toArray, List.set_cons_zero, List.set_cons_succ])))
  refine Lex.loud (by rfl) (by rfl) ?_
  intro K' hK'
  go_simp
  refine EQ2.out.mono ?_
  rintro e w2 ⟨rfl, r2⟩
  have R2 := Lib.hid (R1.out.trans r2)
  refine hK' _ _ (⟨r2.cell x0 (by simp), r2.cell y0 (by simp)⟩) ?_
  clear hK'
  try simp only [Act.put, List.setIfInBounds_toArray, List.set_cons_zero, List.set_cons_succ]
  clear r2
  repeat (first
    | (refine Lex.skips (by rfl) ?_; (try simp only [Act.put, List.setIfInBounds_toArray, List.set_cons_zero, List.set_cons_succ]))
    | (refine Lex.quiet (v := ?_) (by rfl) (by rfl) ?_ ?_; rotate_left; (focus (intro w' hS'; go_simp; try rfl)); (try simp only [Act.put, List.setIfInBounds_toArray, List.set_cons_zero, List.set_cons_succ])))
  refine Lex.done ?_
  refine Lex.ends ?_
  go_wp2_with fail
  go_ret
  exact ⟨rfl, R2.out⟩

set_option maxHeartbeats 4000000 in
theorem refsameo_ok (w : World) (u v : Value) (a b : List Dd) (k1 c1 k2 c2 : Int) (ha : Reads w u 2 a.length (deedsC a)) (hb : Reads w v 2 b.length (deedsC b)) (hl : a.length ≤ 1000000000) (hm : b.length ≤ 1000000000) :
    Calls Try.prog 29 #[.agg #[u, .int .i64 k1, .int .i64 c1], .agg #[v, .int .i64 k2, .int .i64 c2]] w fun e w' => e = .returned (.bool (sameO a b (k1, c1) (k2, c2))) ∧ Fr no w w' := by
  obtain ⟨ua, uc, rfl⟩ := ha.shape
  obtain ⟨va, vc, rfl⟩ := hb.shape
  have HO1 := Lib.hid (heap_new2 w (.cells #[.slice ua a.length uc, .int .i64 k1, .int .i64 c1] 52) (.cells #[.slice va b.length vc, .int .i64 k2, .int .i64 c2] 52))
  have HO2 := Lib.hid (heap_new2' w (.cells #[.slice ua a.length uc, .int .i64 k1, .int .i64 c1] 52) (.cells #[.slice va b.length vc, .int .i64 k2, .int .i64 c2] 52))
  have R0 := Lib.hid (((Fr.refl no w).alloc (.cells #[.slice ua a.length uc, .int .i64 k1, .int .i64 c1] 52)).alloc (.cells #[.slice va b.length vc, .int .i64 k2, .int .i64 c2] 52))
  have EQ := Lib.hid (refbegins_ok _ _ _ a b k1 c1 k2 c2 (ha.fr R0.out (by simp)) (hb.fr R0.out (by simp)) hl hm)
  have HS : Hid (sameO a b (k1, c1) (k2, c2) = (((k1 == k2) && (c1 == c2)) && (((a.length : Int) == b.length) && begD a b))) := Lib.hid (by
    unfold sameO
    rw [ends_eq]
    congr 1
    unfold begD
    rw [Bool.eq_iff_iff]
    simp only [Bool.and_eq_true, decide_eq_true_eq, beq_iff_eq]
    constructor
    · rintro rfl; simp
    · rintro ⟨h1, h2⟩
      rw [List.take_of_length_le (by omega)] at h2
      exact h2)
  obtain ⟨x0, x1, x2⟩ := cells3 HO1.out
  obtain ⟨y0, y1, y2⟩ := cells3 HO2.out
  clear ha hb
  generalize begD a b = q at *
  cases e1 : (k1 == k2)
  case false =>
    go_enter Try.func29, Try.ntmps29
    go_wp2_with fail
    go_ret
    exact ⟨by rw [HS.out, e1]; rfl, R0.out⟩
  cases e2 : (c1 == c2)
  case false =>
    go_enter Try.func29, Try.ntmps29
    go_wp2_with fail
    go_ret
    exact ⟨by rw [HS.out, e1, e2]; rfl, R0.out⟩
  cases e3 : ((a.length : Int) == (b.length : Int))
  case false =>
    go_enter Try.func29, Try.ntmps29
    go_wp2_with fail
    go_ret
    exact ⟨by rw [HS.out, e1, e2, e3]; rfl, R0.out⟩
  rw [e1, e2, e3] at HS
  go_enter Try.func29, Try.ntmps29
  go_wp2_with fail
  refine EQ.out.mono ?_
  rintro e w1 ⟨rfl, r1⟩
  have R1 := Lib.hid (R0.out.trans r1)
  clear r1 x0 x1 x2 y0 y1 y2
  go_wp2_with fail
  go_ret
  exact ⟨by rw [HS.out]; rfl, R1.out⟩

end Go.Proofs.Ytdklbmggljakkaa

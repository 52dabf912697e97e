/- slices.EqualFunc over shells, module.Same. -/
import Derived.Test.YtdngflhfhmnipaaGreatM4
set_option linter.unusedSimpArgs false
set_option linter.unusedVariables false
set_option linter.unusedSectionVars false
set_option linter.unnecessarySimpa false
namespace Go.Proofs.YtdngflhfhmnipaaGreat
open Go.RowKit

attribute [local go_sem] Program.isFuncB Program.isSliceB

variable {w w' w'' w0 : World}

set_option maxHeartbeats 4000000 in
theorem eqshell_ok (w : World) (sa sb : Option Addr) (ca cb : Nat) (is js : List Fx) (hin : FnsIn w sa is) (hjn : FnsIn w sb js) (hlen : is.length ≤ 1000) (hargs : ∀ i ∈ is, i.Small) (hjl : js.length ≤ 1000) (hargs2 : ∀ i ∈ js, i.Small) :
    Calls Tryz.prog 32 #[.slice sa is.length ca, .slice sb js.length cb, .func (.func 34) #[] #[]] w fun e w' => e = .returned (.bool (decide (is = js))) ∧ Fr no w w' := by
  by_cases hl : is.length = js.length
  case neg =>
    have HN : Hid (decide (is = js) = false) := Lib.hid (decide_eq_false (fun e => hl (by rw [e])))
    have e1 : ((is.length : Int) != (js.length : Int)) = true := by rw [bne_iff_ne]; omega
    clear hl hin hjn hargs hargs2
    go_enter Tryz.func32, Tryz.ntmps32
    go_wp2_with fail
    go_ret
    exact ⟨by rw [HN.out]; rfl, Fr.refl _ _⟩
  have HIN := Lib.hid hin
  have HJN := Lib.hid hjn
  have HAR := Lib.hid hargs
  have HAR2 := Lib.hid hargs2
  have hl0 := hl
  clear hin hjn hargs hargs2 hl
  generalize hmm : js.length = mm at *
  obtain rfl : mm = is.length := by omega
  have HJL := Lib.hid hmm
  clear hmm hl0
  go_enter Tryz.func32, Tryz.ntmps32
  go_wp2_with fail
  go_loopw [17] (fun x wr => ∃ k : Nat, k ≤ is.length ∧ x = .int .i64 k ∧ Hid (is.take k = js.take k) ∧ Hid (Fr no w wr)) (fun x _ => (is.length - intOf x).toNat)
  case atStart => exact ⟨0, by omega, rfl, Lib.hid rfl, Lib.hid (Fr.refl _ _)⟩
  case round =>
    obtain ⟨k, hk, rfl, hpre, hfr⟩ := hrel
    by_cases hks : k < is.length
    · have hks' : (k : Int) < is.length := by omega
      have hkj : k < js.length := by have := HJL.out; omega
      obtain ⟨b1, o1, v1, c1, rfl, h1⟩ := HIN.out.fr hfr.out k hks
      obtain ⟨b2, o2, v2, c2, rfl, h2⟩ := HJN.out.fr hfr.out k hkj
      obtain ⟨i1, hi1⟩ : ∃ i, i = is[k] := ⟨_, rfl⟩
      obtain ⟨i2, hi2⟩ : ∃ i, i = js[k] := ⟨_, rfl⟩
      have HS := Lib.hid (fun w1 (r : Fr no wr w1) => shellsame_ok w1 i1 i2 v1 v2 c1 c2 (by rw [hi1]; exact h1.code.fr r) (by rw [hi2]; exact h2.code.fr r) (by rw [hi1]; exact HAR.out _ (List.getElem_mem hks)) (by rw [hi2]; exact HAR2.out _ (List.getElem_mem hkj)))
      have HD : Hid (decide (i1 = i2) = decide (is.take (k + 1) = js.take (k + 1))) := Lib.hid (by
        rw [List.take_succ_eq_append_getElem hks, List.take_succ_eq_append_getElem hkj, hpre.out, ← hi1, ← hi2]
        simp)
      have HB : Hid (decide (is.take (k + 1) = js.take (k + 1)) = false → decide (is = js) = false) := Lib.hid (fun h => decide_eq_false (fun e => by rw [e] at h; simp at h))
      have HT : Hid (decide (is.take (k + 1) = js.take (k + 1)) = true → is.take (k + 1) = js.take (k + 1)) := Lib.hid (fun h => by simpa using h)
      obtain ⟨p0, p1, p2, p3⟩ := h1.four
      have H2 := Lib.hid h2
      rw [← hi1] at p0 p1 p2 p3
      rw [← hi2] at H2
      clear h1 h2 hi1 hi2
      generalize decide (i1 = i2) = q at *
      obtain ⟨a1, a2, a3, a6⟩ := i1
      obtain ⟨d1, d2, d3, d6⟩ := i2
      dsimp only at p0 p1 p2 p3 HS H2
      have r1 := (Fr.refl no wr).alloc (.cells #[.int .i64 a1, .int .i64 a2, .int .i64 a3, .slice v1 a6.length c1] 58)
      have r2 := r1.alloc (.cells #[.int .i64 d1, .int .i64 d2, .int .i64 d3, .slice v2 d6.length c2] 58)
      have HS1 := Lib.hid (HS.out _ r2)
      have R2 := Lib.hid (hfr.out.trans r2)
      obtain ⟨q0, q1, q2, q3⟩ := (H2.out.fr r1).four
      clear r1 r2 HS
      dsimp only at q0 q1 q2 q3
      go_wp2_with fail
      refine HS1.out.mono ?_
      rintro e w2 ⟨rfl, r2⟩
      have R3 := Lib.hid (R2.out.trans r2)
      clear r2 p0 p1 p2 p3 q0 q1 q2 q3
      cases q
      · have HF := Lib.hid (HB.out HD.out.symm)
        go_wp2_with fail
        go_ret
        exact ⟨by rw [HF.out]; rfl, R3.out⟩
      · have HF := Lib.hid (HT.out HD.out.symm)
        go_wp2_with fail
        go_roundw
        case rel => exact ⟨k + 1, by omega, by go_num, HF, R3⟩
        case measure => first | (simp [intOf]; done) | (simp [intOf]; omega)
    · obtain rfl : k = is.length := by omega
      have HE : Hid (decide (is = js) = true) := Lib.hid (decide_eq_true (by
        have := hpre.out
        rwa [List.take_length, ← HJL.out, List.take_length] at this))
      go_wp2_with fail
      go_ret
      exact ⟨by rw [HE.out]; rfl, hfr.out⟩

set_option maxRecDepth 100000 in
set_option maxHeartbeats 8000000 in
theorem samemod_ok (w : World) (m m' : Mx) (da fa db fb : Option Addr) (dc fc dd fd : Nat) (hm : ModIn w m da dc fa) (hn : ModIn w m' db dd fb) (hs : m.Small) (hs' : m'.Small) :
    Calls Tryz.prog 13 #[.agg #[.slice da m.d.length dc, .slice fa m.f.length fc], .agg #[.slice db m'.d.length dd, .slice fb m'.f.length fd]] w fun e w' => e = .returned (.bool (decide (m = m'))) ∧ Fr no w w' := by
  obtain ⟨ds, fs⟩ := m
  obtain ⟨es, gs⟩ := m'
  obtain ⟨s1, s2, s3, s4⟩ := hs
  obtain ⟨t1, t2, t3, t4⟩ := hs'
  dsimp only at s1 s2 s3 s4 t1 t2 t3 t4 ⊢
  have r1 := (Fr.refl no w).alloc (.cells #[.slice da ds.length dc, .slice fa fs.length fc] 25)
  have r2 := r1.alloc (.cells #[.slice db es.length dd, .slice fb gs.length fd] 25)
  have q2 := (Fr.refl no (w.alloc (.cells #[.slice da ds.length dc, .slice fa fs.length fc] 25))).alloc (.cells #[.slice db es.length dd, .slice fb gs.length fd] 25)
  have R2 := Lib.hid r2
  have H1 := Lib.hid (q2.heap (modObj w (.slice da ds.length dc) (.slice fa fs.length fc)) (by simp))
  have h2 := (modObj (w.alloc (.cells #[.slice da ds.length dc, .slice fa fs.length fc] 25)) (.slice db es.length dd) (.slice fb gs.length fd))
  rw [World.size_alloc] at h2
  have H2 := Lib.hid h2
  have D1 := Lib.hid (hm.data.fr r2 (by simp))
  have D2 := Lib.hid (hn.data.fr r2 (by simp))
  have HX := Lib.hid (strB_eq ds es s4 t4)
  have F1 := Lib.hid (hm.fns.fr r2)
  have F2 := Lib.hid (hn.fns.fr r2)
  have S3 := Lib.hid s3
  have T3 := Lib.hid t3
  have HD : Hid (decide ((⟨ds, fs⟩ : Mx) = ⟨es, gs⟩) = (decide (ds = es) && decide (fs = gs))) := Lib.hid (by simp)
  generalize decide ((⟨ds, fs⟩ : Mx) = ⟨es, gs⟩) = q at *
  generalize decide (ds = es) = qd at *
  clear r1 r2 q2 h2 hm hn s3 s4 t3 t4
  generalize hwz : (w.alloc (.cells #[.slice da ds.length dc, .slice fa fs.length fc] 25)).alloc (.cells #[.slice db es.length dd, .slice fb gs.length fd] 25) = wz at *
  go_enter Tryz.func13, Tryz.ntmps13
  obtain ⟨e0, e1⟩ := cells2 H1.out
  obtain ⟨d0, d1⟩ := cells2 H2.out
  go_wp2_with fail
  try rw [hwz]
  clear hwz
  have A1 := Lib.hid (fun w' (r : Fr no wz w') => conv_reads (D1.out.fr r (by simp)) 9 Tryz.underlying9)
  have A2 := Lib.hid (fun w' (r : Fr no wz w') => conv_reads (D2.out.fr r (by simp)) 9 Tryz.underlying9)
  generalize strB ds = sd at *
  generalize strB es = se at *
  have HS := Lib.hid (fun w' (r : Fr no wz w') => (⟨r.cell e0 (by simp), r.cell d0 (by simp), r.cell e1 (by simp), r.cell d1 (by simp), A1.out w' r, A2.out w' r⟩ : (fun w' => w'.cell? ⟨w.heap.size, 0, none⟩ = some (.slice da ds.length dc) ∧ w'.cell? ⟨w.heap.size + 1, 0, none⟩ = some (.slice db es.length dd) ∧ w'.cell? ⟨w.heap.size, 1, none⟩ = some (.slice fa fs.length fc) ∧ w'.cell? ⟨w.heap.size + 1, 1, none⟩ = some (.slice fb gs.length fd) ∧ (convert 22 9 (.slice da ds.length dc)).run Tryz.prog w' = .ok (.string sd) w' ∧ (convert 22 9 (.slice db es.length dd)).run Tryz.prog w' = .ok (.string se) w') w'))
  clear e0 e1 d0 d1 H1 H2 A1 A2
  cases qd
  · have x1 : (sd.toList == se.toList) = false := HX.out
    have HF : Hid (q = false) := Lib.hid (by rw [HD.out]; rfl)
    refine Lex.region [10, 13, 14] [17] (by kernel_rfl) (by kernel_rfl) ?_
    refine Lex.opens (fun w' => w'.cell? ⟨w.heap.size, 0, none⟩ = some (.slice da ds.length dc) ∧ w'.cell? ⟨w.heap.size + 1, 0, none⟩ = some (.slice db es.length dd) ∧ w'.cell? ⟨w.heap.size, 1, none⟩ = some (.slice fa fs.length fc) ∧ w'.cell? ⟨w.heap.size + 1, 1, none⟩ = some (.slice fb gs.length fd) ∧ (convert 22 9 (.slice da ds.length dc)).run Tryz.prog w' = .ok (.string sd) w' ∧ (convert 22 9 (.slice db es.length dd)).run Tryz.prog w' = .ok (.string se) w') (HS.out _ (Fr.refl no wz).drew) ?_
    repeat (first
      | (refine Lex.skips (by rfl) ?_; (try simp only [Act.put, List.setIfInBounds_toArray, List.set_cons_zero, List.set_cons_succ]))
      | (refine Lex.quiet (v := ?_) (by rfl) (by rfl) ?_ ?_; rotate_left; (focus (intro w' hS'; go_simp; try rfl)); (try simp only [Act.put, List.setIfInBounds_toArray, List.set_cons_zero, List.set_cons_succ])))
    refine Lex.done ?_
    refine Lex.ends ?_
    go_wp2_with fail
    go_ret
    exact ⟨by rw [HF.out]; rfl, R2.out.drew⟩
  · have x1 : (sd.toList == se.toList) = true := HX.out
    have HF : Hid (q = decide (fs = gs)) := Lib.hid (by rw [HD.out]; rfl)
    refine Lex.region [10, 13, 14] [17] (by kernel_rfl) (by kernel_rfl) ?_
    refine Lex.opens (fun w' => w'.cell? ⟨w.heap.size, 0, none⟩ = some (.slice da ds.length dc) ∧ w'.cell? ⟨w.heap.size + 1, 0, none⟩ = some (.slice db es.length dd) ∧ w'.cell? ⟨w.heap.size, 1, none⟩ = some (.slice fa fs.length fc) ∧ w'.cell? ⟨w.heap.size + 1, 1, none⟩ = some (.slice fb gs.length fd) ∧ (convert 22 9 (.slice da ds.length dc)).run Tryz.prog w' = .ok (.string sd) w' ∧ (convert 22 9 (.slice db es.length dd)).run Tryz.prog w' = .ok (.string se) w') (HS.out _ (Fr.refl no wz).drew) ?_
    repeat (first
      | (refine Lex.skips (by rfl) ?_; (try simp only [Act.put, List.setIfInBounds_toArray, List.set_cons_zero, List.set_cons_succ]))
      | (refine Lex.quiet (v := ?_) (by rfl) (by rfl) ?_ ?_; rotate_left; (focus (intro w' hS'; go_simp; try rfl)); (try simp only [Act.put, List.setIfInBounds_toArray, List.set_cons_zero, List.set_cons_succ])))
    refine Lex.loud (by rfl) (by rfl) ?_
    intro K' hK'
    go_simp
    refine (shells_ok _ fa fc fs (F1.out.fr (Fr.refl no wz).drew) s2).mono ?_
    rintro e w4 ⟨ga, gc, rfl, hg, r4⟩
    have R4 := Lib.hid ((Fr.refl no wz).drew.trans r4)
    have G4 := Lib.hid hg
    clear hg r4
    refine hK' _ _ (HS.out _ R4.out) ?_
    clear hK'
    try simp only [Act.put, List.setIfInBounds_toArray, List.set_cons_zero, List.set_cons_succ]
    repeat (first
      | (refine Lex.skips (by rfl) ?_; (try simp only [Act.put, List.setIfInBounds_toArray, List.set_cons_zero, List.set_cons_succ]))
      | (refine Lex.quiet (v := ?_) (by rfl) (by rfl) ?_ ?_; rotate_left; (focus (intro w' hS'; go_simp; try rfl)); (try simp only [Act.put, List.setIfInBounds_toArray, List.set_cons_zero, List.set_cons_succ])))
    refine Lex.loud (by rfl) (by rfl) ?_
    intro K' hK'
    go_simp
    refine (shells_ok _ fb fd gs (F2.out.fr R4.out) t2).mono ?_
    rintro e w5 ⟨ka, kc, rfl, hk5, r5⟩
    have R5 := Lib.hid (R4.out.trans r5)
    have HEQ := Lib.hid (eqshell_ok w5 ga ka gc kc fs gs (G4.out.fr r5) hk5 s2 S3.out t2 T3.out)
    clear hk5 r5
    refine hK' _ _ (HS.out _ R5.out) ?_
    clear hK'
    try simp only [Act.put, List.setIfInBounds_toArray, List.set_cons_zero, List.set_cons_succ]
    repeat (first
      | (refine Lex.skips (by rfl) ?_; (try simp only [Act.put, List.setIfInBounds_toArray, List.set_cons_zero, List.set_cons_succ]))
      | (refine Lex.quiet (v := ?_) (by rfl) (by rfl) ?_ ?_; rotate_left; (focus (intro w' hS'; go_simp; try rfl)); (try simp only [Act.put, List.setIfInBounds_toArray, List.set_cons_zero, List.set_cons_succ])))
    refine Lex.loud (by rfl) (by rfl) ?_
    intro K' hK'
    go_simp
    refine HEQ.out.mono ?_
    rintro e w6 ⟨rfl, r6⟩
    have R6 := Lib.hid (R5.out.trans r6)
    clear r6
    refine hK' _ _ (HS.out _ R6.out) ?_
    clear hK'
    try simp only [Act.put, List.setIfInBounds_toArray, List.set_cons_zero, List.set_cons_succ]
    repeat (first
      | (refine Lex.skips (by rfl) ?_; (try simp only [Act.put, List.setIfInBounds_toArray, List.set_cons_zero, List.set_cons_succ]))
      | (refine Lex.quiet (v := ?_) (by rfl) (by rfl) ?_ ?_; rotate_left; (focus (intro w' hS'; go_simp; try rfl)); (try simp only [Act.put, List.setIfInBounds_toArray, List.set_cons_zero, List.set_cons_succ])))
    refine Lex.done ?_
    refine Lex.ends ?_
    go_wp2_with fail
    go_ret
    exact ⟨by rw [HF.out]; rfl, R2.out.trans R6.out⟩

end Go.Proofs.YtdngflhfhmnipaaGreat

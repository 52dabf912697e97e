import Derived.Test.YtihnkijeefkefaaGreatMC
set_option linter.unusedSimpArgs false
set_option linter.unusedVariables false
set_option linter.unusedSectionVars false
set_option linter.unnecessarySimpa false
set_option maxRecDepth 100000
/- The document's Same of modules; OverBytes. -/
namespace Go.Proofs.YtihnkijeefkefaaGreat
open Go.RowKit

attribute [local go_sem] Program.isFuncB Program.isSliceB

variable {w w' w'' w0 : World}

/-- are two lists of instructions the same? -/
theorem refsamecode_ok (w : World) (sa sb : Option Addr) (ca cb : Nat) (is js : List Ix) (hin : CodeIn w sa is) (hjn : CodeIn w sb js) (hlen : is.length ≤ 100000) (hargs : ∀ i ∈ is, i.l.length ≤ 100000) (hjl : js.length ≤ 100000) (hargs2 : ∀ i ∈ js, i.l.length ≤ 100000) :
    Calls Tryz.prog 154 #[.slice sa is.length ca, .slice sb js.length cb] w fun e w' => e = .returned (.bool (decide (is = js))) ∧ Fr no w w' := by
  by_cases hl : is.length = js.length
  case neg =>
    have HN : Hid (decide (is = js) = false) := Lib.hid (decide_eq_false (fun e => hl (by rw [e])))
    have e1 : ((is.length : Int) != (js.length : Int)) = true := by rw [bne_iff_ne]; omega
    clear hl hin hjn hargs hargs2
    go_enter Tryz.func154, Tryz.ntmps154
    go_wp2_with fail
    go_ret
    exact ⟨by rw [HN.out]; rfl, Fr.refl _ _⟩
  have HIN := Lib.hid hin
  have HJN := Lib.hid hjn
  have HAR := Lib.hid hargs
  have HAR2 := Lib.hid hargs2
  have hl0 := hl
  clear hin hjn hargs hargs2 hl
  generalize hmm : js.length = mm at *
  obtain rfl : mm = is.length := by omega
  have HJL := Lib.hid hmm
  clear hmm hl0
  go_enter Tryz.func154, Tryz.ntmps154
  go_wp2_with fail
  go_loopw [5] (fun x wr => ∃ k : Nat, k ≤ is.length ∧ x = .int .i64 k ∧ Hid (is.take k = js.take k) ∧ Hid (Fr no w wr)) (fun x _ => (is.length - intOf x).toNat)
  case atStart => exact ⟨0, by omega, rfl, Lib.hid rfl, Lib.hid (Fr.refl _ _)⟩
  case round =>
    obtain ⟨k, hk, rfl, hpre, hfr⟩ := hrel
    by_cases hks : k < is.length
    · have hks' : (k : Int) < is.length := by omega
      have hkj : k < js.length := by have := HJL.out; omega
      obtain ⟨b1, o1, u1, rfl, h1⟩ := HIN.out.fr hfr.out k hks
      obtain ⟨b2, o2, u2, rfl, h2⟩ := HJN.out.fr hfr.out k hkj
      obtain ⟨i1, hi1⟩ : ∃ i, i = is[k] := ⟨_, rfl⟩
      obtain ⟨i2, hi2⟩ : ∃ i, i = js[k] := ⟨_, rfl⟩
      have HS := Lib.hid (fun w1 (r : Fr no wr w1) => refsame_ok w1 i1.o i1.A i1.B i1.C i1.N i2.o i2.A i2.B i2.C i2.N u1 u2 i1.l i2.l (by rw [hi1]; exact h1.args.fr r (by simp)) (by rw [hi2]; exact h2.args.fr r (by simp)) (by have := HAR.out _ (List.getElem_mem hks); rw [hi1]; omega) (by have := HAR2.out _ (List.getElem_mem hkj); rw [hi2]; omega))
      have HD : Hid (decide (i1.o = i2.o ∧ i1.A = i2.A ∧ i1.B = i2.B ∧ i1.C = i2.C ∧ i1.N = i2.N ∧ i1.l = i2.l) = decide (is.take (k + 1) = js.take (k + 1))) := Lib.hid (by
        rw [List.take_succ_eq_append_getElem hks, List.take_succ_eq_append_getElem hkj, hpre.out, ← hi1, ← hi2]
        obtain ⟨a1, a2, a3, a4, a5, a6⟩ := i1
        obtain ⟨b1, b2, b3, b4, b5, b6⟩ := i2
        simp)
      have HB : Hid (decide (is.take (k + 1) = js.take (k + 1)) = false → decide (is = js) = false) := Lib.hid (fun h => decide_eq_false (fun e => by rw [e] at h; simp at h))
      have HT : Hid (decide (is.take (k + 1) = js.take (k + 1)) = true → is.take (k + 1) = js.take (k + 1)) := Lib.hid (fun h => by simpa using h)
      have rd := (Fr.refl no wr).drew
      have A1 := Lib.hid (h1.at_.fr rd)
      have A2 := Lib.hid (h2.at_.fr rd)
      have R1 := Lib.hid (hfr.out.drew)
      have HS1 := Lib.hid (HS.out _ rd)
      rw [← hi1] at A1
      rw [← hi2] at A2
      clear rd h1 h2 hi1 hi2 HS
      obtain ⟨a1, a2, a3, a4, a5, a6⟩ := i1
      obtain ⟨d1, d2, d3, d4, d5, d6⟩ := i2
      unfold Ix.cells at A1 A2
      unfold insV at HS1
      dsimp only at A1 A2 HS1 HD
      generalize decide (a1 = d1 ∧ a2 = d2 ∧ a3 = d3 ∧ a4 = d4 ∧ a5 = d5 ∧ a6 = d6) = q at *
      go_wp2_with fail
      refine Lex.region [8] [10] (by kernel_rfl) (by kernel_rfl) ?_
      refine Lex.opens (fun w' => At w' b1 (o1 + k * 6) [.int .i64 a1, .int .i64 a2, .int .i64 a3, .int .i64 a4, .int .i64 a5, u1] ∧ At w' b2 (o2 + k * 6) [.int .i64 d1, .int .i64 d2, .int .i64 d3, .int .i64 d4, .int .i64 d5, u2]) (⟨A1.out, A2.out⟩) ?_
      repeat (first
        | (refine Lex.skips (by rfl) ?_; (try simp only [Act.put, List.setIfInBounds_toArray, List.set_cons_zero, List.set_cons_succ]))
        | (refine Lex.into (by rfl) (by rfl) _ _ rfl _ _ rfl _ _ (fun w' h => h.1) Tryz.underlying112 rfl (by rw [Tryz.infoIns]; rfl) ?_; (try simp only [Act.put, List.setIfInBounds_toArray, List.set_cons_zero, List.set_cons_succ]))
        | (refine Lex.into (by rfl) (by rfl) _ _ rfl _ _ rfl _ _ (fun w' h => h.2) Tryz.underlying112 rfl (by rw [Tryz.infoIns]; rfl) ?_; (try simp only [Act.put, List.setIfInBounds_toArray, List.set_cons_zero, List.set_cons_succ]))
        | (refine Lex.quiet (v := ?_) (by rfl) (by rfl) ?_ ?_; rotate_left; (focus (intro w' hS'; go_simp; try rfl)); (try simp only [Act.put, List.setIfInBounds_toArray, List.set_cons_zero, List.set_cons_succ])))
      refine Lex.loud (by rfl) (by rfl) ?_
      intro K' hK'
      go_simp
      refine HS1.out.mono ?_
      rintro e w2 ⟨rfl, r2⟩
      have A3 := Lib.hid (A1.out.fr r2)
      have A4 := Lib.hid (A2.out.fr r2)
      have R2 := Lib.hid (R1.out.trans r2)
      clear r2
      refine hK' _ _ (⟨A3.out, A4.out⟩) ?_
      clear hK'
      try simp only [Act.put, List.setIfInBounds_toArray, List.set_cons_zero, List.set_cons_succ]
      repeat (first
        | (refine Lex.skips (by rfl) ?_; (try simp only [Act.put, List.setIfInBounds_toArray, List.set_cons_zero, List.set_cons_succ]))
        | (refine Lex.quiet (v := ?_) (by rfl) (by rfl) ?_ ?_; rotate_left; (focus (intro w' hS'; go_simp; try rfl)); (try simp only [Act.put, List.setIfInBounds_toArray, List.set_cons_zero, List.set_cons_succ])))
      refine Lex.done ?_
      refine Lex.ends ?_
      cases q
      · have HF := Lib.hid (HB.out HD.out.symm)
        go_wp2_with fail
        go_ret
        exact ⟨by rw [HF.out]; rfl, R2.out⟩
      · have HF := Lib.hid (HT.out HD.out.symm)
        go_wp2_with fail
        go_roundw
        case rel => exact ⟨k + 1, by omega, by go_num, HF, R2⟩
        case measure => first | (simp [intOf]; done) | (simp [intOf]; omega)
    · obtain rfl : k = is.length := by omega
      have HF : Hid (decide (is = js) = true) := Lib.hid (by
        have h := hpre.out
        rw [List.take_length, ← HJL.out, List.take_length] at h
        exact decide_eq_true h)
      go_wp2_with fail
      go_ret
      exact ⟨by rw [HF.out]; rfl, hfr.out⟩

set_option maxRecDepth 100000 in
set_option maxHeartbeats 8000000 in
theorem refsame_mod (w : World) (m m' : Mx) (da fa db fb : Option Addr) (dc fc dd fd : Nat) (hm : ModIn w m da dc fa) (hn : ModIn w m' db dd fb) (hs : m.Small) (hs' : m'.Small) :
    Calls Tryz.prog 98 #[.agg #[.slice da m.d.length dc, .slice fa m.f.length fc], .agg #[.slice db m'.d.length dd, .slice fb m'.f.length fd]] w fun e w' => e = .returned (.bool (decide (m = m'))) ∧ Fr no w w' := by
  obtain ⟨ds, is⟩ := m
  obtain ⟨es, js⟩ := m'
  obtain ⟨s1, s2, s3, s4⟩ := hs
  obtain ⟨t1, t2, t3, t4⟩ := hs'
  dsimp only at s1 s2 s3 s4 t1 t2 t3 t4 ⊢
  have r1 := (Fr.refl no w).alloc (.cells #[.slice da ds.length dc, .slice fa is.length fc] 25)
  have r2 := r1.alloc (.cells #[.slice db es.length dd, .slice fb js.length fd] 25)
  have q2 := (Fr.refl no (w.alloc (.cells #[.slice da ds.length dc, .slice fa is.length fc] 25))).alloc (.cells #[.slice db es.length dd, .slice fb js.length fd] 25)
  have R2 := Lib.hid r2
  have H1 := Lib.hid (q2.heap (modObj w (.slice da ds.length dc) (.slice fa is.length fc)) (by simp))
  have h2 := (modObj (w.alloc (.cells #[.slice da ds.length dc, .slice fa is.length fc] 25)) (.slice db es.length dd) (.slice fb js.length fd))
  rw [World.size_alloc] at h2
  have H2 := Lib.hid h2
  have A1 := conv_reads (hm.data.fr r2 (by simp)) 9 Tryz.underlying9
  have A2 := conv_reads (hn.data.fr r2 (by simp)) 9 Tryz.underlying9
  have HX := Lib.hid (strB_eq ds es s4 t4)
  have HIN := Lib.hid (hm.fns.fr r2)
  have HJN := Lib.hid (hn.fns.fr r2)
  have S3 := Lib.hid s3
  have T3 := Lib.hid t3
  have HD : Hid (decide ((⟨ds, is⟩ : Mx) = ⟨es, js⟩) = (decide (ds = es) && decide (is = js))) := Lib.hid (by simp)
  generalize decide ((⟨ds, is⟩ : Mx) = ⟨es, js⟩) = q at *
  generalize decide (ds = es) = qd at *
  clear r1 r2 q2 h2 hm hn s3 s4 t3 t4
  go_enter Tryz.func98, Tryz.ntmps98
  obtain ⟨e0, e1⟩ := cells2 H1.out
  obtain ⟨d0, d1⟩ := cells2 H2.out
  generalize strB ds = sd at *
  generalize strB es = se at *
  cases qd
  · have x0 : (sd.toList == se.toList) = false := HX.out
    have x0' : (sd.toList != se.toList) = true := by rw [bne, x0]; rfl
    have HF : Hid (q = false) := Lib.hid (by rw [HD.out]; rfl)
    go_wp2_with fail
    go_ret
    exact ⟨by rw [HF.out]; rfl, R2.out⟩
  have x0 : (sd.toList == se.toList) = true := HX.out
  have x0' : (sd.toList != se.toList) = false := by rw [bne, x0]; rfl
  have HF : Hid (q = decide (is = js)) := Lib.hid (by rw [HD.out]; rfl)
  clear HD
  by_cases hl : is.length = js.length
  case neg =>
    have x1 : ((is.length : Int) != (js.length : Int)) = true := by rw [bne_iff_ne]; omega
    have HN : Hid (decide (is = js) = false) := Lib.hid (decide_eq_false (fun e => hl (by rw [e])))
    clear hl
    go_wp2_with fail
    go_ret
    exact ⟨by rw [HF.out, HN.out]; rfl, R2.out⟩
  have hl0 := hl
  clear hl
  generalize hmm : js.length = mm at *
  obtain rfl : mm = is.length := by omega
  have HJL := Lib.hid hmm
  clear hmm hl0
  go_wp2_with fail
  clear A1 A2 x0 x0'
  generalize (w.alloc (.cells #[.slice da ds.length dc, .slice fa is.length fc] 25)).alloc (.cells #[.slice db es.length dd, .slice fb is.length fd] 25) = wz at *
  go_loopw [5] (fun x wr => ∃ k : Nat, k ≤ is.length ∧ x = .int .i64 k ∧ Hid (is.take k = js.take k) ∧ Hid (Fr no wz wr)) (fun x _ => (is.length - intOf x).toNat)
  case atStart => exact ⟨0, by omega, rfl, Lib.hid rfl, Lib.hid (Fr.refl _ _)⟩
  case round =>
    obtain ⟨k, hk, rfl, hpre, hfr⟩ := hrel
    have g0 := hfr.out.cell e1 (by simp)
    by_cases hks : k < is.length
    · have hks' : (k : Int) < is.length := by omega
      have hkj : k < js.length := by have := HJL.out; omega
      obtain ⟨b1, o1, v1, c1, rfl, h1⟩ := HIN.out.fr hfr.out k hks
      obtain ⟨b2, o2, v2, c2, rfl, h2⟩ := HJN.out.fr hfr.out k hkj
      obtain ⟨i1, hi1⟩ : ∃ i, i = is[k] := ⟨_, rfl⟩
      obtain ⟨i2, hi2⟩ : ∃ i, i = js[k] := ⟨_, rfl⟩
      have HSC := Lib.hid (fun w1 (r : Fr no wr w1) => refsamecode_ok w1 v1 v2 c1 c2 i1.c i2.c (by rw [hi1]; exact h1.code.fr r) (by rw [hi2]; exact h2.code.fr r) (by have := (S3.out _ (List.getElem_mem hks)).1; rw [hi1]; omega) (by rw [hi1]; exact fun i hi => by have := (S3.out _ (List.getElem_mem hks)).2 i hi; omega) (by have := (T3.out _ (List.getElem_mem hkj)).1; rw [hi2]; omega) (by rw [hi2]; exact fun i hi => by have := (T3.out _ (List.getElem_mem hkj)).2 i hi; omega))
      have HDD : Hid (decide (i1 = i2) = decide (is.take (k + 1) = js.take (k + 1))) := Lib.hid (by
        rw [List.take_succ_eq_append_getElem hks, List.take_succ_eq_append_getElem hkj, hpre.out, ← hi1, ← hi2]
        simp)
      have HB : Hid (decide (is.take (k + 1) = js.take (k + 1)) = false → decide (is = js) = false) := Lib.hid (fun h => decide_eq_false (fun e => by rw [e] at h; simp at h))
      have HT : Hid (decide (is.take (k + 1) = js.take (k + 1)) = true → is.take (k + 1) = js.take (k + 1)) := Lib.hid (fun h => by simpa using h)
      obtain ⟨p0, p1, p2, p3⟩ := h1.four
      have P1 := Lib.hid h1.cell
      have P2 := Lib.hid h2.cell
      rw [← hi1] at P1
      rw [← hi2] at P2
      have G1 := Lib.hid (hfr.out.cell e1 (by simp))
      have G2 := Lib.hid (hfr.out.cell d1 (by simp))
      clear h1 h2 hi1 hi2
      obtain ⟨qq, hq0⟩ : ∃ q, decide (i1 = i2) = q := ⟨_, rfl⟩
      rw [hq0] at HDD
      have HQ0 := Lib.hid hq0
      clear hq0
      obtain ⟨a1, a2, a3, a6⟩ := i1
      obtain ⟨z1, z2, z3, z6⟩ := i2
      unfold Fx.cells at P1 P2
      dsimp only at P1 P2 HSC
      have hkb : (k : Int) < is.length := hks'
      go_upto_region 6 with fail
      refine Inv.free _ [31, 32, 33, 34, 35, 36, 37, 38, 39, 40, 6, 7] [⟨10, 4, 12, 6, 35, 41, 4⟩, ⟨11, 9, 13, 7, 40, 41, 4⟩] (fun i => [31, 32, 33, 34, 35, 36, 37, 38, 39, 40].getD i 0) (fun i v _ => match i with | 0 => v = .pointer (some ⟨w.heap.size, 1, none⟩) | 1 => v = .slice (some ⟨b1, o1, none⟩) is.length fc | 2 => v = .int .i64 k | 3 => v = .pointer (some ⟨b1, o1 + k * 4, none⟩) | 4 => v = .agg #[.int .i64 a1, .int .i64 a2, .int .i64 a3, .slice v1 a6.length c1] | 5 => v = .pointer (some ⟨w.heap.size + 1, 1, none⟩) | 6 => v = .slice (some ⟨b2, o2, none⟩) is.length fd | 7 => v = .int .i64 k | 8 => v = .pointer (some ⟨b2, o2 + k * 4, none⟩) | 9 => v = .agg #[.int .i64 z1, .int .i64 z2, .int .i64 z3, .slice v2 z6.length c2] | _ => True) (by kernel_rfl) (by kernel_rfl) (by decide) (by kernel_rfl) 68 rfl (by decide) ?_ ?_ ?_ ?_ ?_ ?_ ?_ ?_
      · exact fun i v w1 w2 S _ h _ _ => h
      · intro p hp
        simp only [List.mem_cons, List.not_mem_nil, or_false] at hp
        rcases hp with rfl | rfl
        · exact ⟨_, rfl, rfl, rfl⟩
        · exact ⟨_, rfl, rfl, rfl⟩
      · intro p hp
        simp only [List.mem_cons, List.not_mem_nil, or_false] at hp
        rcases hp with rfl | rfl
        · exact ⟨_, rfl, rfl, rfl, ⟨⟨10, .data⟩, by simp, rfl, rfl⟩, ⟨⟨4, .data⟩, by simp, rfl, rfl⟩⟩
        · exact ⟨_, rfl, rfl, rfl, ⟨⟨11, .data⟩, by simp, rfl, rfl⟩, ⟨⟨9, .data⟩, by simp, rfl, rfl⟩⟩
      · intro p hp
        simp only [List.mem_cons, List.not_mem_nil, or_false] at hp
        rcases hp with rfl | rfl
        · exact ⟨.agg zeroFn , fun w => (by kernel_rfl), rfl⟩
        · exact ⟨.agg zeroFn, fun w => (by kernel_rfl), rfl⟩
      · intro p hp
        simp only [List.mem_cons, List.not_mem_nil, or_false] at hp
        rcases hp with rfl | rfl
        · kernel_rfl
        · kernel_rfl
      · intro p hp
        simp only [List.mem_cons, List.not_mem_nil, or_false] at hp
        rcases hp with rfl | rfl
        · intro u w1 hu; exact ⟨_, hu, rfl, by simp [Value.oneCell']⟩
        · intro u w1 hu; exact ⟨_, hu, rfl, by simp [Value.oneCell']⟩
      · skip
        intro i o ho hs x dn wq rq hdep hV hnd hun hcl
        have hlt := (List.getElem?_eq_some_iff.1 ho).1
        simp only [List.length_cons, List.length_nil] at hlt
        obtain rfl | rfl | rfl | rfl | rfl | rfl | rfl | rfl | rfl | rfl | rfl | rfl | rfl | rfl : i = 0 ∨ i = 1 ∨ i = 2 ∨ i = 3 ∨ i = 4 ∨ i = 5 ∨ i = 6 ∨ i = 7 ∨ i = 8 ∨ i = 9 ∨ i = 10 ∨ i = 11 ∨ i = 12 ∨ i = 13 := by omega
        all_goals cases ho
        all_goals try (exact absurd hs (by decide))
        all_goals (unfold Inv.over; simp only [List.foldl_cons, List.foldl_nil, List.setIfInBounds_toArray, List.set_cons_zero, List.set_cons_succ])
        · skip
          refine Inv.Step.value (v := .pointer (some ⟨w.heap.size, 1, none⟩)) ?_ ⟨_, rfl, rfl, Fr.refl _ _⟩
          go_simp
        · skip
          have g1 := rq.cell G1.out (by simp)
          have h0 : x 31 = .pointer (some ⟨w.heap.size, 1, none⟩) := hV 0 (hdep ⟨0, .data⟩ (by simp) rfl) rfl
          refine Inv.Step.value (v := .slice (some ⟨b1, o1, none⟩) is.length fc) ?_ ⟨_, rfl, rfl, Fr.refl _ _⟩
          go_simp
        · skip
          refine Inv.Step.value (v := .int .i64 k) ?_ ⟨_, rfl, rfl, Fr.refl _ _⟩
          go_simp
        · skip
          have h1 : x 32 = .slice (some ⟨b1, o1, none⟩) is.length fc := hV 1 (hdep ⟨1, .data⟩ (by simp) rfl) rfl
          have h2 : x 33 = .int .i64 k := hV 2 (hdep ⟨2, .data⟩ (by simp) rfl) rfl
          refine Inv.Step.value (v := .pointer (some ⟨b1, o1 + k * 4, none⟩)) ?_ ⟨_, rfl, rfl, Fr.refl _ _⟩
          go_simp
        · skip
          have h3 : x 34 = .pointer (some ⟨b1, o1 + k * 4, none⟩) := hV 3 (hdep ⟨3, .data⟩ (by simp) rfl) rfl
          exact Inv.Step.load_in _ _ rfl _ _ h3 _ _ (P1.out.fr rq) Tryz.underlying41 rfl (by rw [Tryz.infoFunc]; rfl) ⟨_, rfl, rfl, Fr.refl _ _⟩
        · skip
          refine Inv.Step.value (v := .pointer (some ⟨w.heap.size + 1, 1, none⟩)) ?_ ⟨_, rfl, rfl, Fr.refl _ _⟩
          go_simp
        · have g1 := rq.cell G2.out (by simp)
          have h0 : x 36 = .pointer (some ⟨w.heap.size + 1, 1, none⟩) := hV 5 (hdep ⟨5, .data⟩ (by simp) rfl) rfl
          refine Inv.Step.value (v := .slice (some ⟨b2, o2, none⟩) is.length fd) ?_ ⟨_, rfl, rfl, Fr.refl _ _⟩
          go_simp
        · skip
          refine Inv.Step.value (v := .int .i64 k) ?_ ⟨_, rfl, rfl, Fr.refl _ _⟩
          go_simp
        · skip
          have h1 : x 37 = .slice (some ⟨b2, o2, none⟩) is.length fd := hV 6 (hdep ⟨6, .data⟩ (by simp) rfl) rfl
          have h2 : x 38 = .int .i64 k := hV 7 (hdep ⟨7, .data⟩ (by simp) rfl) rfl
          refine Inv.Step.value (v := .pointer (some ⟨b2, o2 + k * 4, none⟩)) ?_ ⟨_, rfl, rfl, Fr.refl _ _⟩
          go_simp
        · skip
          have h3 : x 39 = .pointer (some ⟨b2, o2 + k * 4, none⟩) := hV 8 (hdep ⟨8, .data⟩ (by simp) rfl) rfl
          exact Inv.Step.load_in _ _ rfl _ _ h3 _ _ (P2.out.fr rq) Tryz.underlying41 rfl (by rw [Tryz.infoFunc]; rfl) ⟨_, rfl, rfl, Fr.refl _ _⟩
      · skip
        intro x wq rq hV hvar hne
        unfold Inv.over
        simp only [List.foldl_cons, List.foldl_nil, List.setIfInBounds_toArray, List.set_cons_zero, List.set_cons_succ]
        obtain ⟨b6, c6, y6, -, hb6, v6⟩ := hvar ⟨10, 4, 12, 6, 35, 41, 4⟩ (by simp)
        obtain ⟨b7, c7, y7, -, hb7, v7⟩ := hvar ⟨11, 9, 13, 7, 40, 41, 4⟩ (by simp)
        have h4 : x 35 = .agg #[.int .i64 a1, .int .i64 a2, .int .i64 a3, .slice v1 a6.length c1] := hV 4 (by decide) rfl
        have h9 : x 40 = .agg #[.int .i64 z1, .int .i64 z2, .int .i64 z3, .slice v2 z6.length c2] := hV 9 (by decide) rfl
        dsimp only at y6 y7 v6 v7 hb6 hb7
        rw [h4] at v6
        rw [h9] at v7
        cases v6
        cases v7
        rw [y6, y7]
        have B6 := Lib.hid hb6
        have B7 := Lib.hid hb7
        have RQ := Lib.hid rq
        have HS1 := Lib.hid (HSC.out _ rq)
        clear y6 y7 hb6 hb7 h4 h9 hV hvar hne rq HSC
        generalize x 31 = y31
        generalize x 32 = y32
        generalize x 33 = y33
        generalize x 34 = y34
        generalize x 35 = y35
        generalize x 36 = y36
        generalize x 37 = y37
        generalize x 38 = y38
        generalize x 39 = y39
        generalize x 40 = y40
        clear x
        obtain ⟨f0, f1, f2, f3⟩ := cells4 B6.out
        obtain ⟨k0, k1, k2, k3⟩ := cells4 B7.out
        have HQQ : Hid (qq = (decide (a1 = z1) && (decide (a2 = z2) && (decide (a3 = z3) && decide (a6 = z6))))) := Lib.hid (by rw [← HQ0.out]; simp)
        clear HQ0
        generalize decide (a6 = z6) = qc at *
        by_cases n1 : a1 = z1
        case neg =>
          have X : (a1 != z1) = true := by simpa using n1
          have HFF := Lib.hid (HB.out (by rw [← HDD.out, HQQ.out, decide_eq_false n1]; simp))
          clear n1
          go_wp2_with fail
          go_ret
          exact ⟨by rw [HF.out, HFF.out]; rfl, R2.out.trans (hfr.out.trans RQ.out)⟩
        have Xn1 : (a1 != z1) = false := by simpa using n1
        by_cases n2 : a2 = z2
        case neg =>
          have X : (a2 != z2) = true := by simpa using n2
          have HFF := Lib.hid (HB.out (by rw [← HDD.out, HQQ.out, decide_eq_false n2]; simp))
          clear n2
          go_wp2_with fail
          go_ret
          exact ⟨by rw [HF.out, HFF.out]; rfl, R2.out.trans (hfr.out.trans RQ.out)⟩
        have Xn2 : (a2 != z2) = false := by simpa using n2
        by_cases n3 : a3 = z3
        case neg =>
          have X : (a3 != z3) = true := by simpa using n3
          have HFF := Lib.hid (HB.out (by rw [← HDD.out, HQQ.out, decide_eq_false n3]; simp))
          clear n3
          go_wp2_with fail
          go_ret
          exact ⟨by rw [HF.out, HFF.out]; rfl, R2.out.trans (hfr.out.trans RQ.out)⟩
        have Xn3 : (a3 != z3) = false := by simpa using n3
        have HQ3 : Hid (qq = qc) := Lib.hid (by rw [HQQ.out, decide_eq_true n1, decide_eq_true n2, decide_eq_true n3]; simp)
        clear n1 n2 n3 HQQ
        go_wp2_with fail
        refine HS1.out.mono ?_
        rintro e w6 ⟨rfl, r6⟩
        have R6 := Lib.hid ((hfr.out.trans RQ.out).trans r6)
        clear r6 f0 f1 f2 f3 k0 k1 k2 k3 HS1
        cases qc
        · have HFF := Lib.hid (HB.out (by rw [← HDD.out, HQ3.out]))
          go_wp2_with fail
          go_ret
          exact ⟨by rw [HF.out, HFF.out]; rfl, R2.out.trans R6.out⟩
        · have HFF := Lib.hid (HT.out (by rw [← HDD.out, HQ3.out]))
          have gg := R6.out.cell e1 (by simp)
          go_wp2_with fail
          go_roundw
          case rel => exact ⟨k + 1, by omega, by go_num, HFF, R6⟩
          case measure => first | (simp [intOf]; done) | (simp [intOf]; omega)
    · obtain rfl : k = is.length := by omega
      have HE : Hid (decide (is = js) = true) := Lib.hid (decide_eq_true (by
        have := hpre.out
        rwa [List.take_length, ← HJL.out, List.take_length] at this))
      go_wp2_with fail
      go_ret
      exact ⟨by rw [HF.out, HE.out]; rfl, R2.out.trans hfr.out⟩

/-- bytes that are written over, their spare room too: only their own block turns -/
theorem overbytes_ok (w : World) (B : Nat) (v : Value) (n : Nat) (xs : List Value) (ho : w.ownsRow B 5 1 v n xs) (hn : Nums .u8 w v) :
    Calls Tryz.prog 50 #[v] w fun e w' => e = .returned (.tuple #[]) ∧ Fr (fun k => v.ownBlock = some k) w w' := by
  rcases ho.2 with ⟨rfl, rfl⟩ | ⟨g, cap, cur, rfl, hb, hg, h1, h2, h3, h4⟩
  · clear ho hn
    go_enter Tryz.func50, Tryz.ntmps50
    go_wp2_with fail
    go_loopw [3] (fun x wr => x = .int .i64 0 ∧ wr = w) (fun _ _ => 0)
    case atStart => exact ⟨rfl, rfl⟩
    case round =>
      obtain ⟨rfl, rfl⟩ := hrel
      go_wp2_with fail
      exact ⟨rfl, .tuple #[], by simp [results], rfl, Fr.refl _ _⟩
  · have hc : cap < 9223372036854775808 := by have := h2; unfold maxLen at this; omega
    have hn' : n ≤ cap := h1
    have hz : cur.size = cap := by omega
    have HG0 : Hid (∃ cur : Array Value, w.heap[g]? = some (.cells cur 5 (0, 0)) ∧ cur.size = cap ∧ ∀ x ∈ cur.toList, ∃ q : Int, x = .int .u8 q) := Lib.hid ⟨cur, hg, hz, hn g cur _ _ rfl hg⟩
    clear ho hb hg h1 h2 h3 h4 hz hn
    go_enter Tryz.func50, Tryz.ntmps50
    go_wp2_with fail
    go_loopw [3] (fun x wr => ∃ k : Nat, k ≤ cap ∧ x = .int .i64 k ∧ Hid (∃ cur : Array Value, wr.heap[g]? = some (.cells cur 5 (0, 0)) ∧ cur.size = cap ∧ ∀ x ∈ cur.toList, ∃ q : Int, x = .int .u8 q) ∧ Hid (Fr (only [g]) w wr)) (fun x _ => (cap - intOf x).toNat)
    case atStart => exact ⟨0, by omega, rfl, HG0, Lib.hid (Fr.refl _ _)⟩
    case round =>
      obtain ⟨k, hk, rfl, hg, hf⟩ := hrel
      by_cases hkc : k < cap
      · have hkc' : (k : Int) < cap := by omega
        obtain ⟨cur, h1, h2, h3⟩ := hg.out
        obtain ⟨q, hq⟩ := h3 (cur[k]'(by omega)) (by simp)
        have c1 : wr.cell? ⟨g, 0 + k, none⟩ = some (.int .u8 q) := by rw [← hq]; exact cell_of_heap h1 (by rw [Nat.zero_add]; simp)
        rw [Nat.zero_add] at c1
        have f1 : wr.frozen? ⟨g, k, none⟩ = false := frozen_of_heap h1
        have HN := Lib.hid (fun z : Int => (⟨_, heap_setCell (v := .int .u8 z) h1, by simpa using h2, by
          intro x hx
          rw [Array.toList_setIfInBounds] at hx
          rcases List.mem_or_eq_of_mem_set hx with hx | hx
          · exact h3 x hx
          · exact ⟨z, hx⟩⟩ : ∃ cur' : Array Value, (wr.setCell ⟨g, k, none⟩ (.int .u8 z)).heap[g]? = some (.cells cur' 5 (0, 0)) ∧ cur'.size = cap ∧ ∀ x ∈ cur'.toList, ∃ q : Int, x = .int .u8 q))
        have HF := Lib.hid (fun z : Int => hf.out.setCell ⟨g, k, none⟩ (.int .u8 z) (.inl (by simp)))
        clear h1 h2 h3 hq hg hf
        go_wp2_with fail
        go_roundw
        case rel => exact ⟨k + 1, by omega, by go_num, Lib.hid (HN.out _), Lib.hid (HF.out _)⟩
        case measure => first | (simp [intOf]; done) | (simp [intOf]; omega)
      · obtain rfl : k = cap := by omega
        go_wp2_with fail
        exact ⟨rfl, .tuple #[], by simp [results], rfl, hf.out.mono (fun i hi => by simp at hi; simp [Value.ownBlock, hi])⟩

end Go.Proofs.YtihnkijeefkefaaGreat

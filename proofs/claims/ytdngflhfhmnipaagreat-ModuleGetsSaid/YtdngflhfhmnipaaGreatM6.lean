/- kit's SameModule. -/
import Derived.Test.YtdngflhfhmnipaaGreatM5
import Derived.Test.YtdngflhfhmnipaaGreatFree
set_option linter.unusedSimpArgs false
set_option linter.unusedVariables false
set_option linter.unusedSectionVars false
set_option linter.unnecessarySimpa false
namespace Go.Proofs.YtdngflhfhmnipaaGreat
open Go.RowKit

attribute [local go_sem] Program.isFuncB Program.isSliceB

variable {w w' w'' w0 : World}

theorem Tryz.infoFunc : (Tryz.prog.info? 44).map (·.size) = some 4 := by kernel_rfl
set_option maxRecDepth 100000 in
set_option maxHeartbeats 8000000 in
theorem kitsame_ok (w : World) (m m' : Mx) (da fa db fb : Option Addr) (dc fc dd fd : Nat) (hm : ModIn w m da dc fa) (hn : ModIn w m' db dd fb) (hs : m.Small) (hs' : m'.Small) :
    Calls Tryz.prog 16 #[.agg #[.slice da m.d.length dc, .slice fa m.f.length fc], .agg #[.slice db m'.d.length dd, .slice fb m'.f.length fd]] w fun e w' => e = .returned (.bool (decide (m = m'))) ∧ Fr no w w' := by
  obtain ⟨ds, is⟩ := m
  obtain ⟨es, js⟩ := m'
  obtain ⟨s1, s2, s3, s4⟩ := hs
  obtain ⟨t1, t2, t3, t4⟩ := hs'
  dsimp only at s1 s2 s3 s4 t1 t2 t3 t4 ⊢
  have r1 := (Fr.refl no w).alloc (.cells #[.slice da ds.length dc, .slice fa is.length fc] 25)
  have r2 := r1.alloc (.cells #[.slice db es.length dd, .slice fb js.length fd] 25)
  have q2 := (Fr.refl no (w.alloc (.cells #[.slice da ds.length dc, .slice fa is.length fc] 25))).alloc (.cells #[.slice db es.length dd, .slice fb js.length fd] 25)
  have R2 := Lib.hid r2
  have H1 := Lib.hid (q2.heap (modObj w (.slice da ds.length dc) (.slice fa is.length fc)) (by simp))
  have h2 := (modObj (w.alloc (.cells #[.slice da ds.length dc, .slice fa is.length fc] 25)) (.slice db es.length dd) (.slice fb js.length fd))
  rw [World.size_alloc] at h2
  have H2 := Lib.hid h2
  have SB := Lib.hid (samebytes_ok _ _ _ ds es (hm.data.fr r2 (by simp)) (hn.data.fr r2 (by simp)) s4 t4)
  have HIN := Lib.hid (hm.fns.fr r2)
  have HJN := Lib.hid (hn.fns.fr r2)
  have S3 := Lib.hid s3
  have T3 := Lib.hid t3
  have HD : Hid (decide ((⟨ds, is⟩ : Mx) = ⟨es, js⟩) = (decide (ds = es) && decide (is = js))) := Lib.hid (by simp)
  generalize decide ((⟨ds, is⟩ : Mx) = ⟨es, js⟩) = q at *
  generalize decide (ds = es) = qd at *
  clear r1 r2 q2 h2 hm hn s3 s4 t3 t4
  go_enter Tryz.func16, Tryz.ntmps16
  obtain ⟨e0, e1⟩ := cells2 H1.out
  obtain ⟨d0, d1⟩ := cells2 H2.out
  go_wp2_with fail
  refine SB.out.mono ?_
  rintro e w1 ⟨rfl, rfl⟩
  clear SB
  cases qd
  · have HF : Hid (q = false) := Lib.hid (by rw [HD.out]; rfl)
    go_wp2_with fail
    go_ret
    exact ⟨by rw [HF.out]; rfl, R2.out⟩
  have HF : Hid (q = decide (is = js)) := Lib.hid (by rw [HD.out]; rfl)
  clear HD
  by_cases hl : is.length = js.length
  case neg =>
    have x1 : ((is.length : Int) != (js.length : Int)) = true := by rw [bne_iff_ne]; omega
    have HN : Hid (decide (is = js) = false) := Lib.hid (decide_eq_false (fun e => hl (by rw [e])))
    clear hl
    go_wp2_with fail
    go_ret
    exact ⟨by rw [HF.out, HN.out]; rfl, R2.out⟩
  have hl0 := hl
  clear hl
  generalize hmm : js.length = mm at *
  obtain rfl : mm = is.length := by omega
  have HJL := Lib.hid hmm
  clear hmm hl0
  go_wp2_with fail
  generalize (w.alloc (.cells #[.slice da ds.length dc, .slice fa is.length fc] 25)).alloc (.cells #[.slice db es.length dd, .slice fb is.length fd] 25) = wz at *
  go_loopw [5] (fun x wr => ∃ k : Nat, k ≤ is.length ∧ x = .int .i64 k ∧ Hid (is.take k = js.take k) ∧ Hid (Fr no wz wr)) (fun x _ => (is.length - intOf x).toNat)
  case atStart => exact ⟨0, by omega, rfl, Lib.hid rfl, Lib.hid (Fr.refl _ _)⟩
  case round =>
    obtain ⟨k, hk, rfl, hpre, hfr⟩ := hrel
    have g0 := hfr.out.cell e1 (by simp)
    by_cases hks : k < is.length
    · have hks' : (k : Int) < is.length := by omega
      have hkj : k < js.length := by have := HJL.out; omega
      obtain ⟨b1, o1, v1, c1, rfl, h1⟩ := HIN.out.fr hfr.out k hks
      obtain ⟨b2, o2, v2, c2, rfl, h2⟩ := HJN.out.fr hfr.out k hkj
      obtain ⟨i1, hi1⟩ : ∃ i, i = is[k] := ⟨_, rfl⟩
      obtain ⟨i2, hi2⟩ : ∃ i, i = js[k] := ⟨_, rfl⟩
      have HSC := Lib.hid (fun w1 (r : Fr no wr w1) => samecode_ok w1 v1 v2 c1 c2 i1.c i2.c (by rw [hi1]; exact h1.code.fr r) (by rw [hi2]; exact h2.code.fr r) (by have := (S3.out _ (List.getElem_mem hks)).1; rw [hi1]; omega) (by rw [hi1]; exact fun i hi => by have := (S3.out _ (List.getElem_mem hks)).2 i hi; omega) (by have := (T3.out _ (List.getElem_mem hkj)).1; rw [hi2]; omega))
      have HDD : Hid (decide (i1 = i2) = decide (is.take (k + 1) = js.take (k + 1))) := Lib.hid (by
        rw [List.take_succ_eq_append_getElem hks, List.take_succ_eq_append_getElem hkj, hpre.out, ← hi1, ← hi2]
        simp)
      have HB : Hid (decide (is.take (k + 1) = js.take (k + 1)) = false → decide (is = js) = false) := Lib.hid (fun h => decide_eq_false (fun e => by rw [e] at h; simp at h))
      have HT : Hid (decide (is.take (k + 1) = js.take (k + 1)) = true → is.take (k + 1) = js.take (k + 1)) := Lib.hid (fun h => by simpa using h)
      obtain ⟨p0, p1, p2, p3⟩ := h1.four
      have P1 := Lib.hid h1.cell
      have P2 := Lib.hid h2.cell
      rw [← hi1] at P1
      rw [← hi2] at P2
      have G1 := Lib.hid (hfr.out.cell e1 (by simp))
      have G2 := Lib.hid (hfr.out.cell d1 (by simp))
      clear h1 h2 hi1 hi2
      obtain ⟨qq, hq0⟩ : ∃ q, decide (i1 = i2) = q := ⟨_, rfl⟩
      rw [hq0] at HDD
      have HQ0 := Lib.hid hq0
      clear hq0
      obtain ⟨a1, a2, a3, a6⟩ := i1
      obtain ⟨z1, z2, z3, z6⟩ := i2
      unfold Fx.cells at P1 P2
      dsimp only at P1 P2 HSC
      have hkb : (k : Int) < is.length := hks'
      go_upto_region 6 with fail
      refine Inv.free _ [30, 31, 32, 33, 34, 35, 36, 37, 38, 39, 6, 7] [⟨10, 4, 12, 6, 34, 44, 4⟩, ⟨11, 9, 13, 7, 39, 44, 4⟩] (fun i => [30, 31, 32, 33, 34, 35, 36, 37, 38, 39].getD i 0) (fun i v _ => match i with | 0 => v = .pointer (some ⟨w.heap.size, 1, none⟩) | 1 => v = .slice (some ⟨b1, o1, none⟩) is.length fc | 2 => v = .int .i64 k | 3 => v = .pointer (some ⟨b1, o1 + k * 4, none⟩) | 4 => v = .agg #[.int .i64 a1, .int .i64 a2, .int .i64 a3, .slice v1 a6.length c1] | 5 => v = .pointer (some ⟨w.heap.size + 1, 1, none⟩) | 6 => v = .slice (some ⟨b2, o2, none⟩) is.length fd | 7 => v = .int .i64 k | 8 => v = .pointer (some ⟨b2, o2 + k * 4, none⟩) | 9 => v = .agg #[.int .i64 z1, .int .i64 z2, .int .i64 z3, .slice v2 z6.length c2] | _ => True) (by kernel_rfl) (by kernel_rfl) (by decide) (by kernel_rfl) 67 rfl (by decide) ?_ ?_ ?_ ?_ ?_ ?_ ?_ ?_
      · exact fun i v w1 w2 S _ h _ _ => h
      · intro p hp
        simp only [List.mem_cons, List.not_mem_nil, or_false] at hp
        rcases hp with rfl | rfl
        · exact ⟨_, rfl, rfl, rfl⟩
        · exact ⟨_, rfl, rfl, rfl⟩
      · intro p hp
        simp only [List.mem_cons, List.not_mem_nil, or_false] at hp
        rcases hp with rfl | rfl
        · exact ⟨_, rfl, rfl, rfl, ⟨⟨10, .data⟩, by simp, rfl, rfl⟩, ⟨⟨4, .data⟩, by simp, rfl, rfl⟩⟩
        · exact ⟨_, rfl, rfl, rfl, ⟨⟨11, .data⟩, by simp, rfl, rfl⟩, ⟨⟨9, .data⟩, by simp, rfl, rfl⟩⟩
      · intro p hp
        simp only [List.mem_cons, List.not_mem_nil, or_false] at hp
        rcases hp with rfl | rfl
        · exact ⟨.agg zeroFn , fun w => (by kernel_rfl), rfl⟩
        · exact ⟨.agg zeroFn, fun w => (by kernel_rfl), rfl⟩
      · intro p hp
        simp only [List.mem_cons, List.not_mem_nil, or_false] at hp
        rcases hp with rfl | rfl
        · kernel_rfl
        · kernel_rfl
      · intro p hp
        simp only [List.mem_cons, List.not_mem_nil, or_false] at hp
        rcases hp with rfl | rfl
        · intro u w1 hu; exact ⟨_, hu, rfl, by simp [Value.oneCell']⟩
        · intro u w1 hu; exact ⟨_, hu, rfl, by simp [Value.oneCell']⟩
      · skip
        intro i o ho hs x dn wq rq hdep hV hnd hun hcl
        have hlt := (List.getElem?_eq_some_iff.1 ho).1
        simp only [List.length_cons, List.length_nil] at hlt
        obtain rfl | rfl | rfl | rfl | rfl | rfl | rfl | rfl | rfl | rfl | rfl | rfl | rfl | rfl : i = 0 ∨ i = 1 ∨ i = 2 ∨ i = 3 ∨ i = 4 ∨ i = 5 ∨ i = 6 ∨ i = 7 ∨ i = 8 ∨ i = 9 ∨ i = 10 ∨ i = 11 ∨ i = 12 ∨ i = 13 := by omega
        all_goals cases ho
        all_goals try (exact absurd hs (by decide))
        all_goals (unfold Inv.over; simp only [List.foldl_cons, List.foldl_nil, List.setIfInBounds_toArray, List.set_cons_zero, List.set_cons_succ])
        · skip
          refine Inv.Step.value (v := .pointer (some ⟨w.heap.size, 1, none⟩)) ?_ ⟨_, rfl, rfl, Fr.refl _ _⟩
          go_simp
        · skip
          have g1 := rq.cell G1.out (by simp)
          have h0 : x 30 = .pointer (some ⟨w.heap.size, 1, none⟩) := hV 0 (hdep ⟨0, .data⟩ (by simp) rfl) rfl
          refine Inv.Step.value (v := .slice (some ⟨b1, o1, none⟩) is.length fc) ?_ ⟨_, rfl, rfl, Fr.refl _ _⟩
          go_simp
        · skip
          refine Inv.Step.value (v := .int .i64 k) ?_ ⟨_, rfl, rfl, Fr.refl _ _⟩
          go_simp
        · skip
          have h1 : x 31 = .slice (some ⟨b1, o1, none⟩) is.length fc := hV 1 (hdep ⟨1, .data⟩ (by simp) rfl) rfl
          have h2 : x 32 = .int .i64 k := hV 2 (hdep ⟨2, .data⟩ (by simp) rfl) rfl
          refine Inv.Step.value (v := .pointer (some ⟨b1, o1 + k * 4, none⟩)) ?_ ⟨_, rfl, rfl, Fr.refl _ _⟩
          go_simp
        · skip
          have h3 : x 33 = .pointer (some ⟨b1, o1 + k * 4, none⟩) := hV 3 (hdep ⟨3, .data⟩ (by simp) rfl) rfl
          exact Inv.Step.load_in _ _ rfl _ _ h3 _ _ (P1.out.fr rq) Tryz.underlying44 rfl (by rw [Tryz.infoFunc]; rfl) ⟨_, rfl, rfl, Fr.refl _ _⟩
        · skip
          refine Inv.Step.value (v := .pointer (some ⟨w.heap.size + 1, 1, none⟩)) ?_ ⟨_, rfl, rfl, Fr.refl _ _⟩
          go_simp
        · have g1 := rq.cell G2.out (by simp)
          have h0 : x 35 = .pointer (some ⟨w.heap.size + 1, 1, none⟩) := hV 5 (hdep ⟨5, .data⟩ (by simp) rfl) rfl
          refine Inv.Step.value (v := .slice (some ⟨b2, o2, none⟩) is.length fd) ?_ ⟨_, rfl, rfl, Fr.refl _ _⟩
          go_simp
        · skip
          refine Inv.Step.value (v := .int .i64 k) ?_ ⟨_, rfl, rfl, Fr.refl _ _⟩
          go_simp
        · skip
          have h1 : x 36 = .slice (some ⟨b2, o2, none⟩) is.length fd := hV 6 (hdep ⟨6, .data⟩ (by simp) rfl) rfl
          have h2 : x 37 = .int .i64 k := hV 7 (hdep ⟨7, .data⟩ (by simp) rfl) rfl
          refine Inv.Step.value (v := .pointer (some ⟨b2, o2 + k * 4, none⟩)) ?_ ⟨_, rfl, rfl, Fr.refl _ _⟩
          go_simp
        · skip
          have h3 : x 38 = .pointer (some ⟨b2, o2 + k * 4, none⟩) := hV 8 (hdep ⟨8, .data⟩ (by simp) rfl) rfl
          exact Inv.Step.load_in _ _ rfl _ _ h3 _ _ (P2.out.fr rq) Tryz.underlying44 rfl (by rw [Tryz.infoFunc]; rfl) ⟨_, rfl, rfl, Fr.refl _ _⟩
      · skip
        intro x wq rq hV hvar hne
        unfold Inv.over
        simp only [List.foldl_cons, List.foldl_nil, List.setIfInBounds_toArray, List.set_cons_zero, List.set_cons_succ]
        obtain ⟨b6, c6, y6, -, hb6, v6⟩ := hvar ⟨10, 4, 12, 6, 34, 44, 4⟩ (by simp)
        obtain ⟨b7, c7, y7, -, hb7, v7⟩ := hvar ⟨11, 9, 13, 7, 39, 44, 4⟩ (by simp)
        have h4 : x 34 = .agg #[.int .i64 a1, .int .i64 a2, .int .i64 a3, .slice v1 a6.length c1] := hV 4 (by decide) rfl
        have h9 : x 39 = .agg #[.int .i64 z1, .int .i64 z2, .int .i64 z3, .slice v2 z6.length c2] := hV 9 (by decide) rfl
        dsimp only at y6 y7 v6 v7 hb6 hb7
        rw [h4] at v6
        rw [h9] at v7
        cases v6
        cases v7
        rw [y6, y7]
        have B6 := Lib.hid hb6
        have B7 := Lib.hid hb7
        have RQ := Lib.hid rq
        have HS1 := Lib.hid (HSC.out _ rq)
        clear y6 y7 hb6 hb7 h4 h9 hV hvar hne rq HSC
        generalize x 30 = y30
        generalize x 31 = y31
        generalize x 32 = y32
        generalize x 33 = y33
        generalize x 34 = y34
        generalize x 35 = y35
        generalize x 36 = y36
        generalize x 37 = y37
        generalize x 38 = y38
        generalize x 39 = y39
        clear x
        obtain ⟨f0, f1, f2, f3⟩ := cells4 B6.out
        obtain ⟨k0, k1, k2, k3⟩ := cells4 B7.out
        have HQQ : Hid (qq = (decide (a1 = z1) && (decide (a2 = z2) && (decide (a3 = z3) && decide (a6 = z6))))) := Lib.hid (by rw [← HQ0.out]; simp)
        clear HQ0
        generalize decide (a6 = z6) = qc at *
        by_cases n1 : a1 = z1
        case neg =>
          have X : (a1 != z1) = true := by simpa using n1
          have HFF := Lib.hid (HB.out (by rw [← HDD.out, HQQ.out, decide_eq_false n1]; simp))
          clear n1
          go_wp2_with fail
          go_ret
          exact ⟨by rw [HF.out, HFF.out]; rfl, R2.out.trans (hfr.out.trans RQ.out)⟩
        have Xn1 : (a1 != z1) = false := by simpa using n1
        by_cases n2 : a2 = z2
        case neg =>
          have X : (a2 != z2) = true := by simpa using n2
          have HFF := Lib.hid (HB.out (by rw [← HDD.out, HQQ.out, decide_eq_false n2]; simp))
          clear n2
          go_wp2_with fail
          go_ret
          exact ⟨by rw [HF.out, HFF.out]; rfl, R2.out.trans (hfr.out.trans RQ.out)⟩
        have Xn2 : (a2 != z2) = false := by simpa using n2
        by_cases n3 : a3 = z3
        case neg =>
          have X : (a3 != z3) = true := by simpa using n3
          have HFF := Lib.hid (HB.out (by rw [← HDD.out, HQQ.out, decide_eq_false n3]; simp))
          clear n3
          go_wp2_with fail
          go_ret
          exact ⟨by rw [HF.out, HFF.out]; rfl, R2.out.trans (hfr.out.trans RQ.out)⟩
        have Xn3 : (a3 != z3) = false := by simpa using n3
        have HQ3 : Hid (qq = qc) := Lib.hid (by rw [HQQ.out, decide_eq_true n1, decide_eq_true n2, decide_eq_true n3]; simp)
        clear n1 n2 n3 HQQ
        go_wp2_with fail
        refine HS1.out.mono ?_
        rintro e w6 ⟨rfl, r6⟩
        have R6 := Lib.hid ((hfr.out.trans RQ.out).trans r6)
        clear r6 f0 f1 f2 f3 k0 k1 k2 k3 HS1
        cases qc
        · have HFF := Lib.hid (HB.out (by rw [← HDD.out, HQ3.out]))
          go_wp2_with fail
          go_ret
          exact ⟨by rw [HF.out, HFF.out]; rfl, R2.out.trans R6.out⟩
        · have HFF := Lib.hid (HT.out (by rw [← HDD.out, HQ3.out]))
          have gg := R6.out.cell e1 (by simp)
          go_wp2_with fail
          go_roundw
          case rel => exact ⟨k + 1, by omega, by go_num, HFF, R6⟩
          case measure => first | (simp [intOf]; done) | (simp [intOf]; omega)
    · obtain rfl : k = is.length := by omega
      have HE : Hid (decide (is = js) = true) := Lib.hid (decide_eq_true (by
        have := hpre.out
        rwa [List.take_length, ← HJL.out, List.take_length] at this))
      go_wp2_with fail
      go_ret
      exact ⟨by rw [HF.out, HE.out]; rfl, R2.out.trans hfr.out⟩

end Go.Proofs.YtdngflhfhmnipaaGreat

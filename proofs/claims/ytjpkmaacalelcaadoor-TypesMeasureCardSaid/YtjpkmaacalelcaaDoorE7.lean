/- The kit's SameStructs, of structs that are the same (law24). -/
import Derived.Test.YtjpkmaacalelcaaDoorE6
import Derived.Test.YtjpkmaacalelcaaDoorFree
set_option linter.unusedSimpArgs false
set_option linter.unusedVariables false
set_option linter.unusedSectionVars false
set_option linter.unnecessarySimpa false
set_option maxRecDepth 100000
namespace Go.Proofs.YtjpkmaacalelcaaDoor
open Go.RowKit Go.Ty Go.Deep

attribute [local go_sem] Program.isFuncB Program.isSliceB

variable {w w' w'' w0 : World}

set_option maxRecDepth 100000 in
set_option maxHeartbeats 8000000 in
theorem samests_ok (w : World) (l : List St) (hsm : SmallS l) (sa sb : Option Addr) (sc sd : Nat) (ha : SlIn w sa l) (hb : SlIn w sb l) :
    Calls Tryd.prog 22 #[.slice sa l.length sc, .slice sb l.length sd] w fun e w' => e = .returned (.bool true) ∧ Fr no w w' := by
  have hl8 : l.length ≤ 8 := hsm.1
  have HA := Lib.hid ha
  have HB := Lib.hid hb
  have HSM := Lib.hid hsm
  have hne : ((l.length : Int) != (l.length : Int)) = false := by simp
  clear ha hb hsm
  go_enter Tryd.func22, Tryd.ntmps22
  go_upto_region 4 with fail
  clear hne
  go_loopw [5, 6, 7, 8] (fun x _ _ _ wr => ∃ k : Nat, x = .int .i64 k ∧ k ≤ l.length ∧ Hid (Fr no w wr)) (fun x _ _ _ _ => (l.length - intOf x).toNat)
  case atStart => exact ⟨0, rfl, by omega, Lib.hid (Fr.refl _ _)⟩
  case round =>
    obtain ⟨i0, rfl, hi, hfr⟩ := hrel
    by_cases hil : i0 < l.length
    case neg =>
      obtain rfl : i0 = l.length := by omega
      clear hil
      go_wp2_with fail
      go_ret
      exact ⟨rfl, hfr.out⟩
    have hil' : (i0 : Int) < l.length := by omega
    obtain ⟨b, o, fa, fc, rfl, hA1, hF1⟩ := HA.out i0 hil
    obtain ⟨b2, o2, fb, fd, rfl, hA2, hF2⟩ := HB.out i0 hil
    have HFW := Lib.hid (HSM.out.2 l[i0] (List.getElem_mem hil)).2
    obtain ⟨s, hs⟩ : ∃ x, x = l[i0] := ⟨_, rfl⟩
    rw [← hs] at hA1 hF1 hA2 hF2 HFW
    clear hs
    obtain ⟨snm, fs⟩ := s
    dsimp only at hA1 hF1 hA2 hF2 HFW
    have HA1 := Lib.hid hA1
    have HA2 := Lib.hid hA2
    have HF1 := Lib.hid hF1
    have HF2 := Lib.hid hF2
    have hfl := HFW.out.1
    have e0 := hfr.out.cell (hA1 0 _ rfl) (by simp)
    have e1 := hfr.out.cell (hA1 1 _ rfl) (by simp)
    have d0 := hfr.out.cell (hA2 0 _ rfl) (by simp)
    have d1 := hfr.out.cell (hA2 1 _ rfl) (by simp)
    rw [Nat.add_zero] at e0 d0
    clear hA1 hA2 hF1 hF2
    go_wp2_with fail
    go_quiet (fail)
    go_upto_region 9 with fail
    clear e0 e1 d0 d1
    obtain ⟨wz, hwz⟩ : ∃ x, x = wr.drewN nq := ⟨_, rfl⟩
    have RZ : Hid (Fr no w wz) := Lib.hid (by rw [hwz]; exact hfr.out.drewN _)
    rw [← hwz]
    clear hwz hfr
    go_loopw [6, 7, 8] (fun x _ _ wr => ∃ k : Nat, x = .int .i64 k ∧ k ≤ fs.length ∧ Hid (Fr no w wr)) (fun x _ _ _ => (fs.length - intOf x).toNat)
    case atStart => exact ⟨0, rfl, by omega, RZ⟩
    case round =>
      obtain ⟨k, rfl, hk, hfr⟩ := hrel
      have e1 := hfr.out.cell (HA1.out 1 _ rfl) (by simp)
      by_cases hkl : k < fs.length
      case neg =>
        obtain rfl : k = fs.length := by omega
        clear hkl
        go_wp2_with fail
        go_roundw
        case rel => exact ⟨i0 + 1, by go_num, by omega, hfr⟩
        case measure => first | (simp [intOf]; done) | (simp [intOf]; omega)
      have hkl' : (k : Int) < fs.length := by omega
      obtain ⟨f, fo, ma, mc, rfl, hB1, hM1⟩ := HF1.out k hkl
      obtain ⟨g, go, mb, md, rfl, hB2, hM2⟩ := HF2.out k hkl
      have hz := HFW.out.2 fs[k] (List.getElem_mem hkl)
      obtain ⟨fd1, hf⟩ : ∃ x, x = fs[k] := ⟨_, rfl⟩
      rw [← hf] at hB1 hM1 hB2 hM2 hz
      clear hf
      obtain ⟨nm, tb, ts, tms⟩ := fd1
      dsimp only at hB1 hM1 hB2 hM2 hz
      have HM1 := Lib.hid hM1
      have HM2 := Lib.hid hM2
      have P1 := Lib.hid (At.fr hB1 hfr.out)
      have P2 := Lib.hid (At.fr hB2 hfr.out)
      have C1 := Lib.hid (hfr.out.cell (HA1.out 1 _ rfl) (by simp))
      have C2 := Lib.hid (hfr.out.cell (HA2.out 1 _ rfl) (by simp))
      clear hB1 hM1 hB2 hM2
      obtain ⟨wy, hwy⟩ : ∃ x, x = wr := ⟨_, rfl⟩
      subst hwy
      go_upto_region 11 with fail
      clear e1
      refine Inv.free _ [56, 57, 58, 59, 60, 61, 62, 63, 64, 65, 66, 67, 68, 69, 70, 71, 7, 8] [⟨16, 7, 18, 7, 63, 55, 4⟩, ⟨17, 15, 19, 8, 71, 55, 4⟩] (fun i => [56, 57, 58, 59, 60, 61, 62, 63, 64, 65, 66, 67, 68, 69, 70, 71].getD i 0) (fun i v _ => match i with  | 0 => v = .slice (some ⟨b, o, none⟩) l.length sc | 1 => v = .int .i64 i0 | 2 => v = .pointer (some ⟨b, o + i0 * 2, none⟩) | 3 => v = .pointer (some ⟨b, o + i0 * 2 + 1, none⟩) | 4 => v = .slice (some ⟨f, fo, none⟩) fs.length fc | 5 => v = .int .i64 k | 6 => v = .pointer (some ⟨f, fo + k * 4, none⟩) | 7 => v = .agg #[.string nm, .int .i64 tb, .int .i64 ts, .slice ma tms.length mc] | 8 => v = .slice (some ⟨b2, o2, none⟩) l.length sd | 9 => v = .int .i64 i0 | 10 => v = .pointer (some ⟨b2, o2 + i0 * 2, none⟩) | 11 => v = .pointer (some ⟨b2, o2 + i0 * 2 + 1, none⟩) | 12 => v = .slice (some ⟨g, go, none⟩) fs.length fd | 13 => v = .int .i64 k | 14 => v = .pointer (some ⟨g, go + k * 4, none⟩) | 15 => v = .agg #[.string nm, .int .i64 tb, .int .i64 ts, .slice mb tms.length md] | _ => True) (by kernel_rfl) (by kernel_rfl) (by decide) (by kernel_rfl) 85 rfl (by decide) ?_ ?_ ?_ ?_ ?_ ?_ ?_ ?_
      · exact fun i v w1 w2 S _ h _ _ => h
      · intro p hp
        simp only [List.mem_cons, List.not_mem_nil, or_false] at hp
        rcases hp with rfl | rfl
        · exact ⟨_, rfl, rfl, rfl⟩
        · exact ⟨_, rfl, rfl, rfl⟩
      · intro p hp
        simp only [List.mem_cons, List.not_mem_nil, or_false] at hp
        rcases hp with rfl | rfl
        · exact ⟨_, rfl, rfl, rfl, ⟨⟨16, .data⟩, by simp, rfl, rfl⟩, ⟨⟨7, .data⟩, by simp, rfl, rfl⟩⟩
        · exact ⟨_, rfl, rfl, rfl, ⟨⟨17, .data⟩, by simp, rfl, rfl⟩, ⟨⟨15, .data⟩, by simp, rfl, rfl⟩⟩
      · intro p hp
        simp only [List.mem_cons, List.not_mem_nil, or_false] at hp
        rcases hp with rfl | rfl
        · exact ⟨.agg zeroFd , fun w => (by kernel_rfl), rfl⟩
        · exact ⟨.agg zeroFd, fun w => (by kernel_rfl), rfl⟩
      · intro p hp
        simp only [List.mem_cons, List.not_mem_nil, or_false] at hp
        rcases hp with rfl | rfl
        · kernel_rfl
        · kernel_rfl
      · intro p hp
        simp only [List.mem_cons, List.not_mem_nil, or_false] at hp
        rcases hp with rfl | rfl
        · intro u w1 hu; exact ⟨_, hu, rfl, by simp [Value.oneCell']⟩
        · intro u w1 hu; exact ⟨_, hu, rfl, by simp [Value.oneCell']⟩
      · skip
        intro i o ho hs x dn wq rq hdep hV hnd hun hcl
        have hlt := (List.getElem?_eq_some_iff.1 ho).1
        simp only [List.length_cons, List.length_nil] at hlt
        obtain rfl | rfl | rfl | rfl | rfl | rfl | rfl | rfl | rfl | rfl | rfl | rfl | rfl | rfl | rfl | rfl | rfl | rfl | rfl | rfl : i = 0 ∨ i = 1 ∨ i = 2 ∨ i = 3 ∨ i = 4 ∨ i = 5 ∨ i = 6 ∨ i = 7 ∨ i = 8 ∨ i = 9 ∨ i = 10 ∨ i = 11 ∨ i = 12 ∨ i = 13 ∨ i = 14 ∨ i = 15 ∨ i = 16 ∨ i = 17 ∨ i = 18 ∨ i = 19 := by omega
        all_goals cases ho
        all_goals try (exact absurd hs (by decide))
        all_goals (unfold Inv.over; simp only [List.foldl_cons, List.foldl_nil, List.setIfInBounds_toArray, List.set_cons_zero, List.set_cons_succ])
        · skip
          refine Inv.Step.value (v := .slice (some ⟨b, o, none⟩) l.length sc) ?_ ⟨_, rfl, rfl, Fr.refl _ _⟩
          go_simp
        · skip
          refine Inv.Step.value (v := .int .i64 i0) ?_ ⟨_, rfl, rfl, Fr.refl _ _⟩
          go_simp
        · skip
          have h0 : x 56 = .slice (some ⟨b, o, none⟩) l.length sc := hV 0 (hdep ⟨0, .data⟩ (by simp) rfl) rfl
          have h1 : x 57 = .int .i64 i0 := hV 1 (hdep ⟨1, .data⟩ (by simp) rfl) rfl
          refine Inv.Step.value (v := .pointer (some ⟨b, o + i0 * 2, none⟩)) ?_ ⟨_, rfl, rfl, Fr.refl _ _⟩
          go_simp
        · skip
          have h2 : x 58 = .pointer (some ⟨b, o + i0 * 2, none⟩) := hV 2 (hdep ⟨2, .data⟩ (by simp) rfl) rfl
          refine Inv.Step.value (v := .pointer (some ⟨b, o + i0 * 2 + 1, none⟩)) ?_ ⟨_, rfl, rfl, Fr.refl _ _⟩
          go_simp
        · skip
          have g1 := rq.cell C1.out (by simp)
          have h3 : x 59 = .pointer (some ⟨b, o + i0 * 2 + 1, none⟩) := hV 3 (hdep ⟨3, .data⟩ (by simp) rfl) rfl
          refine Inv.Step.value (v := .slice (some ⟨f, fo, none⟩) fs.length fc) ?_ ⟨_, rfl, rfl, Fr.refl _ _⟩
          go_simp
        · skip
          refine Inv.Step.value (v := .int .i64 k) ?_ ⟨_, rfl, rfl, Fr.refl _ _⟩
          go_simp
        · skip
          have h4 : x 60 = .slice (some ⟨f, fo, none⟩) fs.length fc := hV 4 (hdep ⟨4, .data⟩ (by simp) rfl) rfl
          have h5 : x 61 = .int .i64 k := hV 5 (hdep ⟨5, .data⟩ (by simp) rfl) rfl
          refine Inv.Step.value (v := .pointer (some ⟨f, fo + k * 4, none⟩)) ?_ ⟨_, rfl, rfl, Fr.refl _ _⟩
          go_simp
        · skip
          have h6 : x 62 = .pointer (some ⟨f, fo + k * 4, none⟩) := hV 6 (hdep ⟨6, .data⟩ (by simp) rfl) rfl
          exact Inv.Step.load_in _ _ rfl _ _ h6 _ _ (P1.out.fr rq) Tryd.underlying55 rfl (by rw [infoFd]; rfl) ⟨_, rfl, rfl, Fr.refl _ _⟩
        · skip
          refine Inv.Step.value (v := .slice (some ⟨b2, o2, none⟩) l.length sd) ?_ ⟨_, rfl, rfl, Fr.refl _ _⟩
          go_simp
        · skip
          refine Inv.Step.value (v := .int .i64 i0) ?_ ⟨_, rfl, rfl, Fr.refl _ _⟩
          go_simp
        · skip
          have h0 : x 64 = .slice (some ⟨b2, o2, none⟩) l.length sd := hV 8 (hdep ⟨8, .data⟩ (by simp) rfl) rfl
          have h1 : x 65 = .int .i64 i0 := hV 9 (hdep ⟨9, .data⟩ (by simp) rfl) rfl
          refine Inv.Step.value (v := .pointer (some ⟨b2, o2 + i0 * 2, none⟩)) ?_ ⟨_, rfl, rfl, Fr.refl _ _⟩
          go_simp
        · skip
          have h2 : x 66 = .pointer (some ⟨b2, o2 + i0 * 2, none⟩) := hV 10 (hdep ⟨10, .data⟩ (by simp) rfl) rfl
          refine Inv.Step.value (v := .pointer (some ⟨b2, o2 + i0 * 2 + 1, none⟩)) ?_ ⟨_, rfl, rfl, Fr.refl _ _⟩
          go_simp
        · skip
          have g1 := rq.cell C2.out (by simp)
          have h3 : x 67 = .pointer (some ⟨b2, o2 + i0 * 2 + 1, none⟩) := hV 11 (hdep ⟨11, .data⟩ (by simp) rfl) rfl
          refine Inv.Step.value (v := .slice (some ⟨g, go, none⟩) fs.length fd) ?_ ⟨_, rfl, rfl, Fr.refl _ _⟩
          go_simp
        · skip
          refine Inv.Step.value (v := .int .i64 k) ?_ ⟨_, rfl, rfl, Fr.refl _ _⟩
          go_simp
        · skip
          have h4 : x 68 = .slice (some ⟨g, go, none⟩) fs.length fd := hV 12 (hdep ⟨12, .data⟩ (by simp) rfl) rfl
          have h5 : x 69 = .int .i64 k := hV 13 (hdep ⟨13, .data⟩ (by simp) rfl) rfl
          refine Inv.Step.value (v := .pointer (some ⟨g, go + k * 4, none⟩)) ?_ ⟨_, rfl, rfl, Fr.refl _ _⟩
          go_simp
        · skip
          have h6 : x 70 = .pointer (some ⟨g, go + k * 4, none⟩) := hV 14 (hdep ⟨14, .data⟩ (by simp) rfl) rfl
          exact Inv.Step.load_in _ _ rfl _ _ h6 _ _ (P2.out.fr rq) Tryd.underlying55 rfl (by rw [infoFd]; rfl) ⟨_, rfl, rfl, Fr.refl _ _⟩
      · skip
        intro x wq rq hV hvar hne
        unfold Inv.over
        simp only [List.foldl_cons, List.foldl_nil, List.setIfInBounds_toArray, List.set_cons_zero, List.set_cons_succ]
        obtain ⟨B7, c7, y7, -, hb7, v7⟩ := hvar ⟨16, 7, 18, 7, 63, 55, 4⟩ (by simp)
        obtain ⟨B8, c8, y8, -, hb8, v8⟩ := hvar ⟨17, 15, 19, 8, 71, 55, 4⟩ (by simp)
        have h7 : x 63 = .agg #[.string nm, .int .i64 tb, .int .i64 ts, .slice ma tms.length mc] := hV 7 (by decide) rfl
        have h8 : x 71 = .agg #[.string nm, .int .i64 tb, .int .i64 ts, .slice mb tms.length md] := hV 15 (by decide) rfl
        dsimp only at y7 y8 v7 v8 hb7 hb8
        rw [h7] at v7
        rw [h8] at v8
        cases v7
        cases v8
        rw [y7, y8]
        have H7 := Lib.hid hb7
        have H8 := Lib.hid hb8
        have RQ := Lib.hid (hfr.out.trans rq)
        clear y7 y8 hb7 hb8 h7 h8 hV hvar hne rq P1 P2 C1 C2
        generalize x 56 = y56
        generalize x 57 = y57
        generalize x 58 = y58
        generalize x 59 = y59
        generalize x 60 = y60
        generalize x 61 = y61
        generalize x 62 = y62
        generalize x 63 = y63
        generalize x 64 = y64
        generalize x 65 = y65
        generalize x 66 = y66
        generalize x 67 = y67
        generalize x 68 = y68
        generalize x 69 = y69
        generalize x 70 = y70
        generalize x 71 = y71
        clear x
        generalize wq = w5 at *
        obtain ⟨q0, q1, q2, q3⟩ := ce4 H7.out
        obtain ⟨p0, p1, p2, p3⟩ := ce4 H8.out
        have HAT7 : Hid (At w5 B7 1 [.int .i64 tb, .int .i64 ts, .slice ma tms.length mc]) := Lib.hid (At.sub H7.out rfl)
        have HAT8 : Hid (At w5 B8 1 [.int .i64 tb, .int .i64 ts, .slice mb tms.length md]) := Lib.hid (At.sub H8.out rfl)
        have C := samet_ok w5 tb ts tb ts tms tms ma mb mc md (HM1.out.fr RQ.out) (HM2.out.fr RQ.out) (by omega) (by omega)
        rw [decide_eq_true rfl] at C
        have HC := Lib.hid C
        have hnn : (nm.toList != nm.toList) = false := by simp
        clear C
        go_wp2_with (first
          | (refine wpList_guarded (by rfl) ?_; intro KK hKK; refine wp_load_in 25 (.tmp 78) rfl B7 1 rfl _ _ HAT7.out Tryd.underlying25 rfl (by rw [infoTy]; rfl) ?_; refine hKK _ _ ?_; clear hKK; simp only [Act.put, List.setIfInBounds_toArray, List.set_cons_zero, List.set_cons_succ])
          | (refine wpList_guarded (by rfl) ?_; intro KK hKK; refine wp_load_in 25 (.tmp 80) rfl B8 1 rfl _ _ HAT8.out Tryd.underlying25 rfl (by rw [infoTy]; rfl) ?_; refine hKK _ _ ?_; clear hKK; simp only [Act.put, List.setIfInBounds_toArray, List.set_cons_zero, List.set_cons_succ]))
        refine HC.out.mono ?_
        rintro e w6 ⟨rfl, r6⟩
        have R6 := Lib.hid (RQ.out.trans r6)
        clear r6 q0 q1 q2 q3 p0 p1 p2 p3 HC hnn
        go_wp2_with fail
        go_roundw
        case rel => exact ⟨k + 1, by go_num, by omega, R6⟩
        case measure => first | (simp [intOf]; done) | (simp [intOf]; omega)

end Go.Proofs.YtjpkmaacalelcaaDoor

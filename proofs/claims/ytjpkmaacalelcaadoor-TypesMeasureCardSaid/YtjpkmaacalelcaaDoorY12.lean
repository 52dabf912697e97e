/- Why structs may not be (law24). -/
import Derived.Test.YtjpkmaacalelcaaDoorYf
set_option linter.unusedSimpArgs false
set_option linter.unusedVariables false
set_option linter.unusedSectionVars false
set_option linter.unnecessarySimpa false
set_option maxRecDepth 100000
namespace Go.Proofs.YtjpkmaacalelcaaDoor
open Go.RowKit Go.Ty Go.Deep

attribute [local go_sem] Program.isFuncB Program.isSliceB

variable {w w' w'' w0 : World}

theorem infoSt : (Tryd.prog.info? 53).map (·.size) = some 2 := by kernel_rfl
theorem infoUnit : (Tryd.prog.info? 67).map (·.size) = some 0 := by kernel_rfl

set_option maxRecDepth 100000 in
set_option maxHeartbeats 8000000 in
theorem structs_ok (l : List St) (hn : ∀ i, ∀ f ∈ fieldsAt l i, f.nm.size ≤ maxLen) (w : World) (sa : Option Addr) (sc : Nat) (hs : SlIn w sa l) :
    Calls Tryd.prog 18 #[.slice sa l.length sc] w fun e w' => e = .returned (.int .i64 (structsE l)) ∧ Fr no w w' := by
  have HS := Lib.hid hs
  have HN := Lib.hid hn
  clear hs hn
  by_cases h32 : 32 < l.length
  · have HR : Hid (structsE l = 2) := Lib.hid (by
      unfold structsE soundB
      rw [decide_eq_false (by omega : ¬ l.length ≤ 32), Bool.false_and, if_neg (by decide)])
    rw [HR.out]
    have hz : (32 : Int) < (l.length : Int) := by omega
    clear h32
    go_enter Tryd.func18, Tryd.ntmps18
    go_wp2_with fail
    go_ret
    exact ⟨rfl, Fr.refl _ _⟩
  · have hz : ¬ ((32 : Int) < (l.length : Int)) := by omega
    go_enter Tryd.func18, Tryd.ntmps18
    go_wp2_with fail
    go_loopw [16] (fun x16 wr => ∃ i : Nat, i ≤ l.length ∧ x16 = .int .i64 i ∧ Hid (∀ j, j < i → stB l j = true) ∧ Hid (Fr no w wr)) (fun y _ => (l.length - intOf y).toNat)
    case atStart => exact ⟨0, by omega, rfl, Lib.hid (fun j hj => by omega), Lib.hid (Fr.refl _ _)⟩
    case round =>
      obtain ⟨i, hi, rfl, HO, F⟩ := hrel
      by_cases hil : i = l.length
      · subst hil
        have hzl : ¬ ((l.length : Int) < l.length) := by omega
        have HSB : Hid (soundB l = true) := Lib.hid (soundB_all (by omega) HO.out)
        have HSD := Lib.hid (sound_of HSB.out)
        clear HO
        go_wp2_with fail
        go_loopw [77] (fun x77 wr => ∃ j : Nat, j ≤ l.length ∧ x77 = .int .i64 j ∧ Hid (∀ i, i < j → (whole l i).1 ≤ 8192) ∧ Hid (Fr no w wr)) (fun y _ => (l.length - intOf y).toNat)
        case atStart => exact ⟨0, by omega, rfl, Lib.hid (fun j hj => by omega), F⟩
        case round =>
          clear F
          obtain ⟨j, hj, rfl, HO, F⟩ := hrel
          by_cases hjl : j = l.length
          · subst hjl
            have HR : Hid (structsE l = 0) := Lib.hid (structsE_ok.2 ⟨HSB.out, fitB_all HO.out⟩)
            go_wp2_with fail
            go_ret
            exact ⟨by rw [HR.out]; rfl, F.out⟩
          · have hjt : j < l.length := by omega
            have hjt' : (j : Int) < l.length := by omega
            have HC := Lib.hid (wholeOk l HSD.out l.length (Nat.le_refl _) wr sa sc j hjt (HS.out.fr F.out))
            have HNO : Hid (¬ (whole l j).1 ≤ 8192 → structsE l = 3) := Lib.hid (fun h => by
              unfold structsE
              rw [if_pos HSB.out, if_neg (by rw [fitB_not j hjt h]; decide)])
            have HYE : Hid ((whole l j).1 ≤ 8192 → ∀ i, i < j + 1 → (whole l i).1 ≤ 8192) := Lib.hid (fun h i hi => by
              rcases Nat.lt_or_ge i j with h2 | h2
              · exact HO.out i h2
              · rw [show i = j by omega]; exact h)
            generalize whole l j = ws at *
            obtain ⟨w1, w2⟩ := ws
            unfold meas at HC
            dsimp only at *
            have hfld : ∀ w, (Instr.field 60 (.agg #[.int .i64 w1, .int .i64 w2]) 0).run Tryd.prog w = .ok (.int .i64 w1) w := fun w => by kernel_rfl
            clear hjl
            by_cases hfit : w1 ≤ 8192
            · have hfz : ¬ ((8192 : Int) < w1) := by omega
              have HY := Lib.hid (HYE.out hfit)
              clear HYE HNO
              go_wp2_with fail
              refine HC.out.mono ?_
              rintro e wn ⟨rfl, r2⟩
              have R2 := Lib.hid (F.out.trans r2)
              clear r2
              go_wp2_with fail
              go_roundw
              case rel => exact ⟨j + 1, by omega, by go_num, HY, R2⟩
              case measure => first | (simp [intOf]; done) | (simp [intOf]; omega)
            · have hfz : (8192 : Int) < w1 := by omega
              have HR := Lib.hid (HNO.out hfit)
              clear HYE HNO
              go_wp2_with fail
              refine HC.out.mono ?_
              rintro e wn ⟨rfl, r2⟩
              have R2 := Lib.hid (F.out.trans r2)
              clear r2
              go_wp2_with fail
              go_ret
              exact ⟨by rw [HR.out]; rfl, R2.out⟩
      · have hlt : i < l.length := by omega
        obtain ⟨b, o, fa, fc, rfl, hA, hF⟩ := HS.out i hlt
        have hfs : l[i].fs = fieldsAt l i := by unfold fieldsAt; rw [List.getElem?_eq_getElem hlt]
        have HNF := Lib.hid (HN.out i)
        have HSTB : Hid (stB l i = (decide (1 ≤ (fieldsAt l i).length) && decide ((fieldsAt l i).length ≤ 16) && fdsB l.length i (fieldsAt l i))) := Lib.hid rfl
        rw [hfs] at hA hF
        have AS := Lib.hid (hA.fr F.out)
        have HF := Lib.hid hF
        generalize fieldsAt l i = fs at *
        generalize l[i].nm = snm at *
        have hlt' : (i : Int) < l.length := by omega
        clear hA hF hfs hil
        obtain ⟨wz, hwz⟩ : ∃ x, x = wr := ⟨_, rfl⟩
        subst hwz
        have HB0 := Lib.hid (heap_new wz (.cells #[.string { data := #[] }, .slice none 0 0] 53))
        have HB1 := Lib.hid (setRow_heap _ _ _ #[.string snm, .slice fa fs.length fc] _ _ HB0.out)
        have r1 : Fr no wz ((wz.alloc (.cells #[.string { data := #[] }, .slice none 0 0] 53)).setRow wz.heap.size #[.string snm, .slice fa fs.length fc]) := fr_setRow ((Fr.refl no wz).alloc _) (.inr (Nat.le_refl _))
        have R1 := Lib.hid (F.out.trans r1)
        clear r1
        have AS1 := Lib.hid (AS.out.fr ((Fr.refl no wz).alloc (.cells #[.string { data := #[] }, .slice none 0 0] 53)))
        go_upto_region 6 with (first
          | (refine wpList_load_in rfl 53 (.tmp 19) rfl b (o + i * 2) rfl [.string snm, .slice fa fs.length fc] _ AS.out Tryd.underlying53 rfl (by rw [infoSt]; rfl) ?_; simp only [Act.put, List.setIfInBounds_toArray, List.set_cons_zero, List.set_cons_succ])
          | (refine wpList_load_in rfl 53 (.tmp 19) rfl b (o + i * 2) rfl [.string snm, .slice fa fs.length fc] _ AS1.out Tryd.underlying53 rfl (by rw [infoSt]; rfl) ?_; simp only [Act.put, List.setIfInBounds_toArray, List.set_cons_zero, List.set_cons_succ])
          | (refine wpList_store_row rfl 53 (.tmp 4) (.tmp 20) rfl wz.heap.size #[.string snm, .slice fa fs.length fc] rfl rfl _ _ HB0.out (by rw [infoSt]; rfl) rfl (by simp [Value.oneCell']) ?_; rw [act_put_none]))
        generalize (wz.alloc (.cells #[.string { data := #[] }, .slice none 0 0] 53)).setRow wz.heap.size #[.string snm, .slice fa fs.length fc] = w2 at *
        obtain ⟨SB, hSB⟩ : ∃ b, b = wz.heap.size := ⟨_, rfl⟩
        have HSB := Lib.hid hSB
        rw [← hSB] at HB1 ⊢
        clear hSB HB0 AS1 AS
        obtain ⟨s0, s1⟩ := ce2 HB1.out
        by_cases h1 : fs.length < 1
        · have hz1 : (fs.length : Int) < 1 := by omega
          have HR : Hid (structsE l = 2) := Lib.hid (by
            unfold structsE
            rw [soundB_not i hlt (by rw [HSTB.out, decide_eq_false (by omega : ¬ 1 ≤ fs.length)]; rfl), if_neg (by decide)])
          clear h1
          go_wp2_with fail
          go_ret
          exact ⟨by rw [HR.out]; rfl, R1.out⟩
        · have hz1 : ¬ ((fs.length : Int) < 1) := by omega
          by_cases h16 : 16 < fs.length
          · have hz2 : (16 : Int) < (fs.length : Int) := by omega
            have HR : Hid (structsE l = 2) := Lib.hid (by
              unfold structsE
              rw [soundB_not i hlt (by rw [HSTB.out, decide_eq_false (by omega : ¬ fs.length ≤ 16), Bool.and_false]; rfl), if_neg (by decide)])
            clear h1 h16
            go_wp2_with fail
            go_ret
            exact ⟨by rw [HR.out]; rfl, R1.out⟩
          · have hz2 : ¬ ((16 : Int) < (fs.length : Int)) := by omega
            have HLN : Hid (1 ≤ fs.length ∧ fs.length ≤ 16) := Lib.hid (by omega)
            have hmm := @run_makeMap Tryd.prog
            obtain ⟨w3, hins, hM3, r3⟩ := (seen_made w2).add (by decide) { data := #[] } (Nat.zero_le _)
            have rm : Fr no w2 (w2.alloc (.map #[] 0)) := (Fr.refl no w2).alloc _
            obtain ⟨MB, hMB⟩ : ∃ b, b = w2.heap.size := ⟨_, rfl⟩
            have HMB := Lib.hid hMB
            have hMS : MB ≠ SB := by have := (Array.getElem?_eq_some_iff.1 HB1.out).1; omega
            have r23 : Fr no w2 w3 := rm.trans' r3 (fun k hk _ => by simp at hk; omega)
            have HB3 := Lib.hid (r23.heap HB1.out (by simp))
            have R3 := Lib.hid (R1.out.trans r23)
            have HM3 : Hid (SeenMap w3 MB 1 [ByteArray.empty]) := Lib.hid (by rw [hMB]; exact hM3)
            have HMS := Lib.hid hMS
            clear r23 r3 rm h1 h16 hM3 hMS
            go_upto_region 9 with (refine wpList_insert rfl _ _ _ _ rfl _ _ _ rfl rfl rfl w3 hins ?_)
            rw [← hMB]
            have HMW : Hid (w.heap.size ≤ MB) := Lib.hid (by have := R1.out.size; omega)
            clear hins hMB R1 HB1 hmm s0 s1
            obtain ⟨s0, s1⟩ := ce2 HB3.out
            go_wp2_with fail
            go_loopw [37] (fun x37 wr => ∃ k : Nat, k ≤ fs.length ∧ x37 = .int .i64 k ∧ Hid (∀ j (h : j < fs.length), j < k → fdB l.length i fs j fs[j] = true) ∧ Hid (wr.heap[SB]? = some (.cells #[.string snm, .slice fa fs.length fc] 53 (0, 0))) ∧
              Hid (SeenMap wr MB (k + 1) (ByteArray.empty :: (fs.take k).map Fd.nm)) ∧ Hid (Fr no w wr)) (fun y _ => (fs.length - intOf y).toNat)
            case atStart => exact ⟨0, by omega, rfl, Lib.hid (fun j h hj => by omega), HB3, Lib.hid (by simpa using HM3.out), R3⟩
            case round =>
              clear HB3 HM3 R3 s0 s1
              obtain ⟨k, hk, rfl, HK, HB, HM, RW⟩ := hrel
              by_cases hkl : k = fs.length
              · subst hkl
                have hzk : ¬ ((fs.length : Int) < fs.length) := by omega
                have HOK : Hid (stB l i = true) := Lib.hid (by
                  rw [HSTB.out, decide_eq_true HLN.out.1, decide_eq_true HLN.out.2, fdsB_all (fun j hj => HK.out j hj hj)]; rfl)
                clear HK
                go_wp2_with fail
                go_roundw
                case rel =>
                  refine ⟨i + 1, by omega, by go_num, Lib.hid (fun j hj => ?_), RW⟩
                  rcases Nat.lt_or_ge j i with h | h
                  · exact HO.out j h
                  · rw [show j = i by omega]; exact HOK.out
                case measure => first | (simp [intOf]; done) | (simp [intOf]; omega)
              · have hlk : k < fs.length := by omega
                obtain ⟨fb, fo, ma, mc, efa, hA, hT⟩ := (HF.out.fr RW.out) k hlk
                subst efa
                have hlk' : (k : Int) < fs.length := by omega
                have hfsz := HNF.out fs[k] (List.getElem_mem hlk)
                have HFD : Hid (fdB l.length i fs k fs[k] = (!memB (ByteArray.empty :: (fs.take k).map Fd.nm) fs[k].nm && shapedB l.length fs[k].t && !(insideB fs[k].t && decide ((i : Int) ≤ fs[k].t.s)))) := Lib.hid rfl
                have HNX : Hid (ByteArray.empty :: (fs.take (k + 1)).map Fd.nm = (ByteArray.empty :: (fs.take k).map Fd.nm) ++ [fs[k].nm]) := Lib.hid (by
                  rw [List.take_succ_eq_append_getElem hlk, List.map_append]; rfl)
                have HBAD : Hid (fdB l.length i fs k fs[k] = false → structsE l = 2) := Lib.hid (fun h => by
                  unfold structsE
                  rw [soundB_not i hlt (by rw [HSTB.out, fdsB_not k hlk h, Bool.and_false]), if_neg (by decide)])
                have HGOOD : Hid (fdB l.length i fs k fs[k] = true → ∀ j (h : j < fs.length), j < k + 1 → fdB l.length i fs j fs[j] = true) := Lib.hid (fun h j hj hjk => by
                  rcases Nat.lt_or_ge j k with h2 | h2
                  · exact HK.out j hj h2
                  · have e : j = k := by omega
                    subst e; exact h)
                have AF := Lib.hid hA
                have TF := Lib.hid hT
                have HFL : Hid (k < fs.length) := Lib.hid hlk
                generalize fdB l.length i fs k fs[k] = fd at *
                generalize ByteArray.empty :: (fs.take k).map Fd.nm = ns at *
                generalize hns' : ByteArray.empty :: (fs.take (k + 1)).map Fd.nm = ns' at *
                have HNS := Lib.hid hns'
                clear hns'
                generalize fs[k] = f at *
                obtain ⟨nm, tb, ts, tms⟩ := f
                dsimp only at *
                clear hA hT hkl HK
                have HB0 := Lib.hid (heap_new wr (.cells zeroFd 55))
                have HB1 := Lib.hid (setRow_heap _ _ _ #[.string nm, .int .i64 tb, .int .i64 ts, .slice ma tms.length mc] _ _ HB0.out)
                have r1 : Fr no wr ((wr.alloc (.cells zeroFd 55)).setRow wr.heap.size #[.string nm, .int .i64 tb, .int .i64 ts, .slice ma tms.length mc]) := fr_setRow ((Fr.refl no wr).alloc _) (.inr (Nat.le_refl _))
                have R4 := Lib.hid (RW.out.trans r1)
                have HM4 := Lib.hid (HM.out.fr r1 (by simp))
                have HS4 := Lib.hid (r1.heap HB.out (by simp))
                have TF4 := Lib.hid (TF.out.fr r1)
                have AF0 := Lib.hid (AF.out.fr ((Fr.refl no wr).alloc (.cells zeroFd 55)))
                clear r1 TF HM HB
                unfold zeroFd at *
                go_upto_region 12 with (first
                  | (refine wpList_load_in rfl 55 (.tmp 39) rfl fb (fo + k * 4) rfl [.string nm, .int .i64 tb, .int .i64 ts, .slice ma tms.length mc] _ AF.out Tryd.underlying55 rfl (by rw [infoFd]; rfl) ?_; simp only [Act.put, List.setIfInBounds_toArray, List.set_cons_zero, List.set_cons_succ])
                  | (refine wpList_store_row rfl 55 (.tmp 7) (.tmp 40) rfl wr.heap.size #[.string nm, .int .i64 tb, .int .i64 ts, .slice ma tms.length mc] rfl rfl _ _ HB0.out (by rw [infoFd]; rfl) rfl (by simp [Value.oneCell']) ?_; rw [act_put_none]))
                generalize (wr.alloc (.cells #[.string { data := #[] }, .int .i64 0, .int .i64 0, .slice none 0 0] 55)).setRow wr.heap.size #[.string nm, .int .i64 tb, .int .i64 ts, .slice ma tms.length mc] = w4 at *
                obtain ⟨FB, hFB⟩ : ∃ b, b = wr.heap.size := ⟨_, rfl⟩
                rw [← hFB] at HB1 ⊢
                clear hFB HB0 AF0 AF
                have hlook := HM4.out.look nm hfsz
                obtain ⟨f0, f1, f2, f3⟩ := ce4 HB1.out
                generalize memB ns nm = q at *
                have HU0 := Lib.hid (heap_new w4 (.cells #[] 67))
                go_upto_region 13 with (refine wpList_look rfl _ _ _ rfl _ _ _ rfl rfl hlook ?_; simp only [Act.put, List.setIfInBounds_toArray, List.set_cons_zero, List.set_cons_succ])
                have r5 := (Fr.refl no w4).alloc (.cells #[] 67)
                have R5 := Lib.hid (R4.out.trans r5)
                have HM5 := Lib.hid (HM4.out.fr r5 (by simp))
                have HS5 := Lib.hid (r5.heap HS4.out (by simp))
                have HB5 := Lib.hid (r5.heap HB1.out (by simp))
                have TF5 := Lib.hid (TF4.out.fr r5)
                clear r5 hlook f0 f1 f2 f3 R4 HM4 HS4 HB1 TF4 HU0
                generalize w4.alloc (.cells #[] 67) = w5 at *
                generalize w4.heap.size = UB at *
                have AT5 : Hid (At w5 FB 1 [.int .i64 tb, .int .i64 ts, .slice ma tms.length mc]) := Lib.hid (At_tail (At.of_heap HB5.out))
                have HSH := Lib.hid (shaped_ok w5 l.length tb ts tms ma mc TF5.out)
                cases q with
                | true =>
                  have HR : Hid (structsE l = 2) := Lib.hid (HBAD.out (by rw [HFD.out]; rfl))
                  clear HSH AT5
                  go_wp2_with fail
                  go_ret
                  exact ⟨by rw [HR.out]; rfl, R5.out⟩
                | false =>
                  by_cases hsh : shapedB l.length ⟨tb, ts, tms⟩ = true
                  · rw [hsh] at HSH HFD
                    have hl8 : tms.length ≤ 8 := (shaped_iff.1 hsh).2.1
                    clear hsh
                    obtain ⟨f0, f1, f2, f3⟩ := ce4 HB5.out
                    go_wp2_with fail
                    clear f0 f1 f2 f3
                    refine HSH.out.mono ?_
                    rintro e w6 ⟨rfl, r6⟩
                    have R6 := Lib.hid (R5.out.trans r6)
                    have HM6 := Lib.hid (HM5.out.fr r6 (by simp))
                    have HS6 := Lib.hid (r6.heap HS5.out (by simp))
                    have HB6 := Lib.hid (r6.heap HB5.out (by simp))
                    have TF6 := Lib.hid (TF5.out.fr r6)
                    have AT6 : Hid (At w6 FB 1 [.int .i64 tb, .int .i64 ts, .slice ma tms.length mc]) := Lib.hid (At_tail (At.of_heap HB6.out))
                    clear r6 R5 HM5 HS5 HB5 TF5 AT5 HSH
                    have HIN := Lib.hid (inside_ok w6 tb ts tms ma mc TF6.out (by omega))
                    obtain ⟨f0, f1, f2, f3⟩ := ce4 HB6.out
                    go_wp2_with fail
                    clear f0 f1 f2 f3
                    refine HIN.out.mono ?_
                    rintro e w7 ⟨rfl, r7⟩
                    have R7 := Lib.hid (R6.out.trans r7)
                    have HM7 := Lib.hid (HM6.out.fr r7 (by simp))
                    have HS7 := Lib.hid (r7.heap HS6.out (by simp))
                    have HB7 := Lib.hid (r7.heap HB6.out (by simp))
                    clear r7 R6 HM6 HS6 HB6 TF6 AT6 HIN
                    generalize insideB ⟨tb, ts, tms⟩ = inn at *
                    cases inn with
                    | false =>
                      have HG := Lib.hid (HGOOD.out (by rw [HFD.out]; rfl))
                      have HMW2 := Lib.hid (HM7.out)
                      obtain ⟨w8, hrun, hM8, r8⟩ := HM7.out.add (by have := HFL.out; have := HLN.out.2; unfold maxLen; omega) nm hfsz
                      rw [← HNX.out] at hM8
                      have HM8 := Lib.hid hM8
                      have HS8 := Lib.hid (r8.heap HS7.out (by have := HMS.out; simp; omega))
                      have R8 := Lib.hid (R7.out.trans' r8 (fun k hk _ => by have := HMW.out; simp at hk; omega))
                      obtain ⟨f0, f1, f2, f3⟩ := ce4 HB7.out
                      clear hM8 r8
                      go_wp2_with (refine wpList_update rfl _ _ _ _ rfl _ _ _ rfl rfl rfl w8 hrun ?_; simp only [Act.put, List.setIfInBounds_toArray, List.set_cons_zero, List.set_cons_succ])
                      clear hrun f0 f1 f2 f3
                      go_roundw
                      case rel => exact ⟨k + 1, by have := HFL.out; omega, by go_num, HG, HS8, Lib.hid (by rw [HNS.out]; exact HM8.out), R8⟩
                      case measure => first | (simp [intOf]; done) | (have := HFL.out; simp [intOf]; omega)
                    | true =>
                      by_cases his : (i : Int) ≤ ts
                      · have HR : Hid (structsE l = 2) := Lib.hid (HBAD.out (by rw [HFD.out, decide_eq_true his]; rfl))
                        obtain ⟨f0, f1, f2, f3⟩ := ce4 HB7.out
                        go_wp2_with fail
                        go_ret
                        exact ⟨by rw [HR.out]; rfl, R7.out⟩
                      · obtain ⟨f0, f1, f2, f3⟩ := ce4 HB7.out
                        go_upto_region 15 with fail
                        have HG := Lib.hid (HGOOD.out (by rw [HFD.out]; rw [decide_eq_false (by omega : ¬ (i : Int) ≤ ts)]; rfl))
                        have HMW2 := Lib.hid (HM7.out)
                        obtain ⟨w8, hrun, hM8, r8⟩ := HM7.out.add (by have := HFL.out; have := HLN.out.2; unfold maxLen; omega) nm hfsz
                        rw [← HNX.out] at hM8
                        have HM8 := Lib.hid hM8
                        have HS8 := Lib.hid (r8.heap HS7.out (by have := HMS.out; simp; omega))
                        have R8 := Lib.hid (R7.out.trans' r8 (fun k hk _ => by have := HMW.out; simp at hk; omega))
                        obtain ⟨f0, f1, f2, f3⟩ := ce4 HB7.out
                        clear hM8 r8
                        go_wp2_with (refine wpList_update rfl _ _ _ _ rfl _ _ _ rfl rfl rfl w8 hrun ?_; simp only [Act.put, List.setIfInBounds_toArray, List.set_cons_zero, List.set_cons_succ])
                        clear hrun f0 f1 f2 f3
                        go_roundw
                        case rel => exact ⟨k + 1, by have := HFL.out; omega, by go_num, HG, HS8, Lib.hid (by rw [HNS.out]; exact HM8.out), R8⟩
                        case measure => first | (simp [intOf]; done) | (have := HFL.out; simp [intOf]; omega)
                  · have hsf : shapedB l.length ⟨tb, ts, tms⟩ = false := by simpa using hsh
                    rw [hsf] at HSH HFD
                    have HR : Hid (structsE l = 2) := Lib.hid (HBAD.out (by rw [HFD.out]; rfl))
                    clear hsh hsf
                    obtain ⟨f0, f1, f2, f3⟩ := ce4 HB5.out
                    go_wp2_with fail
                    clear f0 f1 f2 f3
                    refine HSH.out.mono ?_
                    rintro e w6 ⟨rfl, r6⟩
                    have R6 := Lib.hid (R5.out.trans r6)
                    clear r6
                    go_wp2_with fail
                    go_ret
                    exact ⟨by rw [HR.out]; rfl, R6.out⟩

end Go.Proofs.YtjpkmaacalelcaaDoor

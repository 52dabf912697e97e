/- Fields lie one behind the other: the walk (law24). -/
import Derived.Test.YtjpkmaacalelcaaDoorD3
import Derived.Test.YtjpkmaacalelcaaDoorDp
set_option linter.unusedSimpArgs false
set_option linter.unusedVariables false
set_option linter.unusedSectionVars false
set_option linter.unnecessarySimpa false
set_option maxRecDepth 100000
namespace Go.Proofs.YtjpkmaacalelcaaDoor
open Go.RowKit Go.Ty Go.Deep Go.Sort

attribute [local go_sem] Program.isFuncB Program.isSliceB

variable {w w' w'' w0 : World}

theorem SmallS.nm {l : List St} (h : SmallS l) : NmOk l := fun i f hf => by
  unfold fieldsAt at hf
  cases hc : l[i]? with
  | none => rw [hc] at hf; cases hf
  | some s =>
    rw [hc] at hf
    have := ((h.2 s (List.mem_of_getElem? hc)).2.2 f hf).1
    unfold maxLen
    omega
theorem SmallS.nms {l : List St} (h : SmallS l) : NmS l := fun s hs => (h.2 s hs).1
/-- what the walk asks of a field -/
structure FieldOk (l : List St) (s k : Nat) (f : Ty.Fd) (e m e2 m2 off n a : Nat) : Prop where
  of_ : offS l s f.nm = (off, f.t, 0)
  ck : checkE l f.t = 0
  size : sizeV l f.t = n
  al : alignV l f.t = a
  a1 : 1 ≤ a ∧ a ≤ 8
  lo : e ≤ off
  hi : off < e + a
  md : off % a = 0
  nx : e2 = off + n
  le : e2 ≤ 8192
  mx : m2 = max m a
  ms : f.t.ms.length ≤ 8
theorem field_ok {l : List St} (h : structsE l = 0) {s k : Nat} (hs : s < l.length) (hk : k < (fieldsAt l s).length) :
    ∃ off n a, FieldOk l s k (fieldsAt l s)[k] (endAt l s k) (mostAt l s k) (endAt l s (k + 1)) (mostAt l s (k + 1)) off n a := by
  have hf := (fits_of h).field hk
  have he := end_fit (fits_of h) hs hk
  exact ⟨_, _, _, off_field h hs hk, check_field h hs hk, by unfold sizeV; rw [if_pos (check_field h hs hk)], by unfold alignV; rw [if_pos (check_field h hs hk)], hf.2, upN_ge' _ _ hf.2.1, upN_lt' _ _ hf.2.1, upN_mod' _ _, he.1, he.2.1, mostAt_succ l s k hk, (shaped_iff.1 hf.1).2.1⟩
theorem mostAt_le {l : List St} (h : structsE l = 0) {s : Nat} (hs : s < l.length) : ∀ k, k ≤ (fieldsAt l s).length → mostAt l s k ≤ 8
  | 0, _ => by rw [mostAt_zero]; omega
  | k + 1, hk => by
    rw [mostAt_succ l s k hk]
    have := mostAt_le h hs k (by omega)
    have := ((fits_of h).field (s := s) (i := k) hk).2.2
    omega

set_option maxRecDepth 100000 in
set_option maxHeartbeats 16000000 in
theorem lie_ok (w : World) (sa : Option Addr) (sc : Nat) (l : List St) (s0 : Int) (hs : SlIn w sa l) (hr : RawS l) (ht : Tb w) :
    Calls Tryd.prog 5 #[.slice sa l.length sc, .int .i64 s0] w fun e w' => e = .returned (.bool true) ∧ Fr no w w' := by
  have HS := Lib.hid hs
  have HR := Lib.hid hr
  have HKN := Lib.hid (known_ok w ht)
  have hl2 : l.length ≤ 9223372036854775807 := by have := hr.few; unfold maxLen at this; exact this
  clear hs hr ht
  go_enter Tryd.func5, Tryd.ntmps5
  go_wp2_with fail
  refine HKN.out.mono ?_
  rintro e w1 ⟨rfl, r1⟩
  have R1 := Lib.hid r1
  have HS1 := Lib.hid (HS.out.fr r1)
  clear r1 HKN HS
  go_wp2_with fail
  refine (longs_ok w1 sa sc l HS1.out HR.out).mono ?_
  rintro e w2 ⟨q, rfl, hq, r2⟩
  have HQ := Lib.hid hq
  have R2 := Lib.hid (R1.out.trans r2)
  have HS2 := Lib.hid (HS1.out.fr r2)
  clear hq r2 R1 HS1
  cases q
  case true =>
    go_wp2_with fail
    go_ret
    exact ⟨rfl, R2.out⟩
  have HSM := Lib.hid (HQ.out rfl)
  have HNM := Lib.hid HSM.out.nm
  have hl8 : l.length ≤ 8 := HSM.out.1
  clear HQ HR hl2
  go_wp2_with fail
  refine (structs_ok l HNM.out w2 sa sc HS2.out).mono ?_
  rintro e w3 ⟨rfl, r3⟩
  have R3 := Lib.hid (R2.out.trans r3)
  have HS3 := Lib.hid (HS2.out.fr r3)
  clear r3 R2 HS2
  by_cases h0 : structsE l = 0
  case neg =>
    have hz : ((structsE l : Int) != 0) = true := by rw [bne_iff_ne]; omega
    clear h0
    generalize structsE l = se at *
    go_wp2_with fail
    go_ret
    exact ⟨rfl, R3.out⟩
  rw [h0]
  have H0 := Lib.hid h0
  clear h0
  by_cases hl0 : l.length = 0
  · have hz : ((l.length : Int) == 0) = true := by rw [beq_iff_eq]; omega
    clear hl0
    go_wp2_with fail
    go_ret
    exact ⟨rfl, R3.out⟩
  have hz : ((l.length : Int) == 0) = false := by rw [beq_eq_false_iff_ne]; omega
  have HPK := Lib.hid (fun w => pick_det w s0 l.length (by omega) (by omega))
  have hpk := pkN_lt s0 l.length (by omega)
  generalize pkN s0 l.length = s at *
  go_wp2_with fail
  refine (HPK.out w3).mono ?_
  rintro e w' ⟨rfl, rfl⟩
  clear hl0 hz HPK
  have HWF := Lib.hid (whole_fit (fits_of H0.out) hpk)
  have HC0 := Lib.hid (check_whole H0.out hpk)
  have HSZ : Hid (sizeV l ⟨9, s, []⟩ = (whole l s).1) := Lib.hid (by unfold sizeV; rw [if_pos HC0.out, of_whole])
  have HAL : Hid (alignV l ⟨9, s, []⟩ = (whole l s).2) := Lib.hid (by unfold alignV; rw [if_pos HC0.out, of_whole])
  have HFO := Lib.hid (fun k (hk : k < (fieldsAt l s).length) => field_ok (k := k) H0.out hpk hk)
  obtain ⟨size, hsize⟩ : ∃ x, x = (whole l s).1 := ⟨_, rfl⟩
  obtain ⟨al, hal⟩ : ∃ x, x = (whole l s).2 := ⟨_, rfl⟩
  rw [← hsize] at HSZ HWF
  rw [← hal] at HAL HWF
  clear hsize hal
  have HE0 := Lib.hid (endAt_zero l s)
  have HML := Lib.hid (mostAt_le H0.out hpk)
  have HM0 := Lib.hid (mostAt_zero l s)
  have w1' := HWF.out
  have hmd : ((size : Int) % (al : Int) != 0) = false := by rw [← Int.natCast_emod, w1'.1, upN_mod']; rfl
  have hal1 : ¬ (al : Int) < 1 := by omega
  have hal0 : (al : Int) ≠ 0 := by omega
  have hal8 : al ≤ 8 := w1'.2.2.2.1
  have hsz8 : size ≤ 8192 := w1'.2.2.2.2.2
  clear w1'
  go_wp2_with fail
  refine (mkty_ok _ _ _ _ _ _).mono ?_
  rintro e w4 ⟨rfl, r4⟩
  have R4 := Lib.hid (R3.out.trans r4)
  have HS4 := Lib.hid (HS3.out.fr r4)
  clear r4 R3 HS3
  have C := size_ok l HNM.out ⟨9, s, []⟩ w4 sa none sc 0 HS4.out (tin_nil _)
  rw [HSZ.out, HC0.out] at C
  have HC := Lib.hid C
  clear C
  go_wp2_with fail
  refine HC.out.mono ?_
  rintro e w5 ⟨rfl, r5⟩
  have R5 := Lib.hid (R4.out.trans r5)
  have HS5 := Lib.hid (HS4.out.fr r5)
  clear r5 R4 HS4 HC
  go_wp2_with fail
  refine (mkty_ok _ _ _ _ _ _).mono ?_
  rintro e w6 ⟨rfl, r6⟩
  have R6 := Lib.hid (R5.out.trans r6)
  have HS6 := Lib.hid (HS5.out.fr r6)
  clear r6 R5 HS5
  have C := align_ok l HNM.out ⟨9, s, []⟩ w6 sa none sc 0 HS6.out (tin_nil _)
  rw [HAL.out, HC0.out] at C
  have HC := Lib.hid C
  clear C
  go_wp2_with fail
  refine HC.out.mono ?_
  rintro e w7 ⟨rfl, r7⟩
  have R7 := Lib.hid (R6.out.trans r7)
  have HS7 := Lib.hid (HS6.out.fr r7)
  clear r7 R6 HS6 HC
  go_upto_region 11 with fail
  clear hmd hal1
  have hnl : s < l.length := hpk
  have hsl : (s : Int) < l.length := by omega
  have hfe : l[s].fs = fieldsAt l s := by unfold fieldsAt; rw [List.getElem?_eq_getElem hnl]
  have HST := Lib.hid (HS7.out s hnl)
  rw [hfe] at HST
  clear hfe
  have HEN : Hid ((fieldsAt l s).length ≤ 16) := Lib.hid ((fits_of H0.out).sound.le s)
  obtain ⟨fs, hfs⟩ : ∃ x, x = fieldsAt l s := ⟨_, rfl⟩
  rw [← hfs] at HST HEN HWF HFO HML
  have hfl := HEN.out
  clear hpk HEN hfs
  go_loopw [10, 11, 12] (fun x y z wr => ∃ k : Nat, z = .int .i64 k ∧ k ≤ fs.length ∧ x = .int .i64 (endAt l s k : Nat) ∧ y = .int .i64 (mostAt l s k : Nat) ∧ Hid (Fr no w7 wr)) (fun _ _ z _ => (fs.length - intOf z).toNat)
  case atStart => exact ⟨0, rfl, by omega, by rw [HE0.out]; rfl, by rw [HM0.out]; rfl, Lib.hid (Fr.refl _ _)⟩
  case round =>
    obtain ⟨k, rfl, hk, rfl, rfl, hfr⟩ := hrel
    obtain ⟨b, of, fa, fc, rfl, hA, hF⟩ := HST.out
    have c1 := hfr.out.cell (hA 1 _ rfl) (by simp)
    have HF := Lib.hid hF
    clear hA hF
    obtain ⟨wz, hwz⟩ : ∃ x, x = wr := ⟨_, rfl⟩
    subst hwz
    by_cases hkl : k < fs.length
    case neg =>
      obtain rfl : k = fs.length := by omega
      have q := HWF.out
      have z1 : ((mostAt l s fs.length : Int) == (al : Int)) = true := by rw [beq_iff_eq]; omega
      have z2 : (endAt l s fs.length : Int) ≤ size := by omega
      have z3 : (size : Int) < (endAt l s fs.length : Int) + al := by have := upN_lt' (endAt l s fs.length) al q.2.2.1; omega
      have z4 : endAt l s fs.length ≤ 8192 := by omega
      have RF := Lib.hid (R7.out.trans hfr.out)
      clear q hkl HWF HFO HML
      generalize endAt l s fs.length = en at *
      generalize mostAt l s fs.length = mo at *
      go_wp2_with fail
      go_ret
      exact ⟨rfl, RF.out⟩
    have hkl' : (k : Int) < fs.length := by omega
    obtain ⟨b2, o2, ma, mc, rfl, hB, hM⟩ := HF.out k hkl
    have HB := Lib.hid (hB.fr hfr.out)
    have HM := Lib.hid (hM.fr hfr.out)
    have HSZL := Lib.hid (HS7.out.fr hfr.out)
    have RA := Lib.hid (R7.out.trans hfr.out)
    have R0z := Lib.hid hfr.out
    have hm8 := HML.out k hk
    obtain ⟨off, n, a, hp⟩ := HFO.out k hkl
    clear hB hM hfr HFO HML
    obtain ⟨f, hf⟩ : ∃ x, x = fs[k] := ⟨_, rfl⟩
    rw [← hf] at HB HM hp
    clear hf
    obtain ⟨nm, tb, ts, tms⟩ := f
    dsimp only at HB HM hp
    obtain ⟨en2, hen2⟩ : ∃ x, x = endAt l s (k + 1) := ⟨_, rfl⟩
    obtain ⟨mo2, hmo2⟩ : ∃ x, x = mostAt l s (k + 1) := ⟨_, rfl⟩
    rw [← hen2, ← hmo2] at hp
    have HEN2 := Lib.hid hen2
    have HMO2 := Lib.hid hmo2
    clear hen2 hmo2
    generalize endAt l s k = en at *
    generalize mostAt l s k = mo at *
    have HP := Lib.hid hp
    have pa1 : ¬ (a : Int) < 1 := by have := hp.a1; omega
    have pa0 : (a : Int) ≠ 0 := by have := hp.a1; omega
    have pmd : ((off : Int) % (a : Int) != 0) = false := by rw [← Int.natCast_emod, hp.md]; rfl
    have plo : ¬ (off : Int) < en := by have := hp.lo; omega
    have phi : ¬ ((en : Int) + a ≤ off) := by have := hp.hi; omega
    have pb : off ≤ 8192 ∧ n ≤ 8192 ∧ en ≤ 8192 ∧ a ≤ 8 ∧ mo ≤ 8 := by have := hp.nx; have := hp.le; have := hp.lo; have := hp.a1; omega
    obtain ⟨pb1, pb2, pb3, pb4, pb5⟩ := pb
    clear hp

    have HZ := Lib.hid (heap_new wz (.cells #[.string { data := #[] }, .int .i64 0, .int .i64 0, .slice none 0 0] 55))
    have HFB_0 := Lib.hid (setRow_heap _ _ _ #[.string nm, .int .i64 tb, .int .i64 ts, .slice ma tms.length mc] _ _ HZ.out)
    have r0 : Fr no wz ((wz.alloc (.cells #[.string { data := #[] }, .int .i64 0, .int .i64 0, .slice none 0 0] 55)).setRow wz.heap.size #[.string nm, .int .i64 tb, .int .i64 ts, .slice ma tms.length mc]) := fr_setRow ((Fr.refl no wz).alloc _) (.inr (Nat.le_refl _))
    have HM_0 := Lib.hid (HM.out.fr r0)
    have HSL_0 := Lib.hid (HSZL.out.fr r0)
    have RX_0 := Lib.hid (R0z.out.trans r0)
    clear r0 HM HSZL R0z
    go_upto_region 14 with (first
      | (refine wpList_load_in rfl 55 (.tmp 85) rfl b2 (o2 + k * 4) rfl _ _ HB.out Tryd.underlying55 rfl (by rw [infoFd]; rfl) ?_; simp only [Act.put, List.setIfInBounds_toArray, List.set_cons_zero, List.set_cons_succ])
      | (refine wpList_store_row rfl 55 (.tmp 13) (.tmp 86) rfl wz.heap.size #[.string nm, .int .i64 tb, .int .i64 ts, .slice ma tms.length mc] rfl rfl _ _ HZ.out (by rw [infoFd]; rfl) rfl (by simp [Value.oneCell']) ?_; rw [act_put_none]))
    clear HZ HB c1
    generalize (wz.alloc (.cells #[.string { data := #[] }, .int .i64 0, .int .i64 0, .slice none 0 0] 55)).setRow wz.heap.size #[.string nm, .int .i64 tb, .int .i64 ts, .slice ma tms.length mc] = v0 at *
    generalize wz.heap.size = FB at *
    obtain ⟨f0, f1, f2, f3⟩ := ce4 HFB_0.out
    have HPO := Lib.hid HP.out.of_
    go_wp2_with fail
    clear f0 f1 f2 f3
    refine (offset_ok l HNM.out s nm v0 _ sc HSL_0.out).mono ?_
    rintro e v1 ⟨on, ob, os, oms, oa, oc, oe, rfl, hT, hoff, r1⟩
    rw [HPO.out] at hoff
    simp only [Prod.mk.injEq, Ty.mk.injEq] at hoff
    obtain ⟨rfl, ⟨rfl, rfl, rfl⟩, rfl⟩ := hoff
    have HT_1 := Lib.hid hT
    clear hT HPO
    have HFB_1 := Lib.hid (r1.heap HFB_0.out (by simp))
    have HM_1 := Lib.hid (HM_0.out.fr r1)
    have HSL_1 := Lib.hid (HSL_0.out.fr r1)
    have RX_1 := Lib.hid (RX_0.out.trans r1)
    clear r1 HFB_0 HM_0 HSL_0 RX_0
    have HZ := Lib.hid (heap_new v1 (.cells #[.int .i64 0, .int .i64 0, .slice none 0 0] 25))
    have HTB_2 := Lib.hid (setRow_heap _ _ _ #[.int .i64 tb, .int .i64 ts, .slice oa tms.length oc] _ _ HZ.out)
    have r2 : Fr no v1 ((v1.alloc (.cells #[.int .i64 0, .int .i64 0, .slice none 0 0] 25)).setRow v1.heap.size #[.int .i64 tb, .int .i64 ts, .slice oa tms.length oc]) := fr_setRow ((Fr.refl no v1).alloc _) (.inr (Nat.le_refl _))
    have HFB_2 := Lib.hid (r2.heap HFB_1.out (by simp))
    have HM_2 := Lib.hid (HM_1.out.fr r2)
    have HSL_2 := Lib.hid (HSL_1.out.fr r2)
    have RX_2 := Lib.hid (RX_1.out.trans r2)
    have HT_2 := Lib.hid (HT_1.out.fr r2)
    clear r2 HFB_1 HM_1 HSL_1 RX_1 HT_1
    go_upto_region 15 with (refine wpList_store_row rfl 25 (.tmp 15) (.tmp 94) rfl v1.heap.size #[.int .i64 tb, .int .i64 ts, .slice oa tms.length oc] rfl rfl _ _ HZ.out (by rw [infoTy]; rfl) rfl (by simp [Value.oneCell']) ?_; rw [act_put_none])
    clear HZ
    generalize (v1.alloc (.cells #[.int .i64 0, .int .i64 0, .slice none 0 0] 25)).setRow v1.heap.size #[.int .i64 tb, .int .i64 ts, .slice oa tms.length oc] = v2 at *
    generalize v1.heap.size = QB at *
    have HAT : Hid (At v2 FB 1 [.int .i64 tb, .int .i64 ts, .slice ma tms.length mc]) := Lib.hid (At.sub HFB_2.out rfl)
    have C := size_ok l HNM.out ⟨tb, ts, tms⟩ v2 _ ma sc mc HSL_2.out HM_2.out
    rw [HP.out.size, HP.out.ck] at C
    have HC := Lib.hid C
    clear C
    go_wp2_with (refine wpList_load_in rfl 25 (.tmp 98) rfl FB 1 rfl _ _ HAT.out Tryd.underlying25 rfl (by rw [infoTy]; rfl) ?_; simp only [Act.put, List.setIfInBounds_toArray, List.set_cons_zero, List.set_cons_succ])
    refine HC.out.mono ?_
    rintro e v3 ⟨rfl, r3⟩
    clear HC HAT
    have HFB_3 := Lib.hid (r3.heap HFB_2.out (by simp))
    have HM_3 := Lib.hid (HM_2.out.fr r3)
    have HSL_3 := Lib.hid (HSL_2.out.fr r3)
    have RX_3 := Lib.hid (RX_2.out.trans r3)
    have HT_3 := Lib.hid (HT_2.out.fr r3)
    have HTB_3 := Lib.hid (r3.heap HTB_2.out (by simp))
    clear r3 HFB_2 HM_2 HSL_2 RX_2 HT_2 HTB_2
    have HAT : Hid (At v3 FB 1 [.int .i64 tb, .int .i64 ts, .slice ma tms.length mc]) := Lib.hid (At.sub HFB_3.out rfl)
    have C := align_ok l HNM.out ⟨tb, ts, tms⟩ v3 _ ma sc mc HSL_3.out HM_3.out
    rw [HP.out.al, HP.out.ck] at C
    have HC := Lib.hid C
    clear C
    go_wp2_with (refine wpList_load_in rfl 25 (.tmp 105) rfl FB 1 rfl _ _ HAT.out Tryd.underlying25 rfl (by rw [infoTy]; rfl) ?_; simp only [Act.put, List.setIfInBounds_toArray, List.set_cons_zero, List.set_cons_succ])
    refine HC.out.mono ?_
    rintro e v4 ⟨rfl, r4⟩
    clear HC HAT
    have HFB_4 := Lib.hid (r4.heap HFB_3.out (by simp))
    have HM_4 := Lib.hid (HM_3.out.fr r4)
    have HSL_4 := Lib.hid (HSL_3.out.fr r4)
    have RX_4 := Lib.hid (RX_3.out.trans r4)
    have HT_4 := Lib.hid (HT_3.out.fr r4)
    have HTB_4 := Lib.hid (r4.heap HTB_3.out (by simp))
    clear r4 HFB_3 HM_3 HSL_3 RX_3 HT_3 HTB_3
    have HAT : Hid (At v4 FB 1 [.int .i64 tb, .int .i64 ts, .slice ma tms.length mc]) := Lib.hid (At.sub HFB_4.out rfl)
    have hm8' := HP.out.ms
    have C := samet_ok v4 tb ts tb ts tms tms oa ma oc mc HT_4.out HM_4.out (by dsimp only at hm8'; omega) (by dsimp only at hm8'; omega)
    rw [decide_eq_true rfl] at C
    have HC := Lib.hid C
    clear C hm8'
    go_wp2_with (first
      | (refine wpList_guarded (by rfl) ?_; intro KK hKK; refine wp_load_row 25 (.tmp 15) rfl QB rfl _ _ _ _ HTB_4.out Tryd.underlying25 rfl (by rw [infoTy]; rfl) ?_; refine hKK _ _ ?_; clear hKK; simp only [Act.put, List.setIfInBounds_toArray, List.set_cons_zero, List.set_cons_succ])
      | (refine wpList_guarded (by rfl) ?_; intro KK hKK; refine wp_load_in 25 (.tmp 122) rfl FB 1 rfl _ _ HAT.out Tryd.underlying25 rfl (by rw [infoTy]; rfl) ?_; refine hKK _ _ ?_; clear hKK; simp only [Act.put, List.setIfInBounds_toArray, List.set_cons_zero, List.set_cons_succ]))
    refine HC.out.mono ?_
    rintro e v5 ⟨rfl, r5⟩
    clear HC HAT
    have HFB_5 := Lib.hid (r5.heap HFB_4.out (by simp))
    have HM_5 := Lib.hid (HM_4.out.fr r5)
    have HSL_5 := Lib.hid (HSL_4.out.fr r5)
    have RX_5 := Lib.hid (RX_4.out.trans r5)
    have HT_5 := Lib.hid (HT_4.out.fr r5)
    have HTB_5 := Lib.hid (r5.heap HTB_4.out (by simp))
    clear r5 HFB_4 HM_4 HSL_4 RX_4 HT_4 HTB_4
    go_wp2_with fail
    go_roundw
    case rel => exact ⟨k + 1, by go_num, by omega, by rw [← HEN2.out, HP.out.nx]; rfl, by rw [← HMO2.out, HP.out.mx]; congr 1; omega, RX_5⟩
    case measure => first | (simp [intOf]; done) | (simp [intOf]; omega)

theorem lie_rd (w : World) (v : Value) {m0 : Nat} {d0 : Dt} (e0 : Rd Tryd.prog w m0 22 [v] d0) (s : Int) (ht : Tb w) :
    Calls Tryd.prog 5 #[v, .int .i64 s] w fun e w' => e = .returned (.bool true) ∧ Fr no w w' := by
  obtain ⟨l, sa, sc, rfl, hs, hr⟩ := sts_of e0
  exact lie_ok w sa sc l s hs hr ht

end Go.Proofs.YtjpkmaacalelcaaDoor

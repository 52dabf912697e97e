/- The document's Structs, Check, Size, Align (law24). -/
import Derived.Test.YtjpkmaacalelcaaDoorE2
set_option linter.unusedSimpArgs false
set_option linter.unusedVariables false
set_option linter.unusedSectionVars false
set_option linter.unnecessarySimpa false
set_option maxRecDepth 100000
namespace Go.Proofs.YtjpkmaacalelcaaDoor
open Go.RowKit Go.Ty Go.Deep

attribute [local go_sem] Program.isFuncB Program.isSliceB

variable {w w' w'' w0 : World}

set_option maxRecDepth 100000 in
set_option maxHeartbeats 4000000 in
theorem rstructs_ok (l : List St) (hsm : SmallS l) (w : World) (sa : Option Addr) (sc : Nat) (hs : SlIn w sa l) :
    Calls Tryd.prog 19 #[.slice sa l.length sc] w fun e w' => e = .returned (.int .i64 (structsE l)) ∧ Fr no w w' := by
  have hl8 : l.length ≤ 8 := hsm.1
  have HS := Lib.hid hs
  have HSM := Lib.hid hsm
  have HE : Hid (structsE l = if soundB l = true then (if fitB l = true then 0 else 3) else 2) := Lib.hid rfl
  generalize structsE l = res at *
  clear hs hsm
  go_enter Tryd.func19, Tryd.ntmps19
  go_upto_region 4 with fail
  go_loopw [3] (fun x wr => ∃ k : Nat, x = .int .i64 k ∧ k ≤ l.length ∧ Hid (∀ j, j < k → stB l j = true) ∧ Hid (Fr no w wr)) (fun x _ => (l.length - intOf x).toNat)
  case atStart => exact ⟨0, rfl, by omega, Lib.hid (fun j h => by omega), Lib.hid (Fr.refl _ _)⟩
  case round =>
    obtain ⟨k, rfl, hk, hpre, hfr⟩ := hrel
    by_cases hkl : k < l.length
    · have hkl' : (k : Int) < l.length := by omega
      have HF := Lib.hid (rfields_ok l HSM.out k hkl wr sa sc (HS.out.fr hfr.out))
      by_cases hb : stB l k = true
      · have HP : Hid (∀ j, j < k + 1 → stB l j = true) := Lib.hid (fun j hj => by
          rcases Nat.lt_or_ge j k with h | h
          · exact hpre.out j h
          · have : j = k := by omega
            subst this; exact hb)
        rw [hb] at HF
        clear hb hpre
        go_wp2_with fail
        refine HF.out.mono ?_
        rintro e w2 ⟨rfl, r2⟩
        have R2 := Lib.hid (hfr.out.trans r2)
        clear r2
        go_wp2_with fail
        go_roundw
        case rel => exact ⟨k + 1, by go_num, by omega, HP, R2⟩
        case measure => first | (simp [intOf]; done) | (simp [intOf]; omega)
      · have hb' : stB l k = false := by simpa using hb
        have hr : Hid (res = 2) := Lib.hid (by rw [HE.out, if_neg (by rw [soundB_not k hkl hb']; decide)])
        rw [hb'] at HF
        clear hb hb' hpre
        go_wp2_with fail
        refine HF.out.mono ?_
        rintro e w2 ⟨rfl, r2⟩
        have R2 := Lib.hid (hfr.out.trans r2)
        clear r2
        go_wp2_with fail
        go_ret
        exact ⟨by rw [hr.out]; rfl, R2.out⟩
    · obtain rfl : k = l.length := by omega
      have hsb : soundB l = true := soundB_all (by omega) (fun i hi => hpre.out i hi)
      have HSD := Lib.hid (sound_of hsb)
      rw [if_pos hsb] at HE
      clear hpre hkl hsb
      go_upto_region 9 with fail
      obtain ⟨wz, hwz⟩ : ∃ x, x = wr := ⟨_, rfl⟩
      subst hwz
      go_loopw [4, 5, 6] (fun x _ _ wr => ∃ k : Nat, x = .int .i64 k ∧ k ≤ l.length ∧ Hid (∀ j, j < k → (whole l j).1 ≤ 8192) ∧ Hid (Fr no w wr)) (fun x _ _ _ => (l.length - intOf x).toNat)
      case atStart => exact ⟨0, rfl, by omega, Lib.hid (fun j h => by omega), hfr⟩
      case round =>
        obtain ⟨k, rfl, hk, hpre, hfr2⟩ := hrel
        by_cases hkl : k < l.length
        · have hkl' : (k : Int) < l.length := by omega
          have hshp : shapedB l.length ⟨9, k, []⟩ = true := shaped_iff.2 ⟨by simp, by simp, fun _ => ⟨by simp, by simpa using hkl⟩, fun e => absurd rfl e, fun e => by simp at e, rfl⟩
          have HM := Lib.hid (meas_ok l HSD.out ⟨9, k, []⟩ hshp wr sa none sc 0 (HS.out.fr hfr2.out) (tin_nil _))
          dsimp only [List.length_nil] at HM
          clear hshp
          go_wp2_with fail
          refine HM.out.mono ?_
          rintro e w2 ⟨n, rfl, hn, hmi, r2⟩
          rw [of_whole] at hmi ⊢
          rw [T40_eq] at hn
          have R2 := Lib.hid (hfr2.out.trans r2)
          have HMI := Lib.hid hmi
          clear r2 HM
          by_cases h8 : n ≤ 8192
          · have h8' : ¬ (8192 : Int) < n := by omega
            have HP : Hid (∀ j, j < k + 1 → (whole l j).1 ≤ 8192) := Lib.hid (fun j hj => by
              rcases Nat.lt_or_ge j k with h | h
              · exact hpre.out j h
              · have : j = k := by omega
                subst this; omega)
            clear h8 hpre hmi
            go_wp2_with fail
            go_roundw
            case rel => exact ⟨k + 1, by go_num, by omega, HP, R2⟩
            case measure => first | (simp [intOf]; done) | (simp [intOf]; omega)
          · have h8' : (8192 : Int) < n := by omega
            have hr : Hid (res = 3) := Lib.hid (by rw [HE.out, if_neg (by rw [fitB_not k hkl (by omega)]; decide)])
            clear h8 hpre hmi
            go_wp2_with fail
            go_ret
            exact ⟨by rw [hr.out]; rfl, R2.out⟩
        · obtain rfl : k = l.length := by omega
          have hr : Hid (res = 0) := Lib.hid (by rw [HE.out, if_pos (fitB_all (fun i hi => hpre.out i hi))])
          clear hpre hkl
          go_wp2_with fail
          go_ret
          exact ⟨by rw [hr.out]; rfl, hfr2.out⟩


set_option maxRecDepth 100000 in
set_option maxHeartbeats 4000000 in
theorem rcheck_ok (l : List St) (hsm : SmallS l) (t : Ty) (w : World) (sa ma : Option Addr) (sc mc : Nat) (hs : SlIn w sa l) (hm : TIn w ma mc t.ms) :
    Calls Tryd.prog 21 #[.slice sa l.length sc, .agg #[.int .i64 t.b, .int .i64 t.s, .slice ma t.ms.length mc]] w fun e w' => e = .returned (.int .i64 (checkE l t)) ∧ Fr no w w' := by
  have HE : Hid (checkE l t = if structsE l = 0 then (if shapedB l.length t = true then (if (ofM (whole l) t).1 ≤ 8192 then 0 else 3) else 2) else structsE l) := Lib.hid rfl
  generalize checkE l t = res at *
  have HSO := Lib.hid (fun h => sound_of (structsE_ok (l := l).1 h).1)
  have HSC := structsE_cases l
  obtain ⟨tb, ts, tms⟩ := t
  dsimp only at *
  have r1 := (Fr.refl no w).alloc (.cells #[.int .i64 tb, .int .i64 ts, .slice ma tms.length mc] 25)
  have hb := heap_new w (.cells #[.int .i64 tb, .int .i64 ts, .slice ma tms.length mc] 25)
  have HB := Lib.hid hb
  have HM := Lib.hid (hm.fr r1)
  have HS := Lib.hid (hs.fr r1)
  have R1 := Lib.hid r1
  have HSM := Lib.hid hsm
  have hl8 : l.length ≤ 8 := hsm.1
  clear hm hs r1 hb hsm
  go_enter Tryd.func21, Tryd.ntmps21
  go_upto_region 1 with fail
  generalize w.alloc (.cells #[.int .i64 tb, .int .i64 ts, .slice ma tms.length mc] 25) = w1 at *
  generalize w.heap.size = TB at *
  go_wp2_with fail
  refine (rstructs_ok l HSM.out w1 sa sc HS.out).mono ?_
  rintro e w2 ⟨rfl, r2⟩
  have HB2 := Lib.hid (r2.heap HB.out (by simp))
  have HM2 := Lib.hid (HM.out.fr r2)
  have HS2 := Lib.hid (HS.out.fr r2)
  have R2 := Lib.hid (R1.out.trans r2)
  clear r2 HB HM HS R1
  by_cases h0 : structsE l = 0
  case neg =>
    have hr : Hid (res = structsE l) := Lib.hid (by rw [HE.out, if_neg h0])
    generalize structsE l = se at *
    have hz : ((se : Int) != 0) = true := by rw [bne_iff_ne]; omega
    clear h0 HSC
    go_wp2_with fail
    go_ret
    exact ⟨by rw [hr.out]; rfl, R2.out⟩
  rw [if_pos h0] at HE
  have HSD := Lib.hid (HSO.out h0)
  rw [h0]
  clear h0 HSC HSO
  go_wp2_with (refine wpList_load_row rfl 25 (.tmp 3) rfl TB rfl _ _ _ _ HB2.out Tryd.underlying25 rfl (by rw [infoTy]; rfl) ?_; simp only [Act.put, List.setIfInBounds_toArray, List.set_cons_zero, List.set_cons_succ])
  have C := rshape_ok w2 l.length tb ts tms ma mc HM2.out
  have HC := Lib.hid C
  clear C
  by_cases hsh : shapedB l.length ⟨tb, ts, tms⟩ = true
  case neg =>
    rw [show shapedB l.length ⟨tb, ts, tms⟩ = false by simpa using hsh] at HC
    have hr : Hid (res = 2) := Lib.hid (by rw [HE.out, if_neg hsh])
    clear hsh
    refine HC.out.mono ?_
    rintro e w3 ⟨rfl, r3⟩
    have R3 := Lib.hid (R2.out.trans r3)
    clear r3
    go_wp2_with fail
    go_ret
    exact ⟨by rw [hr.out]; rfl, R3.out⟩
  rw [hsh] at HC
  rw [if_pos hsh] at HE
  refine HC.out.mono ?_
  rintro e w3 ⟨rfl, r3⟩
  have HB3 := Lib.hid (r3.heap HB2.out (by simp))
  have R3 := Lib.hid (R2.out.trans r3)
  have HQ := Lib.hid (meas_ok l HSD.out ⟨tb, ts, tms⟩ hsh w3 sa ma sc mc (HS2.out.fr r3) (HM2.out.fr r3))
  clear r3 HC HM2 HS2 R2 HB2 hsh
  go_wp2_with (refine wpList_load_row rfl 25 (.tmp 3) rfl TB rfl _ _ _ _ HB3.out Tryd.underlying25 rfl (by rw [infoTy]; rfl) ?_; simp only [Act.put, List.setIfInBounds_toArray, List.set_cons_zero, List.set_cons_succ])
  refine HQ.out.mono ?_
  rintro e w4 ⟨n, rfl, hn, hmi, r4⟩
  have R4 := Lib.hid (R3.out.trans r4)
  rw [T40_eq] at hn
  clear r4 HQ R3
  by_cases h8 : n ≤ 8192
  · have h8' : ¬ (8192 : Int) < n := by omega
    have hr : Hid (res = 0) := Lib.hid (by rw [HE.out, if_pos (by omega)])
    clear h8 hmi
    go_wp2_with fail
    go_ret
    exact ⟨by rw [hr.out]; rfl, R4.out⟩
  · have h8' : (8192 : Int) < n := by omega
    have hr : Hid (res = 3) := Lib.hid (by rw [HE.out, if_neg (by omega)])
    clear h8 hmi
    go_wp2_with fail
    go_ret
    exact ⟨by rw [hr.out]; rfl, R4.out⟩


set_option maxRecDepth 100000 in
set_option maxHeartbeats 4000000 in
theorem rsize_ok (l : List St) (hsm : SmallS l) (t : Ty) (w : World) (sa ma : Option Addr) (sc mc : Nat) (hs : SlIn w sa l) (hm : TIn w ma mc t.ms) :
    Calls Tryd.prog 13 #[.slice sa l.length sc, .agg #[.int .i64 t.b, .int .i64 t.s, .slice ma t.ms.length mc]] w fun e w' => e = .returned (.tuple #[.int .i64 (sizeV l t), .int .i64 (checkE l t)]) ∧ Fr no w w' := by
  have HE : Hid (sizeV l t = if checkE l t = 0 then (ofM (whole l) t).1 else 0) := Lib.hid rfl
  generalize sizeV l t = res at *
  have HC := Lib.hid (fun w sa sc ma mc hs hm => rcheck_ok l hsm t w sa ma sc mc hs hm)
  have HCO := Lib.hid (@checkE_ok l t)
  have HCS := checkE_cases l t
  obtain ⟨tb, ts, tms⟩ := t
  dsimp only at *
  have r1 := (Fr.refl no w).alloc (.cells #[.int .i64 tb, .int .i64 ts, .slice ma tms.length mc] 25)
  have hb := heap_new w (.cells #[.int .i64 tb, .int .i64 ts, .slice ma tms.length mc] 25)
  have HB := Lib.hid hb
  have HM := Lib.hid (hm.fr r1)
  have HS := Lib.hid (hs.fr r1)
  have R1 := Lib.hid r1
  have HSM := Lib.hid hsm
  have hl8 : l.length ≤ 8 := hsm.1
  clear hm hs r1 hb hsm
  generalize hck : checkE l ⟨tb, ts, tms⟩ = ck at *
  go_enter Tryd.func13, Tryd.ntmps13
  go_upto_region 1 with fail
  generalize w.alloc (.cells #[.int .i64 tb, .int .i64 ts, .slice ma tms.length mc] 25) = w1 at *
  generalize w.heap.size = TB at *
  go_wp2_with (refine wpList_load_row rfl 25 (.tmp 3) rfl TB rfl _ _ _ _ HB.out Tryd.underlying25 rfl (by rw [infoTy]; rfl) ?_; simp only [Act.put, List.setIfInBounds_toArray, List.set_cons_zero, List.set_cons_succ])
  refine (HC.out w1 sa sc ma mc HS.out HM.out).mono ?_
  rintro e w2 ⟨rfl, r2⟩
  have HB2 := Lib.hid (r2.heap HB.out (by simp))
  have HM2 := Lib.hid (HM.out.fr r2)
  have HS2 := Lib.hid (HS.out.fr r2)
  have R2 := Lib.hid (R1.out.trans r2)
  clear r2 HB HM HS R1 HC hck
  by_cases h0 : ck = 0
  case neg =>
    have hr : Hid (res = 0) := Lib.hid (by rw [HE.out, if_neg h0])
    have hz : ((ck : Int) != 0) = true := by rw [bne_iff_ne]; omega
    clear h0 HCS
    go_wp2_with fail
    go_ret2
    exact ⟨by rw [hr.out]; rfl, R2.out⟩
  subst h0
  rw [if_pos rfl] at HE
  have h3 := HCO.out.1 rfl
  have HQ := Lib.hid (meas_ok l (sound_of (structsE_ok.1 h3.1).1) ⟨tb, ts, tms⟩ h3.2.1 w2 sa ma sc mc HS2.out HM2.out)
  have HLE := Lib.hid h3.2.2
  clear HCS HCO h3 HM2 HS2
  go_wp2_with (refine wpList_load_row rfl 25 (.tmp 3) rfl TB rfl _ _ _ _ HB2.out Tryd.underlying25 rfl (by rw [infoTy]; rfl) ?_; simp only [Act.put, List.setIfInBounds_toArray, List.set_cons_zero, List.set_cons_succ])
  refine HQ.out.mono ?_
  rintro e w4 ⟨n, rfl, hn, hmi, r4⟩
  have R4 := Lib.hid (R2.out.trans r4)
  have hnv : Hid (n = (ofM (whole l) ⟨tb, ts, tms⟩).1) := Lib.hid (by have := HLE.out; omega)
  clear r4 HQ R2 hmi hn
  obtain ⟨a, ha⟩ : ∃ x, x = (ofM (whole l) ⟨tb, ts, tms⟩).2 := ⟨_, rfl⟩
  rw [← ha]
  have HA := Lib.hid ha
  clear ha
  go_wp2_with fail
  go_ret2
  exact ⟨by rw [HE.out, ← hnv.out]; rfl, R4.out⟩


set_option maxRecDepth 100000 in
set_option maxHeartbeats 4000000 in
theorem ralign_ok (l : List St) (hsm : SmallS l) (t : Ty) (w : World) (sa ma : Option Addr) (sc mc : Nat) (hs : SlIn w sa l) (hm : TIn w ma mc t.ms) :
    Calls Tryd.prog 15 #[.slice sa l.length sc, .agg #[.int .i64 t.b, .int .i64 t.s, .slice ma t.ms.length mc]] w fun e w' => e = .returned (.tuple #[.int .i64 (alignV l t), .int .i64 (checkE l t)]) ∧ Fr no w w' := by
  have HE : Hid (alignV l t = if checkE l t = 0 then (ofM (whole l) t).2 else 0) := Lib.hid rfl
  generalize alignV l t = res at *
  have HC := Lib.hid (fun w sa sc ma mc hs hm => rcheck_ok l hsm t w sa ma sc mc hs hm)
  have HCO := Lib.hid (@checkE_ok l t)
  have HCS := checkE_cases l t
  obtain ⟨tb, ts, tms⟩ := t
  dsimp only at *
  have r1 := (Fr.refl no w).alloc (.cells #[.int .i64 tb, .int .i64 ts, .slice ma tms.length mc] 25)
  have hb := heap_new w (.cells #[.int .i64 tb, .int .i64 ts, .slice ma tms.length mc] 25)
  have HB := Lib.hid hb
  have HM := Lib.hid (hm.fr r1)
  have HS := Lib.hid (hs.fr r1)
  have R1 := Lib.hid r1
  have HSM := Lib.hid hsm
  have hl8 : l.length ≤ 8 := hsm.1
  clear hm hs r1 hb hsm
  generalize hck : checkE l ⟨tb, ts, tms⟩ = ck at *
  go_enter Tryd.func15, Tryd.ntmps15
  go_upto_region 1 with fail
  generalize w.alloc (.cells #[.int .i64 tb, .int .i64 ts, .slice ma tms.length mc] 25) = w1 at *
  generalize w.heap.size = TB at *
  go_wp2_with (refine wpList_load_row rfl 25 (.tmp 3) rfl TB rfl _ _ _ _ HB.out Tryd.underlying25 rfl (by rw [infoTy]; rfl) ?_; simp only [Act.put, List.setIfInBounds_toArray, List.set_cons_zero, List.set_cons_succ])
  refine (HC.out w1 sa sc ma mc HS.out HM.out).mono ?_
  rintro e w2 ⟨rfl, r2⟩
  have HB2 := Lib.hid (r2.heap HB.out (by simp))
  have HM2 := Lib.hid (HM.out.fr r2)
  have HS2 := Lib.hid (HS.out.fr r2)
  have R2 := Lib.hid (R1.out.trans r2)
  clear r2 HB HM HS R1 HC hck
  by_cases h0 : ck = 0
  case neg =>
    have hr : Hid (res = 0) := Lib.hid (by rw [HE.out, if_neg h0])
    have hz : ((ck : Int) != 0) = true := by rw [bne_iff_ne]; omega
    clear h0 HCS
    go_wp2_with fail
    go_ret2
    exact ⟨by rw [hr.out]; rfl, R2.out⟩
  subst h0
  rw [if_pos rfl] at HE
  have h3 := HCO.out.1 rfl
  have HQ := Lib.hid (meas_ok l (sound_of (structsE_ok.1 h3.1).1) ⟨tb, ts, tms⟩ h3.2.1 w2 sa ma sc mc HS2.out HM2.out)
  have HLE := Lib.hid h3.2.2
  clear HCS HCO h3 HM2 HS2
  go_wp2_with (refine wpList_load_row rfl 25 (.tmp 3) rfl TB rfl _ _ _ _ HB2.out Tryd.underlying25 rfl (by rw [infoTy]; rfl) ?_; simp only [Act.put, List.setIfInBounds_toArray, List.set_cons_zero, List.set_cons_succ])
  refine HQ.out.mono ?_
  rintro e w4 ⟨n, rfl, hn, hmi, r4⟩
  have R4 := Lib.hid (R2.out.trans r4)
  have hnv : Hid (n = (ofM (whole l) ⟨tb, ts, tms⟩).1) := Lib.hid (by have := HLE.out; omega)
  clear r4 HQ R2 hmi hn
  obtain ⟨a, ha⟩ : ∃ x, x = (ofM (whole l) ⟨tb, ts, tms⟩).2 := ⟨_, rfl⟩
  rw [← ha]
  have HA := Lib.hid ha
  clear ha
  go_wp2_with fail
  go_ret2
  exact ⟨by rw [HE.out, ← HA.out]; rfl, R4.out⟩


end Go.Proofs.YtjpkmaacalelcaaDoor

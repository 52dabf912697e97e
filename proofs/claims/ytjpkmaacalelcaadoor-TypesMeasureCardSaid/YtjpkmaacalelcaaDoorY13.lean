/- Why a type may not be; how large one is (law24). -/
import Derived.Test.YtjpkmaacalelcaaDoorY12
set_option linter.unusedSimpArgs false
set_option linter.unusedVariables false
set_option linter.unusedSectionVars false
set_option linter.unnecessarySimpa false
set_option maxRecDepth 100000
namespace Go.Ty
/-- why a type may not be -/
def checkE (l : List St) (t : Ty) : Nat := if structsE l = 0 then (if shapedB l.length t = true then (if (ofM (whole l) t).1 ≤ 8192 then 0 else 3) else 2) else structsE l
theorem checkE_ok {l : List St} {t : Ty} : checkE l t = 0 ↔ structsE l = 0 ∧ shapedB l.length t = true ∧ (ofM (whole l) t).1 ≤ 8192 := by
  unfold checkE
  by_cases h1 : structsE l = 0 <;> by_cases h2 : shapedB l.length t = true <;> by_cases h3 : (ofM (whole l) t).1 ≤ 8192 <;> simp [h1, h2, h3]
theorem structsE_cases (l : List St) : structsE l = 0 ∨ structsE l = 2 ∨ structsE l = 3 := by
  unfold structsE
  split
  · split
    · exact .inl rfl
    · exact .inr (.inr rfl)
  · exact .inr (.inl rfl)
theorem checkE_cases (l : List St) (t : Ty) : checkE l t = 0 ∨ checkE l t = 2 ∨ checkE l t = 3 := by
  unfold checkE
  split
  · split
    · split
      · exact .inl rfl
      · exact .inr (.inr rfl)
    · exact .inr (.inl rfl)
  · exact structsE_cases l
end Go.Ty
namespace Go.Proofs.YtjpkmaacalelcaaDoor
open Go.RowKit Go.Ty Go.Deep

attribute [local go_sem] Program.isFuncB Program.isSliceB

variable {w w' w'' w0 : World}

/-- names are of no length that is out of reach -/
def NmOk (l : List St) : Prop := ∀ i, ∀ f ∈ fieldsAt l i, f.nm.size ≤ maxLen

set_option maxHeartbeats 4000000 in
theorem check_ok (l : List St) (hn : NmOk l) (t : Ty) (w : World) (sa ma : Option Addr) (sc mc : Nat) (hs : SlIn w sa l) (hm : TIn w ma mc t.ms) :
    Calls Tryd.prog 20 #[.slice sa l.length sc, .agg #[.int .i64 t.b, .int .i64 t.s, .slice ma t.ms.length mc]] w fun e w' => e = .returned (.int .i64 (checkE l t)) ∧ Fr no w w' := by
  have r0 := (Fr.refl no w).alloc (.cells #[.int .i64 t.b, .int .i64 t.s, .slice ma t.ms.length mc] 25)
  have HB0 := Lib.hid (heap_new w (.cells #[.int .i64 t.b, .int .i64 t.s, .slice ma t.ms.length mc] 25))
  have HC := Lib.hid (structs_ok l hn _ sa sc (hs.fr r0))
  have HS := Lib.hid (hs.fr r0)
  have HM := Lib.hid (hm.fr r0)
  have R0 := Lib.hid r0
  have HE : Hid (checkE l t = if structsE l = 0 then (if shapedB l.length t = true then (if (ofM (whole l) t).1 ≤ 8192 then 0 else 3) else 2) else structsE l) := Lib.hid rfl
  clear r0 hs hm
  by_cases h0 : structsE l = 0
  · have HSD := Lib.hid (sound_of (structsE_ok.1 h0).1)
    have HSP := Lib.hid (fun w => shaped_ok w l.length t.b t.s t.ms ma mc)
    have HOF := Lib.hid (fun h w => of_all l HSD.out t h w sa ma sc mc)
    by_cases hsh : shapedB l.length t = true
    · have HE2 : Hid (checkE l t = if (ofM (whole l) t).1 ≤ 8192 then 0 else 3) := Lib.hid (by rw [HE.out, if_pos h0, if_pos hsh])
      have HOF2 := Lib.hid (HOF.out hsh)
      generalize checkE l t = ce at *
      generalize ofM (whole l) t = mm at *
      obtain ⟨m1, m2⟩ := mm
      obtain ⟨tb, ts, tms⟩ := t
      unfold meas at *
      dsimp only at *
      rw [h0] at HC
      rw [hsh] at HSP
      clear h0 hsh HOF HE
      have hfld : ∀ w, (Instr.field 60 (.agg #[.int .i64 m1, .int .i64 m2]) 0).run Tryd.prog w = .ok (.int .i64 m1) w := fun w => by kernel_rfl
      go_enter Tryd.func20, Tryd.ntmps20
      go_wp2_with fail
      refine HC.out.mono ?_
      rintro e w2 ⟨rfl, r2⟩
      have HB2 := Lib.hid (r2.heap HB0.out (by simp))
      have HS2 := Lib.hid (HS.out.fr r2)
      have HM2 := Lib.hid (HM.out.fr r2)
      have R2 := Lib.hid (R0.out.trans r2)
      obtain ⟨f0, f1, f2⟩ := ce3 HB2.out
      clear r2 HC HS HM HB0
      go_wp2_with fail
      refine (HSP.out _ HM2.out).mono ?_
      rintro e w3 ⟨rfl, r3⟩
      have HB3 := Lib.hid (r3.heap HB2.out (by simp))
      have R3 := Lib.hid (R2.out.trans r3)
      have HO := Lib.hid (HOF2.out _ (HS2.out.fr r3) (HM2.out.fr r3))
      clear f0 f1 f2 r3 HSP HM2 HS2 HB2
      obtain ⟨f0, f1, f2⟩ := ce3 HB3.out
      go_wp2_with fail
      refine HO.out.mono ?_
      rintro e w4 ⟨rfl, r4⟩
      have R4 := Lib.hid (R3.out.trans r4)
      clear r4 f0 f1 f2 HO HOF2
      by_cases hfit : m1 ≤ 8192
      · have hz : ¬ ((8192 : Int) < m1) := by omega
        have HR : Hid (ce = 0) := Lib.hid (by rw [HE2.out, if_pos hfit])
        go_wp2_with fail
        go_ret
        exact ⟨by rw [HR.out]; rfl, R4.out⟩
      · have hz : (8192 : Int) < m1 := by omega
        have HR : Hid (ce = 3) := Lib.hid (by rw [HE2.out, if_neg hfit])
        go_wp2_with fail
        go_ret
        exact ⟨by rw [HR.out]; rfl, R4.out⟩
    · have hsf : shapedB l.length t = false := by simpa using hsh
      have HR : Hid (checkE l t = 2) := Lib.hid (by rw [HE.out, if_pos h0, if_neg hsh])
      obtain ⟨tb, ts, tms⟩ := t
      dsimp only at *
      rw [h0] at HC
      rw [hsf] at HSP
      clear h0 hsh hsf HOF HE
      go_enter Tryd.func20, Tryd.ntmps20
      go_wp2_with fail
      refine HC.out.mono ?_
      rintro e w2 ⟨rfl, r2⟩
      have HB2 := Lib.hid (r2.heap HB0.out (by simp))
      have HM2 := Lib.hid (HM.out.fr r2)
      have R2 := Lib.hid (R0.out.trans r2)
      obtain ⟨f0, f1, f2⟩ := ce3 HB2.out
      clear r2 HC HM HB0
      go_wp2_with fail
      refine (HSP.out _ HM2.out).mono ?_
      rintro e w3 ⟨rfl, r3⟩
      have R3 := Lib.hid (R2.out.trans r3)
      clear r3
      go_wp2_with fail
      go_ret
      exact ⟨by rw [HR.out]; rfl, R3.out⟩
  · have HR : Hid (checkE l t = structsE l) := Lib.hid (by rw [HE.out, if_neg h0])
    generalize structsE l = se at *
    have hz : ((se : Int) == 0) = false := by rw [beq_eq_false_iff_ne]; omega
    clear HE h0
    go_enter Tryd.func20, Tryd.ntmps20
    go_wp2_with fail
    refine HC.out.mono ?_
    rintro e w2 ⟨rfl, r2⟩
    have R2 := Lib.hid (R0.out.trans r2)
    clear r2
    have hz2 : ((se : Int) != 0) = true := by simp [bne, hz]
    go_wp2_with fail
    go_ret
    exact ⟨by rw [HR.out]; rfl, R2.out⟩

/-- what size tells -/
def sizeV (l : List St) (t : Ty) : Nat := if checkE l t = 0 then (ofM (whole l) t).1 else 0
set_option maxHeartbeats 4000000 in
theorem size_ok (l : List St) (hn : NmOk l) (t : Ty) (w : World) (sa ma : Option Addr) (sc mc : Nat) (hs : SlIn w sa l) (hm : TIn w ma mc t.ms) :
    Calls Tryd.prog 12 #[.slice sa l.length sc, .agg #[.int .i64 t.b, .int .i64 t.s, .slice ma t.ms.length mc]] w fun e w' => e = .returned (.tuple #[.int .i64 (sizeV l t), .int .i64 (checkE l t)]) ∧ Fr no w w' := by
  have r0 := (Fr.refl no w).alloc (.cells #[.int .i64 t.b, .int .i64 t.s, .slice ma t.ms.length mc] 25)
  have HB0 := Lib.hid (heap_new w (.cells #[.int .i64 t.b, .int .i64 t.s, .slice ma t.ms.length mc] 25))
  have HC := Lib.hid (check_ok l hn t _ sa ma sc mc (hs.fr r0) (hm.fr r0))
  have HS := Lib.hid (hs.fr r0)
  have HM := Lib.hid (hm.fr r0)
  have R0 := Lib.hid r0
  have HE : Hid (sizeV l t = if checkE l t = 0 then (ofM (whole l) t).1 else 0) := Lib.hid rfl
  clear r0 hs hm
  by_cases h0 : checkE l t = 0
  · obtain ⟨k1, k2, k3⟩ := checkE_ok.1 h0
    have HOF := Lib.hid (fun w => of_all l (sound_of (structsE_ok.1 k1).1) t k2 w sa ma sc mc)
    rw [if_pos h0] at HE
    rw [h0] at HC ⊢
    generalize sizeV l t = res at *
    generalize ofM (whole l) t = mm at *
    obtain ⟨m1, m2⟩ := mm
    obtain ⟨tb, ts, tms⟩ := t
    unfold meas at *
    dsimp only at *
    clear h0 k1 k2 k3
    have hfld : ∀ w, (Instr.field 60 (.agg #[.int .i64 m1, .int .i64 m2]) 0).run Tryd.prog w = .ok (.int .i64 m1) w := fun w => by kernel_rfl
    go_enter Tryd.func12, Tryd.ntmps12
    obtain ⟨f0, f1, f2⟩ := ce3 HB0.out
    go_wp2_with fail
    clear f0 f1 f2
    refine HC.out.mono ?_
    rintro e w2 ⟨rfl, r2⟩
    have HB2 := Lib.hid (r2.heap HB0.out (by simp))
    have HO := Lib.hid (HOF.out _ (HS.out.fr r2) (HM.out.fr r2))
    have R2 := Lib.hid (R0.out.trans r2)
    obtain ⟨f0, f1, f2⟩ := ce3 HB2.out
    clear r2 HC HS HM HB0
    go_wp2_with fail
    refine HO.out.mono ?_
    rintro e w4 ⟨rfl, r4⟩
    have R4 := Lib.hid (R2.out.trans r4)
    clear r4 f0 f1 f2 HO HOF
    go_wp2_with fail
    go_ret2
    exact ⟨by rw [HE.out]; rfl, R4.out⟩
  · rw [if_neg h0] at HE
    generalize sizeV l t = res at *
    generalize checkE l t = ce at *
    obtain ⟨tb, ts, tms⟩ := t
    dsimp only at *
    have hz : ((ce : Int) == 0) = false := by rw [beq_eq_false_iff_ne]; omega
    have hz2 : ((ce : Int) != 0) = true := by simp [bne, hz]
    clear h0
    go_enter Tryd.func12, Tryd.ntmps12
    obtain ⟨f0, f1, f2⟩ := ce3 HB0.out
    go_wp2_with fail
    clear f0 f1 f2
    refine HC.out.mono ?_
    rintro e w2 ⟨rfl, r2⟩
    have R2 := Lib.hid (R0.out.trans r2)
    clear r2
    go_wp2_with fail
    go_ret2
    exact ⟨by rw [HE.out]; rfl, R2.out⟩


/-- what align tells -/
def alignV (l : List St) (t : Ty) : Nat := if checkE l t = 0 then (ofM (whole l) t).2 else 0
set_option maxHeartbeats 4000000 in
theorem align_ok (l : List St) (hn : NmOk l) (t : Ty) (w : World) (sa ma : Option Addr) (sc mc : Nat) (hs : SlIn w sa l) (hm : TIn w ma mc t.ms) :
    Calls Tryd.prog 14 #[.slice sa l.length sc, .agg #[.int .i64 t.b, .int .i64 t.s, .slice ma t.ms.length mc]] w fun e w' => e = .returned (.tuple #[.int .i64 (alignV l t), .int .i64 (checkE l t)]) ∧ Fr no w w' := by
  have r0 := (Fr.refl no w).alloc (.cells #[.int .i64 t.b, .int .i64 t.s, .slice ma t.ms.length mc] 25)
  have HB0 := Lib.hid (heap_new w (.cells #[.int .i64 t.b, .int .i64 t.s, .slice ma t.ms.length mc] 25))
  have HC := Lib.hid (check_ok l hn t _ sa ma sc mc (hs.fr r0) (hm.fr r0))
  have HS := Lib.hid (hs.fr r0)
  have HM := Lib.hid (hm.fr r0)
  have R0 := Lib.hid r0
  have HE : Hid (alignV l t = if checkE l t = 0 then (ofM (whole l) t).2 else 0) := Lib.hid rfl
  clear r0 hs hm
  by_cases h0 : checkE l t = 0
  · obtain ⟨k1, k2, k3⟩ := checkE_ok.1 h0
    have HOF := Lib.hid (fun w => of_all l (sound_of (structsE_ok.1 k1).1) t k2 w sa ma sc mc)
    rw [if_pos h0] at HE
    rw [h0] at HC ⊢
    generalize alignV l t = res at *
    generalize ofM (whole l) t = mm at *
    obtain ⟨m1, m2⟩ := mm
    obtain ⟨tb, ts, tms⟩ := t
    unfold meas at *
    dsimp only at *
    clear h0 k1 k2 k3
    have hfld : ∀ w, (Instr.field 60 (.agg #[.int .i64 m1, .int .i64 m2]) 1).run Tryd.prog w = .ok (.int .i64 m2) w := fun w => by kernel_rfl
    go_enter Tryd.func14, Tryd.ntmps14
    obtain ⟨f0, f1, f2⟩ := ce3 HB0.out
    go_wp2_with fail
    clear f0 f1 f2
    refine HC.out.mono ?_
    rintro e w2 ⟨rfl, r2⟩
    have HB2 := Lib.hid (r2.heap HB0.out (by simp))
    have HO := Lib.hid (HOF.out _ (HS.out.fr r2) (HM.out.fr r2))
    have R2 := Lib.hid (R0.out.trans r2)
    obtain ⟨f0, f1, f2⟩ := ce3 HB2.out
    clear r2 HC HS HM HB0
    go_wp2_with fail
    refine HO.out.mono ?_
    rintro e w4 ⟨rfl, r4⟩
    have R4 := Lib.hid (R2.out.trans r4)
    clear r4 f0 f1 f2 HO HOF
    go_wp2_with fail
    go_ret2
    exact ⟨by rw [HE.out]; rfl, R4.out⟩
  · rw [if_neg h0] at HE
    generalize alignV l t = res at *
    generalize checkE l t = ce at *
    obtain ⟨tb, ts, tms⟩ := t
    dsimp only at *
    have hz : ((ce : Int) == 0) = false := by rw [beq_eq_false_iff_ne]; omega
    have hz2 : ((ce : Int) != 0) = true := by simp [bne, hz]
    clear h0
    go_enter Tryd.func14, Tryd.ntmps14
    obtain ⟨f0, f1, f2⟩ := ce3 HB0.out
    go_wp2_with fail
    clear f0 f1 f2
    refine HC.out.mono ?_
    rintro e w2 ⟨rfl, r2⟩
    have R2 := Lib.hid (R0.out.trans r2)
    clear r2
    go_wp2_with fail
    go_ret2
    exact ⟨by rw [HE.out]; rfl, R2.out⟩

end Go.Proofs.YtjpkmaacalelcaaDoor

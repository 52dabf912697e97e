import Derived.Test.YtihnkijeefkefaaGreatQ15
set_option linter.unusedSimpArgs false
set_option linter.unusedVariables false
set_option linter.unusedSectionVars false
set_option linter.unnecessarySimpa false
set_option maxRecDepth 100000
/- The program's space: Call. -/
namespace Go.Proofs.YtihnkijeefkefaaGreat
open Go.RowKit

attribute [local go_sem] Program.isFuncB Program.isSliceB

variable {w w' w'' w0 : World} {O R : Nat → Prop} {p : Nat} {s s' : Zp} {z : Pz}

def u64s (l : List Nat) : List Value := l.map fun (n : Nat) => .int .u64 (n : Int)
theorem Tryz.infoU64 : (Tryz.prog.info? 34).map (fun i => (i.zero, i.size, i.bytes)) = some (some (.int .u64 0), 1, 8) := by kernel_rfl
theorem Tryz.infoFn4 : (Tryz.prog.info? 41).map (·.size) = some 4 := by kernel_rfl
theorem Tryz.infoFour3 : (Tryz.prog.info? 121).map (fun i => (i.zero, i.size, i.bytes)) = some (some (.agg #[.int .i64 0, .int .i64 0, .int .i64 0, .int .i64 0]), 4, 32) := by kernel_rfl
theorem callS_9 (h : ¬ s.e.1 = 0) (f : Int) (ar : List Int) (res back : Int) : s.callS f ar res back = (s, 9) := by simp [Zp.callS, h]
theorem callS_2 (h : s.e.1 = 0) {f : Int} {ar : List Int} (hf : s.badF f ar.length = true) (res back : Int) : s.callS f ar res back = (s, 2) := by simp [Zp.callS, h, hf]
theorem callS_5 (h : s.e.1 = 0) {f : Int} {ar : List Int} {res back : Int} (hf : s.badF f ar.length = false) (hr : s.badR ar res back = true) : s.callS f ar res back = (s, 5) := by simp [Zp.callS, h, hf, hr]
theorem callS_f (h : s.e.1 = 0) {f : Int} {ar : List Int} {res back : Int} (hf : s.badF f ar.length = false) (hr : s.badR ar res back = false) (hl : s.full f = true) : s.callS f ar res back = ({ s with e := (3, 0) }, 0) := by simp [Zp.callS, h, hf, hr, hl]
theorem callS_0 (h : s.e.1 = 0) {f : Int} {ar : List Int} {res back : Int} (hf : s.badF f ar.length = false) (hr : s.badR ar res back = false) (hl : s.full f = false) : s.callS f ar res back = ((s.down f res back).layS 0 (s.argsS ar), 0) := by simp [Zp.callS, h, hf, hr, hl]
theorem SpAt.fnAt (h : SpAt w O R p s z) {k : Nat} (hk : k < s.m.f.length) : ∃ b o ca cl cc, z.fa = some ⟨b, o, none⟩ ∧ At w b (o + k * 4) ((fnOf s.m k).cells (.slice ca cl cc)) := by
  obtain ⟨b, o, ca, cc, h1, h2⟩ := h.tabs.fns k hk
  have h4 := h2.cell
  rw [← fnOf_get hk] at h4
  exact ⟨b, o, _, _, _, h1, h4⟩
section
variable {aa : Option Addr} {ac : Nat} {ar : List Int} {f res back : Int}
set_option maxHeartbeats 4000000 in
theorem scall_9 (w : World) (h : SpAt w O R p s z) (he : ¬ s.e.1 = 0) : Calls Tryz.prog 18 #[.pointer (some ⟨p, 0, none⟩), .int .i64 f, .slice aa ar.length ac, .int .i64 res, .int .i64 back] w fun e w' => e = .returned (.int .i64 9) ∧ SpTo w w' O R p s := by
  have r0 := (Fr.refl no w).alloc (.cells #[.pointer (some ⟨p, 0, none⟩)] 30)
  have HB := Lib.hid (heap_new w (.cells #[.pointer (some ⟨p, 0, none⟩)] 30))
  have HA := Lib.hid (sasked_ok _ (h.fr r0))
  have H := Lib.hid (h.fr r0)
  have R0 := Lib.hid r0
  clear r0
  have HE := Lib.hid (ask_9 he)
  clear h he
  go_enter Tryz.func18, Tryz.ntmps18
  go_wp2_with fail
  refine HA.out.mono ?_
  rintro e w1 ⟨rfl, r1⟩
  rw [HE.out]
  have R1 := Lib.hid (R0.out.trans r1)
  have H1 := Lib.hid (H.out.fr r1)
  have HB1 := Lib.hid (r1.heap HB.out (by simp))
  have c0 : w1.cell? ⟨w.heap.size, 0, none⟩ = some (.pointer (some ⟨p, 0, none⟩)) := cell_of_heap HB1.out rfl
  clear r1
  go_wp2_with fail
  go_ret
  exact ⟨rfl, H1.out.to R1.out.to⟩
set_option maxHeartbeats 4000000 in
theorem scall_2 (w : World) (h : SpAt w O R p s z) (he : s.e.1 = 0) (hf : s.badF f ar.length = true) : Calls Tryz.prog 18 #[.pointer (some ⟨p, 0, none⟩), .int .i64 f, .slice aa ar.length ac, .int .i64 res, .int .i64 back] w fun e w' => e = .returned (.int .i64 2) ∧ SpTo w w' O R p s := by
  have r0 := (Fr.refl no w).alloc (.cells #[.pointer (some ⟨p, 0, none⟩)] 30)
  have HB := Lib.hid (heap_new w (.cells #[.pointer (some ⟨p, 0, none⟩)] 30))
  have HA := Lib.hid (sasked_ok _ (h.fr r0))
  have H := Lib.hid (h.fr r0)
  have R0 := Lib.hid r0
  clear r0
  have HE := Lib.hid (ask_0 he)
  simp only [Zp.badF, decide_eq_true_eq] at hf
  have C5 : Hid (∀ w', SpAt w' O R p s z → w'.cell? ⟨p, 5, none⟩ = some (.slice z.fa s.m.f.length z.fc)) := Lib.hid (fun w' h' => cell_of_heap h'.obj rfl)
  by_cases h1 : f < 0
  · clear h he hf
    go_enter Tryz.func18, Tryz.ntmps18
    go_wp2_with fail
    refine HA.out.mono ?_
    rintro e w1 ⟨rfl, r1⟩
    rw [HE.out]
    have R1 := Lib.hid (R0.out.trans r1)
    have H1 := Lib.hid (H.out.fr r1)
    have HB1 := Lib.hid (r1.heap HB.out (by simp))
    have c0 : w1.cell? ⟨w.heap.size, 0, none⟩ = some (.pointer (some ⟨p, 0, none⟩)) := cell_of_heap HB1.out rfl
    clear r1
    go_wp2_with fail
    go_ret
    exact ⟨rfl, H1.out.to R1.out.to⟩
  by_cases h2 : f ≥ s.m.f.length
  · clear h he hf
    go_enter Tryz.func18, Tryz.ntmps18
    go_wp2_with fail
    refine HA.out.mono ?_
    rintro e w1 ⟨rfl, r1⟩
    rw [HE.out]
    have R1 := Lib.hid (R0.out.trans r1)
    have H1 := Lib.hid (H.out.fr r1)
    have HB1 := Lib.hid (r1.heap HB.out (by simp))
    have c0 : w1.cell? ⟨w.heap.size, 0, none⟩ = some (.pointer (some ⟨p, 0, none⟩)) := cell_of_heap HB1.out rfl
    clear r1
    have c5 := C5.out _ H1.out
    go_wp2_with fail
    go_ret
    exact ⟨rfl, H1.out.to R1.out.to⟩
  obtain ⟨k, rfl⟩ : ∃ k : Nat, f = k := ⟨f.toNat, by omega⟩
  have hk : k < s.m.f.length := by omega
  have hne : ((ar.length : Int) != (fnOf s.m k).p) = true := by
    rw [bne_iff_ne]
    have := hf.resolve_left h1
    have := this.resolve_left (by omega)
    simpa using this
  have FN : Hid (∀ w', SpAt w' O R p s z → ∃ b o, z.fa = some ⟨b, o, none⟩ ∧ w'.cell? ⟨b, o + k * 4, none⟩ = some (.int .i64 (fnOf s.m k).p)) := Lib.hid (fun w' h' => by
    obtain ⟨b, o, e1, e2, -⟩ := h'.fn hk
    exact ⟨b, o, e1, e2⟩)
  clear h he hf
  generalize (fnOf s.m k).p = np at *
  go_enter Tryz.func18, Tryz.ntmps18
  go_wp2_with fail
  refine HA.out.mono ?_
  rintro e w1 ⟨rfl, r1⟩
  rw [HE.out]
  have R1 := Lib.hid (R0.out.trans r1)
  have H1 := Lib.hid (H.out.fr r1)
  have HB1 := Lib.hid (r1.heap HB.out (by simp))
  have c0 : w1.cell? ⟨w.heap.size, 0, none⟩ = some (.pointer (some ⟨p, 0, none⟩)) := cell_of_heap HB1.out rfl
  clear r1
  have c5 := C5.out _ H1.out
  obtain ⟨b, ob, hfa, cp⟩ := FN.out _ H1.out
  rw [hfa] at c5
  clear hfa
  go_wp2_with fail
  go_ret
  exact ⟨rfl, H1.out.to R1.out.to⟩
set_option maxHeartbeats 4000000 in
theorem scall_5 (w : World) (h : SpAt w O R p s z) (he : s.e.1 = 0) (hf : s.badF f ar.length = false) (hr : s.badR ar res back = true) (hal : ar.length ≤ 1000000) (hv : Reads w (.slice aa ar.length ac) 1 ar.length (ints ar)) : Calls Tryz.prog 18 #[.pointer (some ⟨p, 0, none⟩), .int .i64 f, .slice aa ar.length ac, .int .i64 res, .int .i64 back] w fun e w' => e = .returned (.int .i64 5) ∧ SpTo w w' O R p s := by
  have r0 := (Fr.refl no w).alloc (.cells #[.pointer (some ⟨p, 0, none⟩)] 30)
  have HB := Lib.hid (heap_new w (.cells #[.pointer (some ⟨p, 0, none⟩)] 30))
  have HA := Lib.hid (sasked_ok _ (h.fr r0))
  have H := Lib.hid (h.fr r0)
  have R0 := Lib.hid r0
  clear r0
  have HE := Lib.hid (ask_0 he)
  have HV := Lib.hid hv
  simp only [Zp.badF, decide_eq_false_iff_not, not_or] at hf
  have h1 : ¬ f < 0 := hf.1
  have h2 : ¬ f ≥ s.m.f.length := by omega
  obtain ⟨k, rfl⟩ : ∃ k : Nat, f = k := ⟨f.toNat, by omega⟩
  have hk : k < s.m.f.length := by omega
  have hne : ((ar.length : Int) != (fnOf s.m k).p) = false := by
    rw [bne_eq_false_iff_eq]
    have := hf.2.2
    simpa using this
  have C5 : Hid (∀ w', SpAt w' O R p s z → w'.cell? ⟨p, 5, none⟩ = some (.slice z.fa s.m.f.length z.fc)) := Lib.hid (fun w' h' => cell_of_heap h'.obj rfl)
  have FN : Hid (∀ w', SpAt w' O R p s z → ∃ b o, z.fa = some ⟨b, o, none⟩ ∧ w'.cell? ⟨b, o + k * 4, none⟩ = some (.int .i64 (fnOf s.m k).p)) := Lib.hid (fun w' h' => by
    obtain ⟨b, o, e1, e2, -⟩ := h'.fn hk
    exact ⟨b, o, e1, e2⟩)
  simp only [Zp.badR, Bool.or_eq_true, Bool.not_eq_true'] at hr
  clear h he hf hv
  generalize (fnOf s.m k).p = np at *
  cases hres : s.rg res
  · clear hr
    go_enter Tryz.func18, Tryz.ntmps18
    go_wp2_with fail
    refine HA.out.mono ?_
    rintro e w1 ⟨rfl, r1⟩
    rw [HE.out]
    have R1 := Lib.hid (R0.out.trans r1)
    have H1 := Lib.hid (H.out.fr r1)
    have HB1 := Lib.hid (r1.heap HB.out (by simp))
    have c0 : w1.cell? ⟨w.heap.size, 0, none⟩ = some (.pointer (some ⟨p, 0, none⟩)) := cell_of_heap HB1.out rfl
    clear r1
    have c5 := C5.out _ H1.out
    obtain ⟨b, ob, hfa, cp⟩ := FN.out _ H1.out
    rw [hfa] at c5
    go_wp2_with fail
    refine (lacks_ok _ res _ _ HB1.out H1.out).mono ?_
    rintro e w2 ⟨rfl, r2⟩
    rw [hres]
    have R2 := Lib.hid (R1.out.trans r2)
    have H2 := Lib.hid (H1.out.fr r2)
    have HB2 := Lib.hid (r2.heap HB1.out (by simp))
    clear r2
    go_wp2_with fail
    go_ret
    exact ⟨rfl, H2.out.to R2.out.to⟩
  cases hb : isPl back
  · clear hr
    go_enter Tryz.func18, Tryz.ntmps18
    go_wp2_with fail
    refine HA.out.mono ?_
    rintro e w1 ⟨rfl, r1⟩
    rw [HE.out]
    have R1 := Lib.hid (R0.out.trans r1)
    have H1 := Lib.hid (H.out.fr r1)
    have HB1 := Lib.hid (r1.heap HB.out (by simp))
    have c0 : w1.cell? ⟨w.heap.size, 0, none⟩ = some (.pointer (some ⟨p, 0, none⟩)) := cell_of_heap HB1.out rfl
    clear r1
    have c5 := C5.out _ H1.out
    obtain ⟨b, ob, hfa, cp⟩ := FN.out _ H1.out
    rw [hfa] at c5
    go_wp2_with fail
    refine (lacks_ok _ res _ _ HB1.out H1.out).mono ?_
    rintro e w2 ⟨rfl, r2⟩
    rw [hres]
    have R2 := Lib.hid (R1.out.trans r2)
    have H2 := Lib.hid (H1.out.fr r2)
    have HB2 := Lib.hid (r2.heap HB1.out (by simp))
    clear r2
    go_wp2_with fail
    refine (splace_ok _ back).mono ?_
    rintro e w3 ⟨rfl, rfl⟩
    have R3 := Lib.hid R2.out
    have H3 := Lib.hid H2.out
    have HB3 := Lib.hid HB2.out
    rw [hb]
    go_wp2_with fail
    go_ret
    exact ⟨rfl, H3.out.to R3.out.to⟩
  have hany : ar.any (fun r => !s.rg r) = true := by simpa [hres, hb] using hr
  clear hr
  go_enter Tryz.func18, Tryz.ntmps18
  go_wp2_with fail
  refine HA.out.mono ?_
  rintro e w1 ⟨rfl, r1⟩
  rw [HE.out]
  have R1 := Lib.hid (R0.out.trans r1)
  have H1 := Lib.hid (H.out.fr r1)
  have HB1 := Lib.hid (r1.heap HB.out (by simp))
  have c0 : w1.cell? ⟨w.heap.size, 0, none⟩ = some (.pointer (some ⟨p, 0, none⟩)) := cell_of_heap HB1.out rfl
  clear r1
  have c5 := C5.out _ H1.out
  obtain ⟨b, ob, hfa, cp⟩ := FN.out _ H1.out
  rw [hfa] at c5
  go_wp2_with fail
  refine (lacks_ok _ res _ _ HB1.out H1.out).mono ?_
  rintro e w2 ⟨rfl, r2⟩
  rw [hres]
  have R2 := Lib.hid (R1.out.trans r2)
  have H2 := Lib.hid (H1.out.fr r2)
  have HB2 := Lib.hid (r2.heap HB1.out (by simp))
  clear r2
  go_wp2_with fail
  refine (splace_ok _ back).mono ?_
  rintro e w3 ⟨rfl, rfl⟩
  have R3 := Lib.hid R2.out
  have H3 := Lib.hid H2.out
  have HB3 := Lib.hid HB2.out
  rw [hb]
  go_wp2_with fail
  refine (containsf_ok _ _ ar _ _ (HV.out.fr R3.out (by simp)) hal HB3.out H3.out).mono ?_
  rintro e w4 ⟨rfl, r4⟩
  rw [hany]
  have R4 := Lib.hid (R3.out.trans r4)
  have H4 := Lib.hid (H3.out.fr r4)
  have HB4 := Lib.hid (r4.heap HB3.out (by simp))
  clear r4
  go_wp2_with fail
  go_ret
  exact ⟨rfl, H4.out.to R4.out.to⟩
end

end Go.Proofs.YtihnkijeefkefaaGreat

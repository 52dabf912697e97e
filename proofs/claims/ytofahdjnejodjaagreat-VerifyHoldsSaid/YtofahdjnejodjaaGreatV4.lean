/- The document's instruction, function, Find (law12). -/
import Derived.Test.YtofahdjnejodjaaGreatV3
import Derived.Test.YtofahdjnejodjaaGreatR4
set_option linter.unusedSimpArgs false
set_option linter.unusedVariables false
set_option linter.unusedSectionVars false
set_option linter.unnecessarySimpa false
namespace Go.Proofs.YtofahdjnejodjaaGreat
open Go.RowKit Go.Flow Go.Sure

attribute [local go_sem] Program.isFuncB Program.isSliceB

variable {w w' w'' w0 : World}

theorem refins_ok (w : World) (m : Mx) (i : Ix) (da fa ua : Option Addr) (dc fc uc : Nat) (hf : FnsIn w fa m.f) (h0 : i.o = 28 → 0 ≤ i.N) :
    Calls Tryz.prog 82 #[.agg #[.slice da m.d.length dc, .slice fa m.f.length fc], insV i.o i.A i.B i.C i.N (.slice ua i.l.length uc)] w fun e w' => e = .returned (.int .i64 (insCk m i)) ∧ Fr no w w' := by
  have HP : Hid (¬ (i.o = 28 ∧ (m.f.length : Int) ≤ i.N) → i.o = 28 → 0 ≤ i.N ∧ i.N < m.f.length ∧ ParAt w fa i.N.toNat (m.f.getD i.N.toNat fxNil).p) := Lib.hid (fun hn ho => by
    have h1 := h0 ho
    have h2 : ¬ (m.f.length : Int) ≤ i.N := fun h => hn ⟨ho, h⟩
    have h3 : i.N.toNat < m.f.length := by omega
    obtain ⟨b, o, ca, cc, rfl, hi⟩ := hf _ h3
    refine ⟨h1, by omega, b, o, rfl, ?_⟩
    rw [List.getD_eq_getElem?_getD, List.getElem?_eq_getElem h3]
    exact hi.four.1)
  have HCK : Hid (insCk m i = if i.o = 28 ∧ (m.f.length : Int) ≤ i.N then 13
    else if i.o = 28 ∧ (i.l.length : Int) ≠ (m.f.getD i.N.toNat fxNil).p then 2
    else if i.o = 24 ∧ (m.d.length : Int) < i.N then 5 else 0) := Lib.hid rfl
  generalize insCk m i = ck at *
  generalize (m.f.getD i.N.toNat fxNil).p = q at *
  clear hf h0
  generalize m.d.length = n at *
  generalize m.f.length = k at *
  generalize i.l.length = l at *
  obtain ⟨o, A, B, C, N, il⟩ := i
  dsimp only at *
  unfold insV
  have r1 := (Fr.refl no w).alloc (.cells #[.slice da n dc, .slice fa k fc] 38)
  have R := Lib.hid (r1.trans ((Fr.refl no _).alloc (.cells #[.int .i64 o, .int .i64 A, .int .i64 B, .int .i64 C, .int .i64 N, .slice ua l uc] 47)))
  clear r1
  by_cases ho : o = 28
  · subst ho
    by_cases hk : (k : Int) ≤ N
    · have HV : Hid (ck = 13) := Lib.hid (by rw [HCK.out, if_pos ⟨rfl, hk⟩])
      clear HCK HP
      go_enter Tryz.func82, Tryz.ntmps82
      go_wp2_with fail
      go_ret
      exact ⟨by rw [HV.out]; rfl, R.out⟩
    · obtain ⟨h0, h1, h2⟩ := HP.out (fun h => hk h.2) rfl
      obtain ⟨b, of, rfl, hc⟩ := h2.fr R.out
      obtain ⟨z, rfl⟩ : ∃ z : Nat, N = z := ⟨N.toNat, by omega⟩
      rw [Int.toNat_natCast] at hc
      have hk' : ¬ (z : Int) ≥ (k : Int) := hk
      by_cases hq : (l : Int) = q
      · have e2 : ((l : Int) != q) = false := by simp [hq]
        have HV : Hid (ck = 0) := Lib.hid (by rw [HCK.out, if_neg (fun h => hk h.2), if_neg (fun h => h.2 hq), if_neg (fun h => by omega)])
        clear HCK HP hq h2
        go_enter Tryz.func82, Tryz.ntmps82
        go_upto_region 3 with fail
        go_quiet (fail)
        go_wp2_with fail
        go_ret
        exact ⟨by rw [HV.out]; rfl, R.out.drewN _⟩
      · have e2 : ((l : Int) != q) = true := by simp [hq]
        have HV : Hid (ck = 2) := Lib.hid (by rw [HCK.out, if_neg (fun h => hk h.2), if_pos ⟨rfl, hq⟩])
        clear HCK HP hq h2
        go_enter Tryz.func82, Tryz.ntmps82
        go_upto_region 3 with fail
        go_quiet (fail)
        go_wp2_with fail
        go_ret
        exact ⟨by rw [HV.out]; rfl, R.out.drewN _⟩
  · have e1 : (o == 28) = false := by simpa using ho
    by_cases h4 : o = 24
    · subst h4
      by_cases hn : (n : Int) < N
      · have HV : Hid (ck = 5) := Lib.hid (by rw [HCK.out, if_neg (fun h => ho h.1), if_neg (fun h => ho h.1), if_pos ⟨rfl, hn⟩])
        clear HCK HP ho e1
        go_enter Tryz.func82, Tryz.ntmps82
        go_upto_region 3 with fail
        go_quiet (fail)
        go_wp2_with fail
        go_ret
        exact ⟨by rw [HV.out]; rfl, R.out.drewN _⟩
      · have HV : Hid (ck = 0) := Lib.hid (by rw [HCK.out, if_neg (fun h => ho h.1), if_neg (fun h => ho h.1), if_neg (fun h => hn h.2)])
        clear HCK HP ho e1
        go_enter Tryz.func82, Tryz.ntmps82
        go_upto_region 3 with fail
        go_quiet (fail)
        go_wp2_with fail
        go_ret
        exact ⟨by rw [HV.out]; rfl, R.out.drewN _⟩
    · have e4 : (o == 24) = false := by simpa using h4
      have HV : Hid (ck = 0) := Lib.hid (by rw [HCK.out, if_neg (fun h => ho h.1), if_neg (fun h => ho h.1), if_neg (fun h => h4 h.1)])
      clear HCK HP ho h4
      go_enter Tryz.func82, Tryz.ntmps82
      go_upto_region 3 with fail
      go_quiet (fail)
      go_wp2_with fail
      go_ret
      exact ⟨by rw [HV.out]; rfl, R.out.drewN _⟩

set_option maxRecDepth 100000 in
set_option maxHeartbeats 4000000 in
theorem reffn12_ok (w : World) (m : Mx) (f : Fx) (da fa ca : Option Addr) (dc fc cc : Nat) (hf : FnsIn w fa m.f) (hc : CodeIn w ca f.c) (hs : FnSmall f) (hp : 0 ≤ f.p ∧ f.p ≤ 8) :
    Calls Tryz.prog 52 #[.agg #[.slice da m.d.length dc, .slice fa m.f.length fc], .agg #[.int .i64 f.p, .int .i64 f.r, .int .i64 f.a, .slice ca f.c.length cc]] w
      fun e w' => e = .returned (.tuple #[.int .i64 (fnFind m f).1, .int .i64 (fnFind m f).2]) ∧ Fr no w w' := by
  have HC := Lib.hid hc
  have HFN := Lib.hid hf
  have HFC := Lib.hid (fun w2 (r : Fr no w w2) => rcheck_ok w2 ca cc f.c (hc.fr r) (by have := hs.len; omega) hs.args)
  have HUN := Lib.hid (fun w2 (r : Fr no w w2) => refunset_ok w2 ca cc f.c f.p (hc.fr r) (by have := hs.len; omega) hs.args)
  have hlen := hs.len
  have HFI : Hid (fnFind m f = if flowCk f.c ≠ 0 then (-1, flowCk f.c) else match insFind m f.c 0 with
    | some r => r
    | none => if 0 ≤ (unsetOf f.c f.p.toNat).1 then ((unsetOf f.c f.p.toNat).1, 14) else (-1, 0)) := Lib.hid rfl
  have HCK : Hid (flowCk f.c = 0 → masksCk f.p f.c = 0) := Lib.hid (fun h => by unfold masksCk; rw [if_neg (by omega)]; exact h)
  have HCALL : Hid (flowCk f.c = 0 → ∀ i ∈ f.c, i.o = 28 → 0 ≤ i.N) := Lib.hid (fun h i hi ho => (call_N ((joinCk_zero _ (flowCk_join h)).1 i hi) ho).1)
  obtain ⟨fp, fr', far, is⟩ := f
  dsimp only at *
  generalize fnFind m ⟨fp, fr', far, is⟩ = RES at *
  generalize flowCk is = ck at *
  have HM := Lib.hid (heap_new w (.cells #[.slice da m.d.length dc, .slice fa m.f.length fc] 38))
  have r1 := (Fr.refl no w).alloc (.cells #[.slice da m.d.length dc, .slice fa m.f.length fc] 38)
  have r2 := (Fr.refl no (w.alloc (.cells #[.slice da m.d.length dc, .slice fa m.f.length fc] 38))).alloc (.cells #[.int .i64 fp, .int .i64 fr', .int .i64 far, .slice ca is.length cc] 50)
  have HM2 := Lib.hid (r2.heap HM.out (by simp))
  have HF2 : Hid (((w.alloc (.cells #[.slice da m.d.length dc, .slice fa m.f.length fc] 38)).alloc (.cells #[.int .i64 fp, .int .i64 fr', .int .i64 far, .slice ca is.length cc] 50)).heap[w.heap.size + 1]? = some (.cells #[.int .i64 fp, .int .i64 fr', .int .i64 far, .slice ca is.length cc] 50 (0, 0))) := Lib.hid (by
    have := heap_new (w.alloc (.cells #[.slice da m.d.length dc, .slice fa m.f.length fc] 38)) (.cells #[.int .i64 fp, .int .i64 fr', .int .i64 far, .slice ca is.length cc] 50)
    simp only [World.size_alloc] at this
    exact this)
  have R2 := Lib.hid (r1.trans r2)
  have HFC2 := Lib.hid (HFC.out _ R2.out)
  clear hc hf hs r1 r2 HM HFC
  go_enter Tryz.func52, Tryz.ntmps52
  go_wp2_with fail
  refine HFC2.out.mono ?_
  rintro e w3 ⟨rfl, r3⟩
  have HM3 := Lib.hid (r3.heap HM2.out (by simp))
  have HF3 := Lib.hid (r3.heap HF2.out (by simp))
  have R3 := Lib.hid (R2.out.trans r3)
  clear r3 HM2 HF2 R2 HFC2
  by_cases hj : ck = 0
  case neg =>
    have e1 : (ck != 0) = true := by simpa using hj
    have HR : Hid (RES = (-1, ck)) := Lib.hid (by rw [HFI.out, if_pos hj])
    clear hj
    go_wp2_with fail
    go_ret2
    exact ⟨by rw [HR.out]; rfl, R3.out⟩
  have HCALL2 := Lib.hid (HCALL.out hj)
  have HCK2 := Lib.hid (HCK.out hj)
  have HFI2 : Hid (RES = match insFind m is 0 with
    | some r => r
    | none => if 0 ≤ (unsetOf is fp.toNat).1 then ((unsetOf is fp.toNat).1, 14) else (-1, 0)) := Lib.hid (by rw [HFI.out, if_neg (by simpa using hj)])
  subst hj
  clear HFI HCALL HCK
  go_wp2_with fail
  obtain ⟨B0, hB0⟩ : ∃ b, b = w.heap.size := ⟨_, rfl⟩
  rw [← hB0] at HM3 HF3 ⊢
  clear hB0
  go_loopw [7] (fun x wr => ∃ k : Nat, k ≤ is.length ∧ x = .int .i64 k ∧ Hid (∀ j (_ : j < k) (h : j < is.length), insCk m is[j] = 0) ∧ Hid (Fr no w3 wr)) (fun x _ => (is.length - intOf x).toNat)
  case atStart => exact ⟨0, by omega, rfl, Lib.hid (fun j h _ => by omega), Lib.hid (Fr.refl _ _)⟩
  case round =>
    obtain ⟨k, hk, rfl, hpre, hfr⟩ := hrel
    have R4 := Lib.hid (R3.out.trans hfr.out)
    have HM4 := Lib.hid (hfr.out.heap HM3.out (by simp))
    have HF4 := Lib.hid (hfr.out.heap HF3.out (by simp))
    obtain ⟨c0, c1, c2, c3⟩ := cells4 HF4.out
    by_cases hks : k < is.length
    · have hks' : (k : Int) < is.length := by omega
      obtain ⟨b, of, u, rfl, hi⟩ := HC.out.fr R4.out k hks
      obtain ⟨ua, uc, rfl⟩ := hi.args.shape
      have hcall := HCALL2.out _ (List.getElem_mem hks)
      have HPP := Lib.hid (fun w1 (h : Fr no w w1) => refins_ok w1 m is[k] da fa ua dc fc uc (HFN.out.fr h) hcall)
      have HBAD : Hid (insCk m is[k] ≠ 0 → RES = ((k : Int), insCk m is[k])) := Lib.hid (fun h => by rw [HFI2.out, insFind_some is 0 k hks hpre.out h]; simp)
      have HPRE : Hid (insCk m is[k] = 0 → ∀ j (_ : j < k + 1) (h : j < is.length), insCk m is[j] = 0) := Lib.hid (fun h0 j hj h => by
        by_cases he : j = k
        · subst he; exact h0
        · exact hpre.out j (by omega) h)
      have AI := Lib.hid (hi.at_.fr ((Fr.refl no wr).drew))
      have AM : Hid (At wr.drew B0 0 [.slice da m.d.length dc, .slice fa m.f.length fc]) := Lib.hid (At.of_heap (((Fr.refl no wr).drew).heap HM4.out (by simp)))
      have d3 : (wr.drew).cell? ⟨B0 + 1, 3, none⟩ = some (.slice (some ⟨b, of, none⟩) is.length cc) := ((Fr.refl no wr).drew).cell c3 (by simp)
      have HP5 := Lib.hid (HPP.out _ (R4.out.trans ((Fr.refl no wr).drew)))
      have R5 := Lib.hid (hfr.out.trans ((Fr.refl no wr).drew))
      clear hcall hi HPP
      generalize insCk m is[k] = qk at *
      generalize is[k] = ix at *
      obtain ⟨io, iA, iB, iC, iN, il⟩ := ix
      unfold insV at HP5
      unfold Ix.cells at AI
      dsimp only at AI HP5
      go_upto_region 7 with fail
      refine Lex.region [6] [7, 1] (by kernel_rfl) (by kernel_rfl) ?_
      refine Lex.opens (fun w' => At w' B0 0 [.slice da m.d.length dc, .slice fa m.f.length fc] ∧ At w' b (of + k * 6) [.int .i64 io, .int .i64 iA, .int .i64 iB, .int .i64 iC, .int .i64 iN, .slice ua il.length uc] ∧ w'.cell? ⟨B0 + 1, 3, none⟩ = some (.slice (some ⟨b, of, none⟩) is.length cc)) (⟨AM.out, AI.out, d3⟩) ?_
      repeat (first
        | (refine Lex.skips (by rfl) ?_; (try simp only [Act.put, List.setIfInBounds_toArray, List.set_cons_zero, List.set_cons_succ]))
        | (refine Lex.into (by rfl) (by rfl) _ _ rfl _ _ rfl _ _ (fun w' h => h.1) Tryz.underlying38 rfl (by rw [Tryz.infoMod2]; rfl) ?_; (try simp only [Act.put, List.setIfInBounds_toArray, List.set_cons_zero, List.set_cons_succ]))
        | (refine Lex.into (by rfl) (by rfl) _ _ rfl _ _ rfl _ _ (fun w' h => h.2.1) Tryz.underlying47 rfl (by rw [Tryz.infoIns]; rfl) ?_; (try simp only [Act.put, List.setIfInBounds_toArray, List.set_cons_zero, List.set_cons_succ]))
        | (refine Lex.quiet (v := ?_) (by rfl) (by rfl) ?_ ?_; rotate_left; (focus (intro w' hS'; go_simp; try rfl)); (try simp only [Act.put, List.setIfInBounds_toArray, List.set_cons_zero, List.set_cons_succ])))
      refine Lex.loud (by rfl) (by rfl) ?_
      intro K' hK'
      go_simp
      refine HP5.out.mono ?_
      rintro e w6 ⟨rfl, r6⟩
      have R6 := Lib.hid (R5.out.trans r6)
      have AM6 := Lib.hid (AM.out.fr r6)
      have AI6 := Lib.hid (AI.out.fr r6)
      have d6 := r6.cell d3 (by simp)
      clear r6 c0 c1 c2 c3
      refine hK' _ _ (⟨AM6.out, AI6.out, d6⟩) ?_
      clear hK'
      try simp only [Act.put, List.setIfInBounds_toArray, List.set_cons_zero, List.set_cons_succ]
      refine Lex.done ?_
      refine Lex.opens (fun _ => True) (trivial) ?_
      repeat (first
        | (refine Lex.skips (by rfl) ?_; (try simp only [Act.put, List.setIfInBounds_toArray, List.set_cons_zero, List.set_cons_succ]))
        | (refine Lex.quiet (v := ?_) (by rfl) (by rfl) ?_ ?_; rotate_left; (focus (intro w' hS'; go_simp; try rfl)); (try simp only [Act.put, List.setIfInBounds_toArray, List.set_cons_zero, List.set_cons_succ])))
      refine Lex.done ?_
      refine Lex.ends ?_
      clear d3 d6 AM AI AM6 AI6 HM4 HF4
      by_cases hq : qk = 0
      · have e2 : (qk != 0) = false := by simpa using hq
        have HP := Lib.hid (HPRE.out hq)
        clear hq
        go_wp2_with fail
        go_roundw
        case rel => exact ⟨k + 1, by omega, by go_num, HP, R6⟩
        case measure => first | (simp [intOf]; done) | (simp [intOf]; omega)
      · have e2 : (qk != 0) = true := by simpa using hq
        have HB := Lib.hid (HBAD.out hq)
        clear hq
        go_wp2_with fail
        go_ret2
        exact ⟨by rw [HB.out]; rfl, R3.out.trans R6.out⟩
    · obtain rfl : k = is.length := by omega
      have HNO : Hid (insFind m is 0 = none) := Lib.hid (insFind_none is 0 (fun j h => hpre.out j h h))
      have HU := Lib.hid (HUN.out _ R4.out)
      rw [HCK2.out] at HU
      clear hks hpre
      go_wp2_with fail
      refine HU.out.mono ?_
      rintro e w5 ⟨a, b, rfl, -, hgood, r5⟩
      obtain ⟨ms, hT, hab⟩ := hgood rfl
      have R5 := Lib.hid (R4.out.trans r5)
      have HUO : Hid (unsetOf is fp.toNat = (a, b)) := Lib.hid (by unfold unsetOf; rw [sureL_eq hT]; exact hab)
      clear r5 hgood hT hab c0 c1 c2 c3
      by_cases ha : 0 ≤ a
      · have HR : Hid (RES = (a, 14)) := Lib.hid (by rw [HFI2.out, HNO.out]; simp only [HUO.out]; rw [if_pos ha])
        have ha' : a ≥ 0 := ha
        go_wp2_with fail
        go_ret2
        exact ⟨by rw [HR.out]; rfl, R5.out⟩
      · have HR : Hid (RES = (-1, 0)) := Lib.hid (by rw [HFI2.out, HNO.out]; simp only [HUO.out]; rw [if_neg ha])
        go_wp2_with fail
        go_ret2
        exact ⟨by rw [HR.out]; rfl, R5.out⟩

set_option maxRecDepth 100000 in
set_option maxHeartbeats 4000000 in
theorem reffind_ok (w : World) (m : Mx) (da fa : Option Addr) (dc fc : Nat) (hm : ModIn w m da dc fa) (hs : m.Small) (hf : ∀ f ∈ m.f, FnSmall f) :
    Calls Tryz.prog 21 #[.agg #[.slice da m.d.length dc, .slice fa m.f.length fc]] w (FindPost w (modFind m)) := by
  have HMI := Lib.hid hm
  have HFS := Lib.hid hf
  have HMF : Hid (modFind m = if modCk m ≠ 0 then (-1, -1, modCk m) else if 0 < (m.f.getD 0 fxNil).p then (0, -1, 2) else fnsFind m m.f 0) := Lib.hid rfl
  have HCF : Hid (modCk m = 0 → 0 < m.f.length ∧ ∀ f ∈ m.f, 0 ≤ f.p ∧ f.p ≤ 8) := Lib.hid modCk_fns
  have HM := Lib.hid (heap_new w (.cells #[.slice da m.d.length dc, .slice fa m.f.length fc] 38))
  have r1 := (Fr.refl no w).alloc (.cells #[.slice da m.d.length dc, .slice fa m.f.length fc] 38)
  have R1 := Lib.hid r1
  have HCH5 := Lib.hid (refcheck_mod _ m da dc fa fc (hm.fr r1) hs)
  generalize modFind m = RES at *
  generalize modCk m = ck at *
  have hfl := hs.fns
  clear hm hs hf r1
  go_enter Tryz.func21, Tryz.ntmps21
  obtain ⟨m0, m1⟩ := cells2 HM.out
  go_wp2_with fail
  refine HCH5.out.mono ?_
  rintro e w6 ⟨rfl, r6⟩
  have HM6 := Lib.hid (r6.heap HM.out (by simp))
  have R6 := Lib.hid (R1.out.trans r6)
  clear r6 HCH5 m0 m1 HM R1
  obtain ⟨B0, hB0⟩ : ∃ b, b = w.heap.size := ⟨_, rfl⟩
  rw [← hB0] at HM6 ⊢
  clear hB0
  by_cases hj : ck = 0
  case neg =>
    have e1 : (ck != 0) = true := by simpa using hj
    have HR : Hid (RES = (-1, -1, ck)) := Lib.hid (by rw [HMF.out, if_pos hj])
    clear hj
    go_wp2_with fail
    go_ret3
    exact ⟨by rw [HR.out]; rfl, R6.out⟩
  obtain ⟨hpos, hfp⟩ := HCF.out hj
  have HFP := Lib.hid hfp
  have HR0 : Hid (RES = if 0 < (m.f.getD 0 fxNil).p then (0, -1, 2) else fnsFind m m.f 0) := Lib.hid (by rw [HMF.out, if_neg (by simpa using hj)])
  subst hj
  clear HMF HCF hfp
  have hpos' : (0 : Int) < m.f.length := by omega
  obtain ⟨m0, m1⟩ := cells2 HM6.out
  obtain ⟨gb, go', gca, gcc, rfl, hg⟩ := HMI.out.fns.fr R6.out 0 hpos
  have hg0 := hg.four.1
  have hgd : m.f.getD 0 fxNil = m.f[0] := by rw [List.getD_eq_getElem?_getD, List.getElem?_eq_getElem hpos]; rfl
  rw [hgd] at HR0
  rw [Nat.zero_mul, Nat.add_zero] at hg0
  by_cases hp0 : (0 : Int) < m.f[0].p
  · have HR : Hid (RES = (0, -1, 2)) := Lib.hid (by rw [HR0.out, if_pos hp0])
    generalize m.f[0].p = p0 at *
    clear hg hgd
    go_wp2_with fail
    go_ret3
    exact ⟨by rw [HR.out]; rfl, R6.out⟩
  have HR1 : Hid (RES = fnsFind m m.f 0) := Lib.hid (by rw [HR0.out, if_neg hp0])
  generalize m.f[0].p = p0 at *
  clear hg hgd HR0
  go_wp2_with fail
  clear m0 m1 hg0
  go_loopw [6] (fun x wr => ∃ k : Nat, k ≤ m.f.length ∧ x = .int .i64 k ∧ Hid (∀ j (_ : j < k) (h : j < m.f.length), (fnFind m m.f[j]).2 = 0) ∧ Hid (Fr no w6 wr)) (fun x _ => (m.f.length - intOf x).toNat)
  case atStart => exact ⟨0, by omega, rfl, Lib.hid (fun j h _ => by omega), Lib.hid (Fr.refl _ _)⟩
  case round =>
    obtain ⟨k, hk, rfl, hpre, hfr⟩ := hrel
    have HM7 := Lib.hid (hfr.out.heap HM6.out (by simp))
    have R7 := Lib.hid (R6.out.trans hfr.out)
    obtain ⟨m0, m1⟩ := cells2 HM7.out
    by_cases hks : k < m.f.length
    · have hks' : (k : Int) < m.f.length := by omega
      obtain ⟨b, of, ca, cc, e0, hi⟩ := HMI.out.fns.fr R7.out k hks
      cases e0
      have HPP := Lib.hid (fun w1 (r : Fr no w w1) (r2 : Fr no wr w1) => reffn12_ok w1 m m.f[k] da (some ⟨gb, go', none⟩) ca dc fc cc (HMI.out.fns.fr r) (hi.code.fr r2) (HFS.out _ (List.getElem_mem hks)) (HFP.out _ (List.getElem_mem hks)))
      have HBAD : Hid ((fnFind m m.f[k]).2 ≠ 0 → RES = ((k : Int), (fnFind m m.f[k]).1, (fnFind m m.f[k]).2)) := Lib.hid (fun h => by rw [HR1.out, fnsFind_some m.f 0 k hks hpre.out h]; simp)
      have HPRE : Hid ((fnFind m m.f[k]).2 = 0 → ∀ j (_ : j < k + 1) (h : j < m.f.length), (fnFind m m.f[j]).2 = 0) := Lib.hid (fun h0 j hj h => by
        by_cases he : j = k
        · subst he; exact h0
        · exact hpre.out j (by omega) h)
      have AF := Lib.hid (hi.cell.fr ((Fr.refl no wr).drew))
      have AM : Hid (At wr.drew B0 0 [.slice da m.d.length dc, .slice (some ⟨gb, go', none⟩) m.f.length fc]) := Lib.hid (At.of_heap (((Fr.refl no wr).drew).heap HM7.out (by simp)))
      have d3 : (wr.drew).cell? ⟨B0, 1, none⟩ = some (.slice (some ⟨gb, go', none⟩) m.f.length fc) := ((Fr.refl no wr).drew).cell m1 (by simp)
      have HP8 := Lib.hid (HPP.out _ (R7.out.trans ((Fr.refl no wr).drew)) ((Fr.refl no wr).drew))
      have R8 := Lib.hid (hfr.out.trans ((Fr.refl no wr).drew))
      clear hi HPP
      generalize fnFind m m.f[k] = qk at *
      generalize m.f[k] = fx at *
      obtain ⟨fp, fr', far, fcode⟩ := fx
      obtain ⟨q1, q2⟩ := qk
      unfold Fx.cells at AF
      dsimp only at AF HP8 HBAD HPRE
      go_upto_region 9 with fail
      refine Lex.region [6] [12] (by kernel_rfl) (by kernel_rfl) ?_
      refine Lex.opens (fun w' => At w' B0 0 [.slice da m.d.length dc, .slice (some ⟨gb, go', none⟩) m.f.length fc] ∧ At w' gb (go' + k * 4) [.int .i64 fp, .int .i64 fr', .int .i64 far, .slice ca fcode.length cc] ∧ w'.cell? ⟨B0, 1, none⟩ = some (.slice (some ⟨gb, go', none⟩) m.f.length fc)) (⟨AM.out, AF.out, d3⟩) ?_
      repeat (first
        | (refine Lex.skips (by rfl) ?_; (try simp only [Act.put, List.setIfInBounds_toArray, List.set_cons_zero, List.set_cons_succ]))
        | (refine Lex.into (by rfl) (by rfl) _ _ rfl _ _ rfl _ _ (fun w' h => h.1) Tryz.underlying38 rfl (by rw [Tryz.infoMod2]; rfl) ?_; (try simp only [Act.put, List.setIfInBounds_toArray, List.set_cons_zero, List.set_cons_succ]))
        | (refine Lex.into (by rfl) (by rfl) _ _ rfl _ _ rfl _ _ (fun w' h => h.2.1) Tryz.underlying50 rfl (by rw [Tryz.infoFunc]; rfl) ?_; (try simp only [Act.put, List.setIfInBounds_toArray, List.set_cons_zero, List.set_cons_succ]))
        | (refine Lex.quiet (v := ?_) (by rfl) (by rfl) ?_ ?_; rotate_left; (focus (intro w' hS'; go_simp; try rfl)); (try simp only [Act.put, List.setIfInBounds_toArray, List.set_cons_zero, List.set_cons_succ])))
      refine Lex.loud (by rfl) (by rfl) ?_
      intro K' hK'
      go_simp
      refine HP8.out.mono ?_
      rintro e w9 ⟨rfl, r9⟩
      have R9 := Lib.hid (R8.out.trans r9)
      have AM9 := Lib.hid (AM.out.fr r9)
      have AF9 := Lib.hid (AF.out.fr r9)
      have d9 := r9.cell d3 (by simp)
      clear r9 m0 m1
      refine hK' _ _ (⟨AM9.out, AF9.out, d9⟩) ?_
      clear hK'
      try simp only [Act.put, List.setIfInBounds_toArray, List.set_cons_zero, List.set_cons_succ]
      repeat (first
        | (refine Lex.skips (by rfl) ?_; (try simp only [Act.put, List.setIfInBounds_toArray, List.set_cons_zero, List.set_cons_succ]))
        | (refine Lex.quiet (v := ?_) (by rfl) (by rfl) ?_ ?_; rotate_left; (focus (intro w' hS'; go_simp; try rfl)); (try simp only [Act.put, List.setIfInBounds_toArray, List.set_cons_zero, List.set_cons_succ])))
      refine Lex.done ?_
      refine Lex.ends ?_
      clear d3 d9 AM AF AM9 AF9 HM7
      by_cases hq : q2 = 0
      · have e2 : (q2 != 0) = false := by simpa using hq
        have HP := Lib.hid (HPRE.out hq)
        clear hq
        go_wp2_with fail
        go_roundw
        case rel => exact ⟨k + 1, by omega, by go_num, HP, R9⟩
        case measure => first | (simp [intOf]; done) | (simp [intOf]; omega)
      · have e2 : (q2 != 0) = true := by simpa using hq
        have HB := Lib.hid (HBAD.out hq)
        clear hq
        go_wp2_with fail
        go_ret3
        exact ⟨by rw [HB.out]; rfl, R6.out.trans R9.out⟩
    · obtain rfl : k = m.f.length := by omega
      have HNO : Hid (RES = (-1, -1, 0)) := Lib.hid (by rw [HR1.out]; exact fnsFind_none m.f 0 (fun j h => hpre.out j h h))
      clear hks hpre
      go_wp2_with fail
      go_ret3
      exact ⟨by rw [HNO.out]; rfl, R7.out⟩

end Go.Proofs.YtofahdjnejodjaaGreat

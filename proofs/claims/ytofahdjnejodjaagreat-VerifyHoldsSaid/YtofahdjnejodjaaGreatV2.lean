/- verify.function (law12). -/
import Derived.Test.YtofahdjnejodjaaGreatV1
import Derived.Test.YtofahdjnejodjaaGreatS10
set_option linter.unusedSimpArgs false
set_option linter.unusedVariables false
set_option linter.unusedSectionVars false
set_option linter.unnecessarySimpa false
namespace Go.Proofs.YtofahdjnejodjaaGreat
open Go.RowKit Go.Flow Go.Sure

attribute [local go_sem] Program.isFuncB Program.isSliceB

variable {w w' w'' w0 : World}

open Classical in
/-- the masks, as they are told -/
noncomputable def sureL (n p : Nat) (nx : Nat → List Nat) (wr : Nat → Int) : List Nat := if h : ∃ ms, Tells n p nx wr ms then h.choose else []
theorem sureL_eq {n p : Nat} {nx : Nat → List Nat} {wr : Nat → Int} {ms : List Nat} (T : Tells n p nx wr ms) : sureL n p nx wr = ms := by
  have h : ∃ ms, Tells n p nx wr ms := ⟨ms, T⟩
  unfold sureL
  rw [dif_pos h]
  exact Tells.one h.choose_spec T
noncomputable def unsetOf (is : List Ix) (p : Nat) : Int × Int := unsetL is (sureL is.length p (nx (fis is)) (wrN is)) 0
def insFind (m : Mx) : List Ix → Nat → Option (Int × Int)
  | [], _ => none
  | i :: l, k => if insCk m i ≠ 0 then some ((k : Int), insCk m i) else insFind m l (k + 1)
theorem insFind_none {m : Mx} : ∀ (l : List Ix) (k : Nat), (∀ j (h : j < l.length), insCk m l[j] = 0) → insFind m l k = none
  | [], _, _ => rfl
  | i :: l, k, h => by
    have h0 := h 0 (by simp)
    rw [List.getElem_cons_zero] at h0
    unfold insFind
    rw [if_neg (by simp [h0])]
    exact insFind_none l (k + 1) (fun j hj => by have := h (j + 1) (by simpa using hj); simpa using this)
theorem insFind_some {m : Mx} : ∀ (l : List Ix) (k t : Nat) (ht : t < l.length), (∀ j (_ : j < t) (h : j < l.length), insCk m l[j] = 0) → insCk m l[t] ≠ 0 → insFind m l k = some (((k + t : Nat) : Int), insCk m l[t])
  | i :: l, k, 0, _, _, hb => by
    rw [List.getElem_cons_zero] at hb ⊢
    unfold insFind
    rw [if_pos hb]
    rfl
  | i :: l, k, t + 1, ht, h, hb => by
    have h0 := h 0 (by omega) (by simp)
    rw [List.getElem_cons_zero] at h0
    rw [List.getElem_cons_succ] at hb ⊢
    unfold insFind
    rw [if_neg (by simp [h0]), insFind_some l (k + 1) t (by simpa using ht) (fun j hj hl => by have := h (j + 1) (by omega) (by simpa using hl); simpa using this) hb]
    congr 3
    omega
/-- where it is found that a function is not accepted, and why -/
noncomputable def fnFind (m : Mx) (f : Fx) : Int × Int :=
  if flowCk f.c ≠ 0 then (-1, flowCk f.c) else match insFind m f.c 0 with
  | some r => r
  | none => if 0 ≤ (unsetOf f.c f.p.toNat).1 then ((unsetOf f.c f.p.toNat).1, 14) else (-1, 0)

theorem call_N {i : Ix} (h : ckOf i = 0) (ho : i.o = 28) : 0 ≤ i.N ∧ i.N ≤ 63 := by
  unfold ckOf checkOf at h
  split at h
  · omega
  split at h
  · omega
  split at h
  · omega
  split at h
  · omega
  split at h
  · omega
  rename_i hn
  have hm : (99 : UInt8) ∈ sh i.o := by rw [ho]; decide
  have h2 : numOk 99 i.N 4096 = true := by
    cases hx : numOk 99 i.N 4096
    · exact absurd (List.any_eq_true.2 ⟨99, hm, by simpa using hx⟩) hn
    · rfl
  simpa [numOk] using h2

structure FnSmall (f : Fx) : Prop where
  len : f.c.length ≤ 70
  args : ∀ i ∈ f.c, i.l.length ≤ 1000
  rng : ∀ i ∈ f.c, rng i.N

set_option maxRecDepth 100000 in
set_option maxHeartbeats 4000000 in
theorem vfn_ok (w : World) (m : Mx) (f : Fx) (da fa ca : Option Addr) (dc fc cc : Nat) (hf : FnsIn w fa m.f) (hc : CodeIn w ca f.c) (hs : FnSmall f) (hp : 0 ≤ f.p ∧ f.p ≤ 8) :
    Calls Tryz.prog 50 #[.agg #[.slice da m.d.length dc, .slice fa m.f.length fc], .agg #[.int .i64 f.p, .int .i64 f.r, .int .i64 f.a, .slice ca f.c.length cc]] w
      fun e w' => e = .returned (.tuple #[.int .i64 (fnFind m f).1, .int .i64 (fnFind m f).2]) ∧ Fr no w w' := by
  have HC := Lib.hid hc
  have HFN := Lib.hid hf
  have HFC := Lib.hid (fun w2 (r : Fr no w w2) => fcheck_ok w2 ca cc f.c (hc.fr r) (by have := hs.len; omega) hs.args hs.rng)
  have HUN := Lib.hid (fun w2 (r : Fr no w w2) => sunset_ok w2 ca cc f.c f.p (hc.fr r) hs.len hs.args hs.rng)
  have HAR := Lib.hid hs.args
  have hlen := hs.len
  have HFI : Hid (fnFind m f = if flowCk f.c ≠ 0 then (-1, flowCk f.c) else match insFind m f.c 0 with
    | some r => r
    | none => if 0 ≤ (unsetOf f.c f.p.toNat).1 then ((unsetOf f.c f.p.toNat).1, 14) else (-1, 0)) := Lib.hid rfl
  have HCK : Hid (flowCk f.c = 0 → masksCk f.p f.c = 0) := Lib.hid (fun h => by unfold masksCk; rw [if_neg (by omega)]; exact h)
  have HCALL : Hid (flowCk f.c = 0 → ∀ i ∈ f.c, i.o = 28 → 0 ≤ i.N) := Lib.hid (fun h i hi ho => (call_N ((joinCk_zero _ (flowCk_join h)).1 i hi) ho).1)
  obtain ⟨fp, fr', far, is⟩ := f
  dsimp only at *
  generalize fnFind m ⟨fp, fr', far, is⟩ = RES at *
  generalize flowCk is = ck at *
  have HM := Lib.hid (heap_new w (.cells #[.slice da m.d.length dc, .slice fa m.f.length fc] 38))
  have r1 := (Fr.refl no w).alloc (.cells #[.slice da m.d.length dc, .slice fa m.f.length fc] 38)
  have r2 := (Fr.refl no (w.alloc (.cells #[.slice da m.d.length dc, .slice fa m.f.length fc] 38))).alloc (.cells #[.int .i64 fp, .int .i64 fr', .int .i64 far, .slice ca is.length cc] 50)
  have HM2 := Lib.hid (r2.heap HM.out (by simp))
  have HF2 : Hid (((w.alloc (.cells #[.slice da m.d.length dc, .slice fa m.f.length fc] 38)).alloc (.cells #[.int .i64 fp, .int .i64 fr', .int .i64 far, .slice ca is.length cc] 50)).heap[w.heap.size + 1]? = some (.cells #[.int .i64 fp, .int .i64 fr', .int .i64 far, .slice ca is.length cc] 50 (0, 0))) := Lib.hid (by
    have := heap_new (w.alloc (.cells #[.slice da m.d.length dc, .slice fa m.f.length fc] 38)) (.cells #[.int .i64 fp, .int .i64 fr', .int .i64 far, .slice ca is.length cc] 50)
    simp only [World.size_alloc] at this
    exact this)
  have R2 := Lib.hid (r1.trans r2)
  have HFC2 := Lib.hid (HFC.out _ R2.out)
  clear hc hf hs r1 r2 HM HFC
  go_enter Tryz.func50, Tryz.ntmps50
  go_wp2_with fail
  refine HFC2.out.mono ?_
  rintro e w3 ⟨rfl, r3⟩
  have HM3 := Lib.hid (r3.heap HM2.out (by simp))
  have HF3 := Lib.hid (r3.heap HF2.out (by simp))
  have R3 := Lib.hid (R2.out.trans r3)
  clear r3 HM2 HF2 R2 HFC2
  by_cases hj : ck = 0
  case neg =>
    have e1 : (ck != 0) = true := by simpa using hj
    have HR : Hid (RES = (-1, ck)) := Lib.hid (by rw [HFI.out, if_pos hj])
    clear hj
    go_wp2_with fail
    go_ret2
    exact ⟨by rw [HR.out]; rfl, R3.out⟩
  have HCALL2 := Lib.hid (HCALL.out hj)
  have HCK2 := Lib.hid (HCK.out hj)
  have HFI2 : Hid (RES = match insFind m is 0 with
    | some r => r
    | none => if 0 ≤ (unsetOf is fp.toNat).1 then ((unsetOf is fp.toNat).1, 14) else (-1, 0)) := Lib.hid (by rw [HFI.out, if_neg (by simpa using hj)])
  subst hj
  clear HFI HCALL HCK
  obtain ⟨c0, c1, c2, c3⟩ := cells4 HF3.out
  go_wp2_with fail
  go_loopw [22] (fun x wr => ∃ k : Nat, k ≤ is.length ∧ x = .int .i64 k ∧ Hid (∀ j (_ : j < k) (h : j < is.length), insCk m is[j] = 0) ∧ Hid (Fr no w3 wr)) (fun x _ => (is.length - intOf x).toNat)
  case atStart => exact ⟨0, by omega, rfl, Lib.hid (fun j h _ => by omega), Lib.hid (Fr.refl _ _)⟩
  case round =>
    clear c0 c1 c2 c3
    obtain ⟨k, hk, rfl, hpre, hfr⟩ := hrel
    have R4 := Lib.hid (R3.out.trans hfr.out)
    have HM4 := Lib.hid (hfr.out.heap HM3.out (by simp))
    have HF4 := Lib.hid (hfr.out.heap HF3.out (by simp))
    by_cases hks : k < is.length
    · have hks' : (k : Int) < is.length := by omega
      obtain ⟨b, of, u, rfl, hi⟩ := HC.out.fr R4.out k hks
      obtain ⟨ua, uc, rfl⟩ := hi.args.shape
      obtain ⟨d0, d1, d2, d3, d4, d5⟩ := hi.six
      have hcall := HCALL2.out _ (List.getElem_mem hks)
      have HPP := Lib.hid (fun w1 (h : Fr no w w1) => wrong_ok w1 m is[k] da fa ua dc fc uc (HFN.out.fr h) hcall)
      have HBAD : Hid (insCk m is[k] ≠ 0 → RES = ((k : Int), insCk m is[k])) := Lib.hid (fun h => by rw [HFI2.out, insFind_some is 0 k hks hpre.out h]; simp)
      have HPRE : Hid (insCk m is[k] = 0 → ∀ j (_ : j < k + 1) (h : j < is.length), insCk m is[j] = 0) := Lib.hid (fun h0 j hj h => by
        by_cases he : j = k
        · subst he; exact h0
        · exact hpre.out j (by omega) h)
      clear hcall hi
      generalize insCk m is[k] = qk at *
      generalize is[k] = ix at *
      obtain ⟨io, iA, iB, iC, iN, il⟩ := ix
      unfold askV at HPP
      dsimp only at d0 d1 d2 d3 d4 d5 HPP
      have r5 := (Fr.refl no wr).alloc (.cells #[.int .i64 io, .int .i64 iA, .int .i64 iB, .int .i64 iC, .int .i64 iN, .slice ua il.length uc] 47)
      have R5 := Lib.hid (R4.out.trans r5)
      have HM5 := Lib.hid (r5.heap HM4.out (by simp))
      have HP5 := Lib.hid (HPP.out _ R5.out)
      have R5' := Lib.hid (hfr.out.trans r5)
      clear r5 HPP
      obtain ⟨m0, m1⟩ := cells2 HM5.out
      go_wp2_with fail
      refine HP5.out.mono ?_
      rintro e w6 ⟨rfl, r6⟩
      have R6 := Lib.hid (R5'.out.trans r6)
      clear r6 d0 d1 d2 d3 d4 d5 m0 m1
      by_cases hq : qk = 0
      · have e2 : (qk != 0) = false := by simpa using hq
        have HP := Lib.hid (HPRE.out hq)
        clear hq
        go_wp2_with fail
        go_roundw
        case rel => exact ⟨k + 1, by omega, by go_num, HP, R6⟩
        case measure => first | (simp [intOf]; done) | (simp [intOf]; omega)
      · have e2 : (qk != 0) = true := by simpa using hq
        have HB := Lib.hid (HBAD.out hq)
        clear hq
        go_wp2_with fail
        go_ret2
        exact ⟨by rw [HB.out]; rfl, R3.out.trans R6.out⟩
    · obtain rfl : k = is.length := by omega
      have HNO : Hid (insFind m is 0 = none) := Lib.hid (insFind_none is 0 (fun j h => hpre.out j h h))
      have HU := Lib.hid (HUN.out _ R4.out)
      rw [HCK2.out] at HU
      obtain ⟨c0, c1, c2, c3⟩ := cells4 HF4.out
      clear hks hpre
      go_wp2_with fail
      refine HU.out.mono ?_
      rintro e w5 ⟨a, b, rfl, -, hgood, r5⟩
      obtain ⟨ms, hT, hab⟩ := hgood rfl
      have R5 := Lib.hid (R4.out.trans r5)
      have HUO : Hid (unsetOf is fp.toNat = (a, b)) := Lib.hid (by unfold unsetOf; rw [sureL_eq hT]; exact hab)
      clear r5 hgood hT hab c0 c1 c2 c3
      by_cases ha : 0 ≤ a
      · have HR : Hid (RES = (a, 14)) := Lib.hid (by rw [HFI2.out, HNO.out]; simp only [HUO.out]; rw [if_pos ha])
        go_wp2_with fail
        go_ret2
        exact ⟨by rw [HR.out]; rfl, R5.out⟩
      · have HR : Hid (RES = (-1, 0)) := Lib.hid (by rw [HFI2.out, HNO.out]; simp only [HUO.out]; rw [if_neg ha])
        go_wp2_with fail
        go_ret2
        exact ⟨by rw [HR.out]; rfl, R5.out⟩

end Go.Proofs.YtofahdjnejodjaaGreat

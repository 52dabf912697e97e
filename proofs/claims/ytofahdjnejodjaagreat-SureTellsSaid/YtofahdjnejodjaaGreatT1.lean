/- SureTells (law11). -/
import Derived.Test.YtofahdjnejodjaaGreatR4
import Derived.Test.YtofahdjnejodjaaGreatS12
set_option linter.unusedSimpArgs false
set_option linter.unusedVariables false
set_option linter.unusedSectionVars false
set_option linter.unnecessarySimpa false
namespace Go.Proofs.YtofahdjnejodjaaGreat
open Go.RowKit Go.Flow Go.Sure

attribute [local go_sem] Program.isFuncB Program.isSliceB

variable {w w' w'' w0 : World}

/-- a row of masks whose first i are written over -/
def MRest (w : World) (g n i : Nat) (ms : List Nat) : Prop := ∃ cs : Array Value, w.heap[g]? = some (.cells cs 30 (0, 0)) ∧ ∀ j (h : j < ms.length), i ≤ j → cs[j]? = some (.int .u64 (ms[j] : Nat))
theorem MRest.start {B n g cap : Nat} {ms : List Nat} (h : w.ownsRow B 30 1 (.slice (some ⟨g, 0, none⟩) n cap) n (u64L ms)) : MRest w g n 0 ms := by
  rcases h.2 with ⟨hv, _⟩ | ⟨g', cap', cur, hv, hb, hg, h1, h2, h3, h4⟩
  · cases hv
  · cases hv
    refine ⟨cur, hg, fun j hj _ => ?_⟩
    have hx : (u64L ms)[j]? = some (.int .u64 (ms[j] : Nat)) := by simp [u64L, hj]
    rw [← h4, List.getElem?_take] at hx
    split at hx
    · simpa using hx
    · cases hx
theorem MRest.cell {g n i : Nat} {ms : List Nat} (h : MRest w g n i ms) (hi : i < ms.length) : w.cell? ⟨g, i, none⟩ = some (.int .u64 (ms[i] : Nat)) := by
  obtain ⟨cs, h1, h2⟩ := h
  exact cell_of_heap h1 (h2 i hi (Nat.le_refl _))
theorem MRest.frozen {g n i : Nat} {ms : List Nat} (h : MRest w g n i ms) : w.frozen? ⟨g, i, none⟩ = false := by
  obtain ⟨cs, h1, h2⟩ := h
  exact frozen_of_heap h1
theorem MRest.drew {g n i k : Nat} {ms : List Nat} (h : MRest w g n i ms) : MRest (w.drewN k) g n i ms := by
  obtain ⟨cs, h1, h2⟩ := h
  exact ⟨cs, ((Fr.refl no w).drewN k).heap h1 (by simp), h2⟩
theorem MRest.set {g n i : Nat} {ms : List Nat} {v : Value} (h : MRest w g n i ms) : MRest (w.setCell ⟨g, i, none⟩ v) g n (i + 1) ms := by
  obtain ⟨cs, h1, h2⟩ := h
  refine ⟨_, heap_setCell h1, fun j hj hi => ?_⟩
  rw [Array.getElem?_setIfInBounds, if_neg (by omega)]
  exact h2 j hj (by omega)

set_option maxRecDepth 100000 in
set_option maxHeartbeats 8000000 in
theorem tells11_ok (w : World) (sa : Option Addr) (c : Nat) (is : List Ix) (p : Int) (hin : CodeIn w sa is) (hlen : is.length ≤ maxLen) (hargs : ∀ i ∈ is, i.l.length ≤ maxLen) (hN : ∀ i ∈ is, rng i.N) :
    Calls Tryz.prog 3 #[.slice sa is.length c, .int .i64 p] w fun e w' => e = .returned (.bool true) ∧ Fr no w w' := by
  have HIN := Lib.hid hin
  have HLO := Lib.hid (long11_ok w sa c is hin hlen hargs)
  have HNN := Lib.hid hN
  unfold maxLen at hlen
  clear hin hargs hN
  go_enter Tryz.func3, Tryz.ntmps3
  go_wp2_with fail
  refine HLO.out.mono ?_
  rintro e w1 ⟨q, rfl, hq, r1⟩
  have R1 := Lib.hid r1
  have HQ := Lib.hid hq
  clear hq r1 HLO
  cases q
  case true =>
    go_wp2_with fail
    refine (awake11_ok _).mono ?_
    rintro e w2 ⟨rfl, r2⟩
    have R2 := Lib.hid (R1.out.trans r2)
    clear r2
    go_wp2_with fail
    go_ret
    exact ⟨rfl, R2.out⟩
  have hl60 := (HQ.out rfl).1
  have HA20 := Lib.hid (HQ.out rfl).2
  have HA1 : Hid (∀ i ∈ is, i.l.length ≤ 1000) := Lib.hid (fun i hi => by have := HA20.out i hi; omega)
  have HCP := Lib.hid (copycode_ok w1 sa c is (HIN.out.fr R1.out) (by omega) (fun i hi => by have := HA1.out i hi; omega))
  clear HQ HA20
  go_wp2_with fail
  refine HCP.out.mono ?_
  rintro e w4 ⟨ia, ic, rfl, hc4, r4⟩
  have R4 := Lib.hid (R1.out.trans r4)
  have HC4 := Lib.hid hc4
  have HMA := Lib.hid (masks_ok w4 ia ic is p hc4 (by omega) HA1.out HNN.out)
  clear r4 hc4 HCP R1
  obtain ⟨ck, hck⟩ : ∃ ck, masksCk p is = ck := ⟨_, rfl⟩
  have HCKE := Lib.hid hck
  rw [hck] at HMA
  clear hck
  go_wp2_with fail
  refine HMA.out.mono ?_
  rintro e w5 ⟨u, rfl, hbad, hgood, r5⟩
  have R5 := Lib.hid (R4.out.trans r5)
  have F5 := Lib.hid r5
  have HGOOD := Lib.hid hgood
  have HBAD := Lib.hid hbad
  have HMB := Lib.hid (refmasks_ok w5 sa c is p (HIN.out.fr R5.out) (by omega) HA1.out)
  rw [HCKE.out] at HMB
  clear hbad hgood r5 HMA
  have hsh : ∃ xa n xc, u = .slice xa n xc := by
    by_cases h0 : ck = 0
    · obtain ⟨ms, _, ho⟩ := HGOOD.out h0
      obtain ⟨xa, xc, rfl⟩ := owns_shape ho
      exact ⟨_, _, _, rfl⟩
    · exact ⟨_, _, _, HBAD.out h0⟩
  obtain ⟨xa, xn, xc, rfl⟩ := hsh
  go_wp2_with fail
  refine HMB.out.mono ?_
  rintro e w6 ⟨v, rfl, hbad2, hgood2, r6⟩
  have R6 := Lib.hid (R5.out.trans r6)
  have F6 := Lib.hid (F5.out.trans r6)
  have e1 : (ck != ck) = false := by simp
  by_cases hj : ck = 0
  case neg =>
    have h1 := HBAD.out hj
    have h2 := hbad2 hj
    cases h1
    subst h2
    clear HGOOD HBAD hbad2 hgood2 HMB r6 hj
    go_wp2_with fail
    go_loopw [10] (fun x wr => x = .int .i64 0 ∧ wr = w6) (fun _ _ => 0)
    case atStart => exact ⟨rfl, rfl⟩
    case round =>
      obtain ⟨rfl, rfl⟩ := hrel
      have HU1 := Lib.hid (sunset_ok wr ia ic is p (HC4.out.fr F6.out) (by omega) HA1.out HNN.out)
      rw [HCKE.out] at HU1
      go_wp2_with fail
      refine HU1.out.mono ?_
      rintro e w10 ⟨a1, b1, rfl, hz1, hg1, r10⟩
      have R10 := Lib.hid (R6.out.trans r10)
      have F10 := Lib.hid (F6.out.trans r10)
      have HU2 := Lib.hid (refunset_ok w10 sa c is p (HIN.out.fr R10.out) (by omega) HA1.out)
      rw [HCKE.out] at HU2
      clear r10 HU1
      go_wp2_with fail
      refine HU2.out.mono ?_
      rintro e w11 ⟨a2, b2, rfl, hz2, hg2, r11⟩
      have R11 := Lib.hid (R10.out.trans r11)
      have F11 := Lib.hid (F10.out.trans r11)
      have hab : a2 = a1 ∧ b2 = b1 := by
        by_cases h0 : ck = 0
        · obtain ⟨m1, t1, e1⟩ := hg1 h0
          obtain ⟨m2, t2, e2⟩ := hg2 h0
          have e3 := Tells.one t1 t2
          rw [e3, e2] at e1
          cases e1
          exact ⟨rfl, rfl⟩
        · exact ⟨(hz2 h0).1.trans (hz1 h0).1.symm, (hz2 h0).2.trans (hz1 h0).2.symm⟩
      obtain ⟨rfl, rfl⟩ := hab
      have HSC := Lib.hid (samecode_ok w11 ia sa ic c is is (HC4.out.fr F11.out) (HIN.out.fr R11.out) (by omega) (fun i hi => by have := HA1.out i hi; omega) (by omega))
      rw [decide_eq_true rfl] at HSC
      have x1 : (a2 == a2) = true := beq_self_eq_true _
      have x2 : (b2 == b2) = true := beq_self_eq_true _
      have x3 : (ck == ck) = true := beq_self_eq_true _
      clear r11 HU2 hz1 hg1 hz2 hg2
      go_wp2_with fail
      refine HSC.out.mono ?_
      rintro e w12 ⟨rfl, r12⟩
      have R12 := Lib.hid (R11.out.trans r12)
      clear r12 HSC
      go_wp2_with fail
      refine (awake11_ok _).mono ?_
      rintro e w13 ⟨rfl, r13⟩
      have R13 := Lib.hid (R12.out.trans r13)
      clear r13
      go_wp2_with fail
      go_ret
      exact ⟨rfl, R13.out⟩
  obtain ⟨ms, hT, ho⟩ := HGOOD.out hj
  obtain ⟨ms2, hT2, ho2⟩ := hgood2 hj
  have hms := Tells.one hT2 hT
  subst hms
  obtain ⟨xa', xc', e2⟩ := owns_shape ho
  cases e2
  obtain ⟨va, vc, rfl⟩ := owns_shape ho2
  have HLM : Hid (ms2.length = is.length) := Lib.hid hT.len
  have HV := Lib.hid (owns_reads ho2)
  have hpos : 0 < is.length := by
    have h0 := HCKE.out
    rw [hj] at h0
    have := (flowCk_flows (masksCk_ok h0).1).pos
    rwa [fis_len] at this
  have hx : ∃ g, xa = some ⟨g, 0, none⟩ ∧ w4.heap.size ≤ g ∧ g < w5.heap.size := by
    rcases ho.2 with ⟨hv, h0⟩ | ⟨g, cap, cur, hv, hb, hg, h1, h2, hz, ht⟩
    · omega
    · cases hv
      exact ⟨g, rfl, hb, (Array.getElem?_eq_some_iff.1 hg).1⟩
  obtain ⟨g, rfl, hg1, hg2⟩ := hx
  have HG6 := Lib.hid (MRest.start (owns_fr ho r6 (by simp)))
  have HG1 := Lib.hid hg1
  have HVB : Hid (∀ b, (Value.slice va is.length vc).ownBlock = some b → b ≠ g) := Lib.hid (fun b hb => by have := (ho2.lt b hb).1; omega)
  clear HGOOD HBAD hbad2 hgood2 HMB r6 ho ho2 hT hT2 hg1 hg2
  go_wp2_with fail
  go_loopw [10] (fun x wr => ∃ i : Nat, x = .int .i64 i ∧ i ≤ is.length ∧ Hid (MRest wr g is.length i ms2) ∧ Hid (Fr (only [g]) w6 wr)) (fun x _ => (is.length - intOf x).toNat)
  case atStart => exact ⟨0, rfl, by omega, HG6, Lib.hid (Fr.refl _ _)⟩
  case round =>
    clear HG6
    obtain ⟨i, rfl, hi, HG, HR⟩ := hrel
    by_cases his : i < is.length
    · have his' : (i : Int) < is.length := by omega
      have him : i < ms2.length := by rw [HLM.out]; exact his
      have ca := HG.out.cell him
      have fa := HG.out.frozen
      obtain ⟨vb, vo, rfl, cv⟩ := (HV.out.fr HR.out (fun b hb => by have := HVB.out b hb; simpa using this)).at1 (k := i) (u := .int .u64 (ms2[i] : Nat)) (by first | (simp [u64L, him]; done) | (simp [u64L, him]; rfl))
      have en : (((ms2[i] : Nat) : Int) != ((ms2[i] : Nat) : Int)) = false := by simp
      generalize ms2[i] = m at *
      clear him
      go_upto_region 11 with fail
      go_quiet (fail)
      go_wp2_with fail
      go_roundw
      case rel => exact ⟨i + 1, by go_num, by omega, Lib.hid HG.out.drew.set, Lib.hid ((HR.out.drewN _).setCell _ _ (.inl (by simp)))⟩
      case measure => first | (simp [intOf]; done) | (simp [intOf]; omega)
    · obtain rfl : i = is.length := by omega
      have F7 : Hid (Fr no w4 wr) := Lib.hid (F6.out.trans' HR.out (fun b hb _ => by have := HG1.out; simp at hb; omega))
      have R7 := Lib.hid (R4.out.trans F7.out)
      clear HR HG
      have HU1 := Lib.hid (sunset_ok wr ia ic is p (HC4.out.fr F7.out) (by omega) HA1.out HNN.out)
      rw [HCKE.out] at HU1
      go_wp2_with fail
      refine HU1.out.mono ?_
      rintro e w10 ⟨a1, b1, rfl, hz1, hg1, r10⟩
      have R10 := Lib.hid (R7.out.trans r10)
      have F10 := Lib.hid (F7.out.trans r10)
      have HU2 := Lib.hid (refunset_ok w10 sa c is p (HIN.out.fr R10.out) (by omega) HA1.out)
      rw [HCKE.out] at HU2
      clear r10 HU1
      go_wp2_with fail
      refine HU2.out.mono ?_
      rintro e w11 ⟨a2, b2, rfl, hz2, hg2, r11⟩
      have R11 := Lib.hid (R10.out.trans r11)
      have F11 := Lib.hid (F10.out.trans r11)
      have hab : a2 = a1 ∧ b2 = b1 := by
        by_cases h0 : ck = 0
        · obtain ⟨m1, t1, e1⟩ := hg1 h0
          obtain ⟨m2, t2, e2⟩ := hg2 h0
          have e3 := Tells.one t1 t2
          rw [e3, e2] at e1
          cases e1
          exact ⟨rfl, rfl⟩
        · exact ⟨(hz2 h0).1.trans (hz1 h0).1.symm, (hz2 h0).2.trans (hz1 h0).2.symm⟩
      obtain ⟨rfl, rfl⟩ := hab
      have HSC := Lib.hid (samecode_ok w11 ia sa ic c is is (HC4.out.fr F11.out) (HIN.out.fr R11.out) (by omega) (fun i hi => by have := HA1.out i hi; omega) (by omega))
      rw [decide_eq_true rfl] at HSC
      have x1 : (a2 == a2) = true := beq_self_eq_true _
      have x2 : (b2 == b2) = true := beq_self_eq_true _
      have x3 : (ck == ck) = true := beq_self_eq_true _
      clear r11 HU2 hz1 hg1 hz2 hg2
      go_wp2_with fail
      refine HSC.out.mono ?_
      rintro e w12 ⟨rfl, r12⟩
      have R12 := Lib.hid (R11.out.trans r12)
      clear r12 HSC
      go_wp2_with fail
      refine (awake11_ok _).mono ?_
      rintro e w13 ⟨rfl, r13⟩
      have R13 := Lib.hid (R12.out.trans r13)
      clear r13
      go_wp2_with fail
      go_ret
      exact ⟨rfl, R13.out⟩

theorem tells11_rd (w : World) (v : Value) {n : Nat} {d : Dt} (h : Rd Tryz.prog w n 22 [v] d) (p : Int) :
    Calls Tryz.prog 3 #[v, .int .i64 p] w fun e w' => e = .returned (.bool true) ∧ Fr no w w' := by
  obtain ⟨sa, c, is, rfl, h1, h2, h3, h4⟩ := code_of h
  exact tells11_ok w sa c is p h1 h2 h3 h4

end Go.Proofs.YtofahdjnejodjaaGreat

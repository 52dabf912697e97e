/- SureLeast. -/
import Derived.Test.YtofahdjnejodjaaS12
set_option linter.unusedSimpArgs false
set_option linter.unusedVariables false
set_option linter.unusedSectionVars false
set_option linter.unnecessarySimpa false
namespace Go.Proofs.Ytofahdjnejodjaa
open Go.RowKit Go.Flow Go.Sure

attribute [local go_sem] Program.isFuncB Program.isSliceB

variable {w w' w'' w0 : World}

def lenV : Value → Nat | .slice _ n _ => n | _ => 0
theorem gr_lt {n : Nat} {nx : Nat → List Nat} {wr : Nat → Int} {r : Nat} (h : ∀ k x, x ∈ nx k → x < n) (hn : 0 < n) {k : Nat} (hk : Flow.Reach (gr nx wr r) k) : k < n :=
  reach_least (S := fun k => k < n) hn (fun j x _ hx => by
    unfold gr at hx
    split at hx
    · simp at hx
    · exact h j x hx) hk
theorem gr_reach {nx : Nat → List Nat} {wr : Nat → Int} {r k : Nat} (hk : Flow.Reach (gr nx wr r) k) : Flow.Reach nx k :=
  reach_least (S := fun k => Flow.Reach nx k) Flow.Reach.zero (fun j x hj hx => by
    unfold gr at hx
    split at hx
    · simp at hx
    · exact Flow.Reach.step hj hx) hk
/-- what is not reached: all are sure there -/
theorem unreached_full {n p : Nat} {nx : Nat → List Nat} {wr : Nat → Int} {ms : List Nat} {i m : Nat} (T : Tells n p nx wr ms) (hm : ms[i]? = some m) (hi : i < n) (h : ¬ Flow.Reach nx i) : m = 18446744073709551615 := by
  refine eq_of_bits (T.lt m (List.mem_of_getElem? hm)) (Nat.le_refl _) fun r hr => ?_
  rw [full_bit hr]
  refine ⟨fun hb => absurd (gr_reach ((T.iff r i hr hi).1 (by unfold un; rw [List.getD_eq_getElem?_getD, hm]; exact hb)).2) h, fun hb => by cases hb⟩
theorem less_more {n p : Nat} {nx : Nat → List Nat} {wr : Nat → Int} {ms mt : List Nat} {i m m2 : Nat} (T : Tells n p nx wr ms) (T2 : Tells n (p + 1) nx wr mt) (hm : ms[i]? = some m) (hm2 : mt[i]? = some m2) (hi : i < n) : Go.bits .andNot .u64 (m : Int) (m2 : Int) = 0 :=
  andnot_zero m m2 fun r hr hb => by
    have h1 := (T2.iff r i hr hi).1 (by unfold un; rw [List.getD_eq_getElem?_getD, hm2]; exact hb)
    have h2 := (T.iff r i hr hi).2 ⟨by omega, h1.2⟩
    unfold un at h2
    rw [List.getD_eq_getElem?_getD, hm] at h2
    exact h2
theorem unsure_way {n p : Nat} {nx : Nat → List Nat} {wr : Nat → Int} {ms : List Nat} {i m r : Nat} {b : Bool} (T : Tells n p nx wr ms) (hm : ms[i]? = some m) (hi : i < n) (hr : r < 64) (hb : b = true ↔ Flow.Reach (gr nx wr r) i) : (m / 2 ^ r % 2 == 0) = (b && decide (p ≤ r)) := by
  have h1 := T.iff r i hr hi
  unfold un at h1
  rw [List.getD_eq_getElem?_getD, hm, Option.getD_some, ← hb, Nat.testBit_eq_decide_div_mod_eq] at h1
  have h2 : m / 2 ^ r % 2 < 2 := Nat.mod_lt _ (by omega)
  generalize m / 2 ^ r % 2 = v at *
  rcases Nat.lt_or_ge v 1 with h3 | h3
  · obtain rfl : v = 0 := by omega
    have := h1.1 (by simp)
    simp [this.1, this.2]
  · obtain rfl : v = 1 := by omega
    cases b
    · simp
    · have : ¬ p ≤ r := fun h => by have := h1.2 ⟨h, rfl⟩; simp at this
      simp [this]

set_option maxRecDepth 100000 in
set_option maxHeartbeats 8000000 in
theorem least11_ok (w : World) (sa : Option Addr) (c : Nat) (is : List Ix) (p r0 : Int) (hin : CodeIn w sa is) (hlen : is.length ≤ maxLen) (hargs : ∀ i ∈ is, i.l.length ≤ maxLen) (hN : ∀ i ∈ is, rng i.N) :
    Calls Try.prog 5 #[.slice sa is.length c, .int .i64 p, .int .i64 r0] w fun e w' => e = .returned (.bool true) ∧ Fr no w w' := by
  have KN := Lib.hid (awake11_ok w)
  have HIN := Lib.hid hin
  have HLO := Lib.hid (fun w2 (r : Fr no w w2) => long11_ok w2 sa c is (hin.fr r) hlen hargs)
  have HNN := Lib.hid hN
  unfold maxLen at hlen
  clear hin hargs hN
  go_enter Try.func5, Try.ntmps5
  go_wp2_with fail
  refine KN.out.mono ?_
  rintro e w2 ⟨rfl, r2⟩
  have R2 := Lib.hid r2
  have HL2 := Lib.hid (HLO.out w2 r2)
  clear r2 KN HLO
  go_wp2_with fail
  refine (pick_det w2 p 8 (by omega) (by omega)).mono ?_
  rintro e w3 ⟨rfl, rfl⟩
  have hk9 := pkN_lt p 8 (by omega)
  generalize pkN p 8 = k at *
  go_wp2_with fail
  refine (pick_det w2 r0 64 (by omega) (by omega)).mono ?_
  rintro e w3 ⟨rfl, rfl⟩
  have hr64 := pkN_lt r0 64 (by omega)
  generalize pkN r0 64 = r at *
  go_wp2_with fail
  refine HL2.out.mono ?_
  rintro e w4 ⟨q, rfl, hq, r4⟩
  have R4 := Lib.hid (R2.out.trans r4)
  have HQ := Lib.hid hq
  clear hq r4 HL2 R2
  cases q
  case true =>
    go_wp2_with fail
    go_ret
    exact ⟨rfl, R4.out⟩
  have hl60 := (HQ.out rfl).1
  have HA20 := Lib.hid (HQ.out rfl).2
  have HA1 : Hid (∀ i ∈ is, i.l.length ≤ 1000) := Lib.hid (fun i hi => by have := HA20.out i hi; omega)
  have HMA := Lib.hid (masks_ok w4 sa c is k (HIN.out.fr R4.out) (by omega) HA1.out HNN.out)
  have ek : masksCk (k : Int) is = flowCk is := by unfold masksCk; rw [if_neg (by omega)]
  rw [ek, Int.toNat_natCast] at HMA
  have ek2 : masksCk ((k : Int) + 1) is = flowCk is := by unfold masksCk; rw [if_neg (by omega)]
  have HMA2 := Lib.hid (fun w5 (r : Fr no w w5) => by
    have h := masks_ok w5 sa c is ((k : Int) + 1) (HIN.out.fr r) (by omega) HA1.out HNN.out
    rw [ek2, show ((k : Int) + 1).toNat = k + 1 by omega] at h
    exact h)
  have HNX := Lib.hid (fun w5 (r : Fr no w w5) => fnext_ok w5 sa c is (HIN.out.fr r) (by omega) HA1.out HNN.out)
  have HRE := Lib.hid (fun w5 (r : Fr no w w5) => freached_ok w5 sa c is (HIN.out.fr r) (by omega) HA1.out HNN.out)
  have HFL : Hid (flowCk is = 0 → Flows (fis is)) := Lib.hid flowCk_flows
  have HCK : Hid (flowCk is = 0 → ∀ i ∈ is, ckOf i = 0) := Lib.hid (fun h => (joinCk_zero is (flowCk_join h)).1)
  clear HQ ek ek2 HA20 HA1
  generalize flowCk is = ck at *
  go_wp2_with fail
  refine HMA.out.mono ?_
  rintro e w5 ⟨u, rfl, hbad, hgood, r5⟩
  have R5 := Lib.hid (R4.out.trans r5)
  have HGOOD := Lib.hid hgood
  clear hbad hgood r5 HMA R4
  by_cases hj : ck = 0
  case neg =>
    have e1 : (ck != 0) = true := by simpa using hj
    clear hj
    go_wp2_with fail
    go_ret
    exact ⟨rfl, R5.out⟩
  obtain ⟨ms, ht, ho⟩ := HGOOD.out hj
  have HF := Lib.hid (HFL.out hj)
  have HC := Lib.hid (HCK.out hj)
  subst hj
  obtain ⟨ma, mc, rfl⟩ := owns_shape ho
  have HT := Lib.hid ht
  have HO := Lib.hid (owns_reads ho)
  have hpos : 0 < is.length := by have := HF.out.pos; rw [fis_len] at this; exact this
  have epos : ((is.length : Int) == 0) = false := beq_eq_false_iff_ne.2 (by omega)
  have HNL : Hid (∀ k x, x ∈ nx (fis is) k → x < is.length) := Lib.hid (fun k x hx => by have := nx_lt HF.out hx; rwa [fis_len] at this)
  have HM5 := Lib.hid (HMA2.out w5 R5.out)
  clear HGOOD HFL HCK ht ho HMA2
  go_wp2_with fail
  refine HM5.out.mono ?_
  rintro e w6 ⟨u2, rfl, -, hg2, r6⟩
  obtain ⟨mt, ht2, ho2⟩ := hg2 rfl
  obtain ⟨mb, md, rfl⟩ := owns_shape ho2
  have HT2 := Lib.hid ht2
  have HO2 := Lib.hid (owns_reads ho2)
  have HO6 := Lib.hid (HO.out.fr r6 (by simp))
  have R6 := Lib.hid (R5.out.trans r6)
  have HNX6 := Lib.hid (HNX.out w6 R6.out)
  clear hg2 ht2 ho2 r6 HO R5 HM5 HNX
  go_wp2_with fail
  refine HNX6.out.mono ?_
  rintro e w7 ⟨u3, rfl, -, hg3, r7⟩
  have HN0 := (hg3 rfl).nx
  have hsh : ∃ a c', u3 = .slice a is.length c' := by
    obtain ⟨vs, h1, h2⟩ := HN0
    obtain ⟨a, c', rfl⟩ := h1.shape
    exact ⟨a, c', by rw [nxs_len]⟩
  obtain ⟨na, nc, rfl⟩ := hsh
  have HN7 := Lib.hid HN0
  have HO7 := Lib.hid (HO6.out.fr r7 (by simp))
  have HP7 := Lib.hid (HO2.out.fr r7 (by simp))
  have R7 := Lib.hid (R6.out.trans r7)
  have HRE7 := Lib.hid (HRE.out w7 R7.out)
  clear hg3 r7 HN0 HO6 HO2 R6 HRE HNX6
  go_wp2_with fail
  refine HRE7.out.mono ?_
  rintro e w8 ⟨u4, rfl, -, hg4, r8⟩
  obtain ⟨rb, hrl, hrr, hrw⟩ := hg4 rfl
  rw [fis_len] at hrl hrr
  obtain ⟨ra, rc, rfl⟩ := hrr.shape
  have HRB := Lib.hid hrr
  have HRW := Lib.hid hrw
  have HRL := Lib.hid hrl
  have HN8 := Lib.hid (HN7.out.fr r8)
  have HO8 := Lib.hid (HO7.out.fr r8 (by simp))
  have HP8 := Lib.hid (HP7.out.fr r8 (by simp))
  have R8 := Lib.hid (R7.out.trans r8)
  clear hg4 hrl hrr hrw r8 HN7 HO7 HP7 R7 HRE7
  go_upto_region 14 with ((refine wpList_make_any rfl (.tmp 99) (.tmp 99) 41 rfl w8.heap.size 4 (.bool false) 1 Try.underlying41 Try.infoBool rfl .i64 .i64 is.length is.length is.length rfl rfl rfl rfl (by omega) (by unfold maxLen; omega) (Nat.le_refl _) ?_); intro w9 ho9 hg9)
  have HG9 := Lib.hid (owns_full ho9)
  have q9 := (Fr.refl no w8).grown hg9 (by intro k hk; cases hk)
  have R9 := Lib.hid q9
  have hgl : w8.heap.size < w9.heap.size := (ho9.lt _ rfl).2
  obtain ⟨og, hog⟩ : ∃ g, g = w8.heap.size := ⟨_, rfl⟩
  have HOG := Lib.hid hog
  rw [← hog] at HG9 hgl ⊢
  clear ho9 hg9 q9 hog
  go_wp2_with fail
  have q10 := (Fr.refl no w9).alloc (.cells #[.int .i64 0] 3)
  have HST : Hid ((w9.alloc (.cells #[.int .i64 0] 3)).ownsRow w9.heap.size 3 1 (.slice (some ⟨w9.heap.size, 0, none⟩) [0].length 1) [0].length (ints (nats [0]))) := Lib.hid (owns_row w9 [.int .i64 0] 3 (by simp))
  have HG10 := Lib.hid (q10.heap HG9.out (by simp))
  have R10 := Lib.hid (R9.out.trans q10)
  generalize w9.alloc (.cells #[.int .i64 0] 3) = w10 at *
  generalize w9.heap.size = B at *
  clear q10 HG9 R9
  go_loopw [17] (fun x wr => ∃ (st : List Nat) (xa : Option Addr) (xc : Nat) (ob : List Bool), x = .slice xa st.length xc ∧ Hid (ob.length = is.length) ∧ Hid (wr.heap[og]? = some (.cells (bools ob).toArray 4 (0, 0))) ∧ Hid (wr.ownsRow B 3 1 (.slice xa st.length xc) st.length (ints (nats st))) ∧
    Hid (RInv (gr (nx (fis is)) (wrN is) r) ob st) ∧ Hid (st.length + 2 * ob.countP (fun b => !b) ≤ 2 * is.length + 1) ∧ Hid (Fr no w8 wr)) (fun x wr => 3 * cntF wr og + lenV x)
  case atStart => exact ⟨[0], _, _, List.replicate is.length false, rfl, Lib.hid (by simp), Lib.hid (by rw [bools_rep]; exact HG10.out), HST, Lib.hid (RInv.start _ _), Lib.hid (by simp [List.countP_replicate]; omega), R10⟩
  case round =>
    clear HG10 HST R10
    obtain ⟨st, xa, xc, ob, rfl, hol, hG, hst, hri, hcn, hfr⟩ := hrel
    rcases List.eq_nil_or_concat st with rfl | ⟨st, i, rfl⟩
    · have HW := Lib.hid (fun j => hri.out.done j)
      have HOL := Lib.hid hol.out
      have HG11 := Lib.hid hG.out
      have R11 := Lib.hid hfr.out
      clear hol hG hst hri hcn hfr
      obtain ⟨w11, hw11⟩ : ∃ x, x = wr := ⟨_, rfl⟩
      subst hw11
      go_wp2_with fail
      go_loopw [19] (fun x wr => ∃ i : Nat, x = .int .i64 i ∧ Hid (i ≤ is.length) ∧ Hid (Fr no w11 wr)) (fun x _ => is.length - nOf x)
      case atStart => exact ⟨0, rfl, Lib.hid (by omega), Lib.hid (Fr.refl _ _)⟩
      case round =>
        obtain ⟨i, rfl, hi0, hfr⟩ := hrel
        by_cases hin : i = is.length
        · subst hin
          go_wp2_with fail
          go_ret
          exact ⟨rfl, R8.out.trans (R11.out.trans hfr.out)⟩
        · have hi : i < is.length := by have := hi0.out; omega
          have hi' : (i : Int) < is.length := by omega
          have HI1 : Hid (i + 1 ≤ is.length) := Lib.hid hi
          have F8 := Lib.hid (R11.out.trans hfr.out)
          have him : i < ms.length := by rw [HT.out.len]; exact hi
          have hit : i < mt.length := by rw [HT2.out.len]; exact hi
          have hio : i < ob.length := by rw [HOL.out]; exact hi
          have hir : i < rb.length := by rw [HRL.out]; exact hi
          have HMI : Hid (ms[i]? = some ms[i]) := Lib.hid (List.getElem?_eq_getElem him)
          have HMT : Hid (mt[i]? = some mt[i]) := Lib.hid (List.getElem?_eq_getElem hit)
          have HOI : Hid (ob[i]? = some ob[i]) := Lib.hid (List.getElem?_eq_getElem hio)
          have HRI : Hid (rb[i]? = some rb[i]) := Lib.hid (List.getElem?_eq_getElem hir)
          obtain ⟨gb, gq, rfl, cm⟩ := (HO8.out.fr F8.out (by simp)).at1 (k := i) (u := .int .u64 (ms[i] : Nat)) (by first | (simp [u64L, him]; done) | (simp [u64L, him]; rfl))
          obtain ⟨hb', hq', rfl, cm2⟩ := (HP8.out.fr F8.out (by simp)).at1 (k := i) (u := .int .u64 (mt[i] : Nat)) (by first | (simp [u64L, hit]; done) | (simp [u64L, hit]; rfl))
          obtain ⟨rb', rq', rfl, cr⟩ := (HRB.out.fr F8.out (by simp)).at1 (k := i) (u := .bool rb[i]) (by first | (simp [bools, hir]; done) | (simp [bools, hir]; rfl))
          have co : wr.cell? ⟨og, i, none⟩ = some (.bool ob[i]) := cell_of_heap (hfr.out.heap HG11.out (by simp)) (by first | (simp [bools, hio]; done) | (simp [bools, hio]; rfl))
          have eand := less_more HT.out HT2.out HMI.out HMT.out hi
          have eun := unsure_way (b := ob[i]) HT.out HMI.out hi hr64 (by rw [← HW.out i, HOI.out]; simp)
          have efu := fun h => unreached_full HT.out HMI.out hi h
          have erb : rb[i] = false → ¬ Flow.Reach (nx (fis is)) i := fun h hr => by
            have := (HRW.out i).2 hr
            rw [HRI.out, h] at this
            cases this
          have EFU : Hid (rb[i] = false → ms[i] = 18446744073709551615) := Lib.hid (fun h => efu (erb h))
          generalize ms[i] = m at *
          generalize mt[i] = m2 at *
          generalize ob[i] = bo at *
          generalize rb[i] = br at *
          clear him hit hio hir HMI HMT HOI HRI efu erb hin
          have eun2 : (((m : Int) / 2 ^ r).tmod 2 == 0) = (bo && decide (k ≤ r)) := by
            rw [← eun, show ((m : Int) / 2 ^ r) = ((m / 2 ^ r : Nat) : Int) by simp, Int.tmod_eq_emod_of_nonneg (Int.natCast_nonneg _)]
            generalize m / 2 ^ r = v
            by_cases h : v % 2 = 0
            · rw [beq_iff_eq.2 (show (v : Int) % 2 = 0 by omega), beq_iff_eq.2 h]
            · rw [beq_eq_false_iff_ne.2 (show (v : Int) % 2 ≠ 0 by omega), beq_eq_false_iff_ne.2 h]
          clear eun
          by_cases hkr : k ≤ r
          · have hkr' : (k : Int) ≤ r := by omega
            rw [decide_eq_true hkr, Bool.and_true] at eun2
            have em : br = false → ((m : Int) != 18446744073709551615) = false := fun h => by rw [EFU.out h]; rfl
            cases br
            · have em2 := em rfl
              clear em EFU
              cases bo
              all_goals
                go_upto_region 26 with fail
                go_quiet (fail)
                go_wp2_with fail
                go_roundw
                case rel => exact ⟨i + 1, by simp, HI1, Lib.hid (hfr.out.drewN _)⟩
                case measure => simp [nOf]; omega
            · clear em EFU
              cases bo
              all_goals
                go_upto_region 26 with fail
                go_quiet (fail)
                go_wp2_with fail
                go_roundw
                case rel => exact ⟨i + 1, by simp, HI1, Lib.hid (hfr.out.drewN _)⟩
                case measure => simp [nOf]; omega
          · have hkr' : ¬ (k : Int) ≤ r := by omega
            rw [decide_eq_false hkr, Bool.and_false] at eun2
            have em : br = false → ((m : Int) != 18446744073709551615) = false := fun h => by rw [EFU.out h]; rfl
            cases br
            · have em2 := em rfl
              clear em EFU
              cases bo
              all_goals
                go_upto_region 26 with fail
                go_quiet (fail)
                go_wp2_with fail
                go_roundw
                case rel => exact ⟨i + 1, by simp, HI1, Lib.hid (hfr.out.drewN _)⟩
                case measure => simp [nOf]; omega
            · clear em EFU
              cases bo
              all_goals
                go_upto_region 26 with fail
                go_quiet (fail)
                go_wp2_with fail
                go_roundw
                case rel => exact ⟨i + 1, by simp, HI1, Lib.hid (hfr.out.drewN _)⟩
                case measure => simp [nOf]; omega
    · rw [List.concat_eq_append] at *
      have hir := hri.out.pr i (by simp)
      have hi : i < is.length := gr_lt HNL.out hpos hir
      have hi' : (i : Int) < is.length := by omega
      have hio : i < ob.length := by rw [hol.out]; exact hi
      have HOBI : Hid (ob[i]? = some ob[i]) := Lib.hid (List.getElem?_eq_getElem hio)
      have cg : wr.cell? ⟨og, i, none⟩ = some (.bool ob[i]) := cell_of_heap hG.out (by simp [bools, hio])
      have hstl : st.length ≤ 4000 := by have := hcn.out; simp at this; omega
      have h4 := hst.out
      rw [List.length_append, List.length_singleton] at h4
      rcases h4.2 with ⟨_, h0⟩ | ⟨g, cap, cur, hv, hb, hg, h1, h2, hz, ht⟩
      · simp at h0
      · cases hv
        have ct : wr.cell? ⟨g, st.length, none⟩ = some (.int .i64 i) := by
          have := h4.cells rfl st.length (.int .i64 i) (by simp [ints, nats])
          rw [Addr.add_lit, Nat.zero_add] at this
          exact this
        have HS1 : Hid (wr.ownsRow B 3 1 (.slice (some ⟨g, 0, none⟩) st.length xc) st.length (ints (nats st))) := Lib.hid (own_shorter (n := st.length + 1) (a := nats st) (b := [(i : Int)]) (by simpa [nats, List.length_append] using h4) (nats_len st))
        have e1 : (st.length : Int) + 1 - 1 = st.length := by omega
        have hcap : st.length + 1 ≤ xc := h1
        have hcm : xc ≤ 9223372036854775807 := by unfold maxLen at h2; omega
        have HLN : Hid ((st ++ [i]).length = st.length + 1) := Lib.hid (by simp)
        rw [HLN.out] at hcn ⊢
        have HCF := Lib.hid (cntF_at hG.out)
        have HRI : Hid (RInv (gr (nx (fis is)) (wrN is) r) ob (i :: st)) := Lib.hid (hri.out.same (fun x => by simp [or_comm]))
        clear h4 hb hg h1 h2 hz ht hst hri hir
        cases hoi : ob[i]
        · rw [hoi] at cg HOBI
          have fg : wr.frozen? ⟨og, i, none⟩ = false := frozen_of_heap hG.out
          have HRN := Lib.hid (HRI.out.fresh hio)
          have HCS : Hid ((ob.set i true).countP (fun b => !b) + 1 = ob.countP (fun b => !b)) := Lib.hid (countP_set HOBI.out)
          have HOL : Hid ((ob.set i true).length = is.length) := Lib.hid (by rw [List.length_set]; exact hol.out)
          clear hoi HRI
          go_upto_region 20 with fail
          have r7 : Fr (only [og]) wr (wr.setCell ⟨og, i, none⟩ (.bool true)) := (Fr.refl _ wr).setCell _ _ (.inl (by simp))
          have HG7 : Hid ((wr.setCell ⟨og, i, none⟩ (.bool true)).heap[og]? = some (.cells (bools (ob.set i true)).toArray 4 (0, 0))) := Lib.hid (by rw [heap_setCell hG.out]; simp [bools, List.map_set])
          have R7' := Lib.hid (hfr.out.trans' r7 (fun k hk _ => by have := HOG.out; simp at hk; omega))
          have HS7 := Lib.hid (owns_fr HS1.out r7 (fun k hk => by have := (HS1.out.lt k hk).1; simp; omega))
          clear r7 hG hfr cg fg HS1 ct
          generalize wr.setCell ⟨og, i, none⟩ (.bool true) = w11 at *
          obtain ⟨b1, o1, u1, rfl, h1⟩ := HIN.out.fr (R8.out.trans R7'.out) i hi
          obtain ⟨i1, hi1⟩ : ∃ j, j = is[i] := ⟨_, rfl⟩
          rw [← hi1] at h1
          have HWR : Hid (wrN is i = wrI i1) := Lib.hid (by rw [wrN_at is i hi, hi1])
          obtain ⟨ua, uc, rfl⟩ := h1.args.shape
          obtain ⟨c0, c1, c2, c3, c4, c5⟩ := h1.six
          have HWT := Lib.hid (fun w => writes_ok w i1.o i1.A i1.B i1.C i1.N (.slice ua i1.l.length uc))
          rw [show (fieldsOf [i1.A, i1.B, i1.C] (sh i1.o)).2.2 = wrI i1 from rfl] at HWT
          unfold insV at HWT
          clear hi1 h1
          generalize wrI i1 = wi at *
          go_wp2_with fail
          refine (HWT.out _).mono ?_
          rintro e w12 ⟨rfl, r12⟩
          have HG12 := Lib.hid (r12.heap HG7.out (by simp))
          have R12 := Lib.hid (R7'.out.trans r12)
          have HS12 := Lib.hid (owns_fr HS7.out r12 (fun k hk => by simp))
          clear r12 HG7 R7' HS7 c0 c1 c2 c3 c4 c5 HWT
          by_cases hwi : wi = (r : Int)
          · have ew : (wi != (r : Int)) = false := by simp [hwi]
            have HRN2 : Hid (RInv (gr (nx (fis is)) (wrN is) r) (ob.set i true) st) := Lib.hid (by
              have := HRN.out
              rwa [show gr (nx (fis is)) (wrN is) r i = [] from by unfold gr; rw [if_pos (HWR.out.trans hwi)], List.append_nil] at this)
            clear hwi HRN
            go_wp2_with fail
            go_roundw
            case rel => exact ⟨st, some ⟨g, 0, none⟩, xc, ob.set i true, rfl, HOL, HG12, HS12, HRN2, Lib.hid (by have := hcn.out; have := HCS.out; omega), R12⟩
            case measure =>
              rw [cntF_at HG12.out, HCF.out]
              have := HCS.out
              simp [lenV] at *
              omega
          · have ew : (wi != (r : Int)) = true := by simpa using hwi
            have HRN2 : Hid (RInv (gr (nx (fis is)) (wrN is) r) (ob.set i true) (st ++ nx (fis is) i)) := Lib.hid (by
              have := HRN.out
              rwa [show gr (nx (fis is)) (wrN is) r i = nx (fis is) i from by unfold gr; rw [if_neg (by rw [HWR.out]; exact hwi)]] at this)
            clear hwi HRN
            have hnf := nx_few (fis is) i
            obtain ⟨rv, h1, h2⟩ := HN8.out
            rw [nxs_len] at h1
            have hl := h1.len
            have hk : i < rv.length := by omega
            obtain ⟨nb, no', en, e2⟩ := h1.at1 (k := i) (u := rv[i]) (List.getElem?_eq_getElem hk)
            have hrv := h2 i _ _ (List.getElem?_eq_getElem hk) (nxs_at is i hi)
            generalize rv[i] = v at *
            obtain ⟨va, vc, rfl⟩ := hrv.shape
            have cn := R12.out.cell e2 (by simp)
            have HRV := Lib.hid (hrv.fr R12.out (by simp))
            subst en
            clear h1 h2 hl hk hrv e2
            generalize nx (fis is) i = nk at *
            have hBs : B ≤ w12.heap.size := by have := (HS12.out.lt g rfl); omega
            go_wp2_with ((refine wpList_append_any rfl (.tmp 130) (.tmp 134) 22 rfl B 3 (.int .i64 0) 1 8 Try.underlying22 Try.infoInt rfl (by decide) (.slice (some ⟨g, 0, none⟩) st.length xc) st.length (ints (nats st)) rfl HS12.out nk.length (ints (nats nk)) HRV.out (ints_one' _) (by unfold maxLen; omega) (by omega) hBs ?_); intro ga gc w13 ho13 hg13)
            have q13 := (Fr.refl (fun k => (Value.slice (some ⟨g, 0, none⟩) st.length xc).ownBlock = some k) w12).grown hg13 (fun k hk => .inl hk)
            have HG13 := Lib.hid (q13.heap HG12.out (fun hk => by have := (HS12.out.lt og hk).1; omega))
            have R13 := Lib.hid (R12.out.trans' q13 (fun k hk _ => by have := (HS12.out.lt k hk).1; have := HOG.out; omega))
            have HS13 : Hid (w13.ownsRow B 3 1 (.slice ga (st ++ nk).length gc) (st ++ nk).length (ints (nats (st ++ nk)))) := Lib.hid (by rw [List.length_append]; simpa [ints, nats] using ho13)
            go_roundw
            case rel => exact ⟨st ++ nk, ga, gc, ob.set i true, by simp, HOL, HG13, HS13, HRN2, Lib.hid (by have := hcn.out; have := HCS.out; rw [List.length_append]; omega), R13⟩
            case measure =>
              rw [cntF_at HG13.out, HCF.out]
              have := HCS.out
              simp [lenV] at *
              omega
        · rw [hoi] at cg HOBI
          have HRO := Lib.hid (HRI.out.old HOBI.out)
          clear hoi HRI
          go_wp2_with fail
          go_roundw
          case rel => exact ⟨st, some ⟨g, 0, none⟩, xc, ob, rfl, hol, hG, HS1, HRO, Lib.hid (by have := hcn.out; omega), hfr⟩
          case measure => simp [lenV]

end Go.Proofs.Ytofahdjnejodjaa

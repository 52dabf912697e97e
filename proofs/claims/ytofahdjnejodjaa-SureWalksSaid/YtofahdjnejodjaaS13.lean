/- SureWalks. -/
import Derived.Test.YtofahdjnejodjaaS12
set_option linter.unusedSimpArgs false
set_option linter.unusedVariables false
set_option linter.unusedSectionVars false
set_option linter.unnecessarySimpa false
namespace Go.Proofs.Ytofahdjnejodjaa
open Go.RowKit Go.Flow Go.Sure

attribute [local go_sem] Program.isFuncB Program.isSliceB

variable {w w' w'' w0 : World}

set_option maxRecDepth 100000 in
set_option maxHeartbeats 8000000 in
theorem walks11_ok (w : World) (sa : Option Addr) (c : Nat) (is : List Ix) (p : Int) (wv : Value) (wl : List Int) (hin : CodeIn w sa is) (hlen : is.length ≤ maxLen) (hargs : ∀ i ∈ is, i.l.length ≤ maxLen) (hN : ∀ i ∈ is, rng i.N)
    (hway : Reads w wv 1 wl.length (ints wl)) :
    Calls Try.prog 4 #[.slice sa is.length c, .int .i64 p, wv] w fun e w' => e = .returned (.bool true) ∧ Fr no w w' := by
  obtain ⟨wa, wc, rfl⟩ := hway.shape
  have KN := Lib.hid (known11_ok w)
  have HIN := Lib.hid hin
  have HWY := Lib.hid hway
  have HLO := Lib.hid (fun w2 (r : Fr no w w2) => long11_ok w2 sa c is (hin.fr r) hlen hargs)
  have HNN := Lib.hid hN
  unfold maxLen at hlen
  clear hin hargs hN hway
  go_enter Try.func4, Try.ntmps4
  go_wp2_with fail
  refine KN.out.mono ?_
  rintro e w2 ⟨rfl, r2⟩
  have R2 := Lib.hid r2
  have HL2 := Lib.hid (HLO.out w2 r2)
  clear r2 KN HLO
  go_wp2_with fail
  refine (pick_det w2 p 9 (by omega) (by omega)).mono ?_
  rintro e w3 ⟨rfl, rfl⟩
  have hk9 := pkN_lt p 9 (by omega)
  generalize pkN p 9 = k at *
  go_wp2_with fail
  refine HL2.out.mono ?_
  rintro e w4 ⟨q, rfl, hq, r4⟩
  have R4 := Lib.hid (R2.out.trans r4)
  have HQ := Lib.hid hq
  clear hq r4 HL2 R2
  cases q
  case true =>
    go_wp2_with fail
    go_ret
    exact ⟨rfl, R4.out⟩
  by_cases hw2 : (200 : Int) < wl.length
  · go_wp2_with fail
    go_ret
    exact ⟨rfl, R4.out⟩
  have hl60 := (HQ.out rfl).1
  have HA20 := Lib.hid (HQ.out rfl).2
  have hwl : wl.length ≤ 200 := by omega
  have HMA := Lib.hid (masks_ok w4 sa c is k (HIN.out.fr R4.out) (by omega) (fun i hi => by have := HA20.out i hi; omega) HNN.out)
  have ek : masksCk (k : Int) is = flowCk is := by unfold masksCk; rw [if_neg (by omega)]
  rw [ek, Int.toNat_natCast] at HMA
  have HNX := Lib.hid (fun w5 (r : Fr no w w5) => fnext_ok w5 sa c is (HIN.out.fr r) (by omega) (fun i hi => by have := HA20.out i hi; omega) HNN.out)
  have HFL : Hid (flowCk is = 0 → Flows (fis is)) := Lib.hid flowCk_flows
  have HCK : Hid (flowCk is = 0 → ∀ i ∈ is, ckOf i = 0) := Lib.hid (fun h => (joinCk_zero is (flowCk_join h)).1)
  clear HQ ek
  generalize flowCk is = ck at *
  go_wp2_with fail
  refine HMA.out.mono ?_
  rintro e w5 ⟨u, rfl, hbad, hgood, r5⟩
  have HBAD := Lib.hid hbad
  have HGOOD := Lib.hid hgood
  have R5 := Lib.hid (R4.out.trans r5)
  have HNX5 := Lib.hid (HNX.out w5 R5.out)
  clear hbad hgood r5 HMA HNX R4
  go_wp2_with fail
  refine HNX5.out.mono ?_
  rintro e w6 ⟨u2, rfl, hbad2, hgood2, r6⟩
  have R6 := Lib.hid (R5.out.trans r6)
  have R56 := Lib.hid r6
  by_cases hj : ck = 0
  case neg =>
    obtain rfl := HBAD.out hj
    have e1 : (ck != 0) = true := by simpa using hj
    have e2 : (ck == ck) = true := by simp
    clear hj hbad2 hgood2
    go_wp2_with fail
    go_ret
    exact ⟨rfl, R6.out⟩
  obtain ⟨ms, ht, ho⟩ := HGOOD.out hj
  have HN0 := (hgood2 hj).nx
  have HF := Lib.hid (HFL.out hj)
  have HC := Lib.hid (HCK.out hj)
  subst hj
  obtain ⟨ma, mc, rfl⟩ := owns_shape ho
  have HT := Lib.hid ht
  have HO := Lib.hid ((owns_reads ho).fr r6 (by simp))
  have hsh : ∃ a c', u2 = .slice a is.length c' := by
    obtain ⟨vs, h1, h2⟩ := HN0
    obtain ⟨a, c', rfl⟩ := h1.shape
    exact ⟨a, c', by rw [nxs_len]⟩
  obtain ⟨na, nc, rfl⟩ := hsh
  have HN1 := Lib.hid HN0
  have hpos : 0 < is.length := by have := HF.out.pos; rw [fis_len] at this; exact this
  have epos : ((is.length : Int) == 0) = false := beq_eq_false_iff_ne.2 (by omega)
  have HNL : Hid (∀ k x, x ∈ nx (fis is) k → x < is.length) := Lib.hid (fun k x hx => by have := nx_lt HF.out hx; rwa [fis_len] at this)
  clear HBAD HGOOD HFL HCK ht ho hbad2 hgood2 r6 HN0 HNX5 R5 R56
  obtain ⟨z, hz⟩ : ∃ z : Nat, z = 2 ^ k := ⟨_, rfl⟩
  obtain ⟨fm, hfm⟩ : ∃ fm : Nat, fm = z - 1 := ⟨_, rfl⟩
  have hz1 : 1 ≤ z := by rw [hz]; exact Nat.one_le_two_pow
  have hz2 : z ≤ 18446744073709551615 := by rw [hz]; exact pow_le k (by omega)
  have ez : IntKind.u64.wrap ((2 : Int) ^ k) = (z : Int) := by rw [hz]; exact pow_wrap k (by omega)
  have efm : IntKind.u64.wrap ((z : Int) - 1) = (fm : Int) := by rw [IntKind.wrap_u64]; omega
  have HW0 : Hid (Walked is.length k (nx (fis is)) (wrN is) 0 fm) := Lib.hid (by rw [hfm, hz]; exact Walked.start hpos (by rw [← hz]; omega))
  have hk64 : (k : Int) < 64 := by omega
  clear hz hfm hz1
  go_wp2_with fail
  go_loopw [12, 13, 14] (fun x y v wr => ∃ (mk j i : Nat), x = .int .u64 mk ∧ y = .int .i64 j ∧ v = .int .i64 i ∧ Hid (i ≤ wl.length) ∧ Hid (Walked is.length k (nx (fis is)) (wrN is) j mk) ∧ Hid (Fr no w6 wr)) (fun _ _ v _ => wl.length - nOf v)
  case atStart => exact ⟨fm, 0, 0, rfl, rfl, rfl, Lib.hid (by omega), HW0, Lib.hid (Fr.refl _ _)⟩
  case round =>
    clear HW0 ez efm hz2
    obtain ⟨mk, j, i, rfl, rfl, rfl, hi0, HW, HR⟩ := hrel
    have hile : (i : Int) ≤ wl.length := by have := hi0.out; omega
    have hj : j < is.length := HW.out.lt
    have hj' : (j : Int) < is.length := by omega
    have hjm : j < ms.length := by rw [HT.out.len]; exact hj
    have HMJ : Hid (ms[j]? = some ms[j]) := Lib.hid (List.getElem?_eq_getElem hjm)
    obtain ⟨gb, go', rfl, cm⟩ := (HO.out.fr HR.out (by simp)).at1 (k := j) (u := .int .u64 (ms[j] : Nat)) (by first | (simp [u64L, hjm]; done) | (simp [u64L, hjm]; rfl))
    have eand := HW.out.sure HT.out HMJ.out
    generalize ms[j] = m at *
    obtain ⟨b1, o1, u1, rfl, h1⟩ := HIN.out.fr (R6.out.trans HR.out) j hj
    obtain ⟨i1, hi1⟩ : ∃ i, i = is[j] := ⟨_, rfl⟩
    rw [← hi1] at h1
    have hck : ckOf i1 = 0 := by rw [hi1]; exact HC.out _ (List.getElem_mem hj)
    have HWR : Hid (wrN is j = wrI i1) := Lib.hid (by rw [wrN_at is j hj, hi1])
    have hwr := wr_rng hck
    obtain ⟨ua, uc, rfl⟩ := h1.args.shape
    have HI := Lib.hid h1
    obtain ⟨c0, c1, c2, c3, c4, c5⟩ := h1.six
    have HWN : Hid (∀ x, x ∈ nx (fis is) j → Walked is.length k (nx (fis is)) (wrN is) x (bhd mk (wrI i1))) := Lib.hid (fun x hx => by
      have := HW.out.goes hx (HNL.out j x hx) (by rw [HWR.out]; omega)
      rwa [HWR.out] at this)
    have hmk := HW.out.le
    have HWT := Lib.hid (fun w => writes_ok w i1.o i1.A i1.B i1.C i1.N (.slice ua i1.l.length uc))
    rw [show (fieldsOf [i1.A, i1.B, i1.C] (sh i1.o)).2.2 = wrI i1 from rfl] at HWT
    unfold insV at HWT
    clear hi1 hck h1 hjm HMJ HW HWR
    generalize wrI i1 = r at *
    go_wp2_with fail
    refine (HWT.out _).mono ?_
    rintro e w7 ⟨rfl, r7⟩
    have R7 := Lib.hid (HR.out.trans r7)
    have HI7 := Lib.hid (HI.out.fr r7)
    clear r7 c0 c1 c2 c3 c4 c5 cm eand HI HR
    obtain ⟨c0, c1, c2, c3, c4, c5⟩ := HI7.out.six
    rcases hwr with rfl | ⟨hr0, hr64⟩
    · have HWK : Hid (∀ x, x ∈ nx (fis is) j → Walked is.length k (nx (fis is)) (wrN is) x mk) := Lib.hid (by have := HWN.out; simpa [bhd] using this)
      by_cases hiw : i = wl.length
      · have eiw : ((i : Int) == (wl.length : Int)) = true := by simp [hiw]
        clear hile
        go_wp2_with fail
        go_ret
        exact ⟨rfl, R6.out.trans R7.out⟩
      · have hil : i < wl.length := by have := hi0.out; omega
        have eiw : ((i : Int) == (wl.length : Int)) = false := by simp; omega
        have hil' : (i : Int) < wl.length := by omega
        have HI1 : Hid (i + 1 ≤ wl.length) := Lib.hid hil
        have hn1 := HN1.out
        obtain ⟨rv, h1, h2⟩ := hn1
        rw [nxs_len] at h1
        have hl := h1.len
        have hk : j < rv.length := by omega
        obtain ⟨nb, no', en, e2⟩ := h1.at1 (k := j) (u := rv[j]) (List.getElem?_eq_getElem hk)
        have hrv := h2 j _ _ (List.getElem?_eq_getElem hk) (nxs_at is j hj)
        generalize rv[j] = v at *
        obtain ⟨va, vc, rfl⟩ := hrv.shape
        have HRV1 := Lib.hid hrv
        have cn := R7.out.cell e2 (by simp)
        subst en
        have hnf := nx_few (fis is) j
        clear h1 h2 hl hk hrv e2
        have HNM : Hid (∀ t (h : t < (nx (fis is) j).length), Walked is.length k (nx (fis is)) (wrN is) (nx (fis is) j)[t] mk) := Lib.hid (fun t h => HWK.out _ (List.getElem_mem h))
        generalize nx (fis is) j = nk at *
        by_cases hn0 : nk.length = 0
        · have en0 : ((nk.length : Int) == 0) = true := beq_iff_eq.2 (by omega)
          go_wp2_with fail
          go_ret
          exact ⟨rfl, R6.out.trans R7.out⟩
        · have en0 : ((nk.length : Int) == 0) = false := beq_eq_false_iff_ne.2 (by omega)
          obtain ⟨wb, wo', rfl, cw⟩ := (HWY.out.fr (R6.out.trans R7.out) (by simp)).at1 (k := i) (u := .int .i64 wl[i]) (by first | (simp [ints, hil]; done) | (simp [ints, hil]; rfl))
          generalize wl[i] = wy at *
          have HPK := Lib.hid (fun w => pick_det w wy nk.length (by omega) (by omega))
          have htn := pkN_lt wy nk.length (by omega)
          generalize pkN wy nk.length = t at *
          have htn' : (t : Int) < nk.length := by omega
          obtain ⟨vb, vo, rfl, ct⟩ := (HRV1.out.fr R7.out (by simp)).at1 (k := t) (u := .int .i64 (nk[t] : Nat)) (by first | (simp [ints, nats, htn]; done) | (simp [ints, nats, htn]; rfl))
          have HWF := Lib.hid (HNM.out t htn)
          generalize nk[t] = x at *
          go_upto_region 22 with fail
          refine Lex.region [13] [16, 1] (by kernel_rfl) (by kernel_rfl) ?_
          refine Lex.opens (fun w' => w'.cell? ⟨nb, no' + j, none⟩ = some (.slice (some ⟨vb, vo, none⟩) nk.length vc) ∧ w'.cell? ⟨wb, wo' + i, none⟩ = some (.int .i64 wy) ∧ w'.cell? ⟨vb, vo + t, none⟩ = some (.int .i64 x)) (⟨cn, cw, ct⟩) ?_
          repeat (first
            | (refine Lex.skips (by rfl) ?_; (try simp only [Act.put, List.setIfInBounds_toArray, List.set_cons_zero, List.set_cons_succ]))
            | (refine Lex.quiet (v := ?_) (by rfl) (by rfl) ?_ ?_; rotate_left; (focus (intro w' hS'; go_simp; try rfl)); (try simp only [Act.put, List.setIfInBounds_toArray, List.set_cons_zero, List.set_cons_succ])))
          refine Lex.loud (by rfl) (by rfl) ?_
          intro K' hK'
          go_simp
          refine (HPK.out _).mono ?_
          rintro e w8 ⟨rfl, rfl⟩
          refine hK' _ _ (⟨cn, cw, ct⟩) ?_
          clear hK'
          try simp only [Act.put, List.setIfInBounds_toArray, List.set_cons_zero, List.set_cons_succ]
          repeat (first
            | (refine Lex.skips (by rfl) ?_; (try simp only [Act.put, List.setIfInBounds_toArray, List.set_cons_zero, List.set_cons_succ]))
            | (refine Lex.quiet (v := ?_) (by rfl) (by rfl) ?_ ?_; rotate_left; (focus (intro w' hS'; go_simp; try rfl)); (try simp only [Act.put, List.setIfInBounds_toArray, List.set_cons_zero, List.set_cons_succ])))
          refine Lex.done ?_
          refine Lex.opens (fun _ => True) (trivial) ?_
          repeat (first
            | (refine Lex.skips (by rfl) ?_; (try simp only [Act.put, List.setIfInBounds_toArray, List.set_cons_zero, List.set_cons_succ]))
            | (refine Lex.quiet (v := ?_) (by rfl) (by rfl) ?_ ?_; rotate_left; (focus (intro w' hS'; go_simp; try rfl)); (try simp only [Act.put, List.setIfInBounds_toArray, List.set_cons_zero, List.set_cons_succ])))
          refine Lex.done ?_
          refine Lex.ends ?_
          go_wp2_with fail
          go_roundw
          case rel => exact ⟨_, x, i + 1, rfl, rfl, by simp, HI1, HWF, Lib.hid R7.out.drew⟩
          case measure => simp [nOf]; omega
    · obtain ⟨rn, rfl⟩ : ∃ rn : Nat, r = rn := ⟨r.toNat, by omega⟩
      have hrn : rn < 64 := by omega
      have eor := or_u64 mk (2 ^ rn) hmk (pow_le rn hrn)
      rw [← pow_wrap rn hrn] at eor
      have HBE : Hid (bhd mk (rn : Int) = mk ||| 2 ^ rn) := Lib.hid (by unfold bhd; rw [if_pos (by omega), Int.toNat_natCast])
      have HWK := HWN
      rw [HBE.out] at HWK
      generalize (mk ||| 2 ^ rn : Nat) = mk2 at *
      clear HBE HWN
      go_wp2_with fail
      refine (HWT.out _).mono ?_
      rintro e w9 ⟨rfl, r9⟩
      have R9 := Lib.hid (R7.out.trans r9)
      clear r9 c0 c1 c2 c3 c4 c5
      by_cases hiw : i = wl.length
      · have eiw : ((i : Int) == (wl.length : Int)) = true := by simp [hiw]
        clear hile
        go_wp2_with fail
        go_ret
        exact ⟨rfl, R6.out.trans R9.out⟩
      · have hil : i < wl.length := by have := hi0.out; omega
        have eiw : ((i : Int) == (wl.length : Int)) = false := by simp; omega
        have hil' : (i : Int) < wl.length := by omega
        have HI1 : Hid (i + 1 ≤ wl.length) := Lib.hid hil
        have hn1 := HN1.out
        obtain ⟨rv, h1, h2⟩ := hn1
        rw [nxs_len] at h1
        have hl := h1.len
        have hk : j < rv.length := by omega
        obtain ⟨nb, no', en, e2⟩ := h1.at1 (k := j) (u := rv[j]) (List.getElem?_eq_getElem hk)
        have hrv := h2 j _ _ (List.getElem?_eq_getElem hk) (nxs_at is j hj)
        generalize rv[j] = v at *
        obtain ⟨va, vc, rfl⟩ := hrv.shape
        have HRV1 := Lib.hid hrv
        have cn := R9.out.cell e2 (by simp)
        subst en
        have hnf := nx_few (fis is) j
        clear h1 h2 hl hk hrv e2
        have HNM : Hid (∀ t (h : t < (nx (fis is) j).length), Walked is.length k (nx (fis is)) (wrN is) (nx (fis is) j)[t] mk2) := Lib.hid (fun t h => HWK.out _ (List.getElem_mem h))
        generalize nx (fis is) j = nk at *
        by_cases hn0 : nk.length = 0
        · have en0 : ((nk.length : Int) == 0) = true := beq_iff_eq.2 (by omega)
          go_wp2_with fail
          go_ret
          exact ⟨rfl, R6.out.trans R9.out⟩
        · have en0 : ((nk.length : Int) == 0) = false := beq_eq_false_iff_ne.2 (by omega)
          obtain ⟨wb, wo', rfl, cw⟩ := (HWY.out.fr (R6.out.trans R9.out) (by simp)).at1 (k := i) (u := .int .i64 wl[i]) (by first | (simp [ints, hil]; done) | (simp [ints, hil]; rfl))
          generalize wl[i] = wy at *
          have HPK := Lib.hid (fun w => pick_det w wy nk.length (by omega) (by omega))
          have htn := pkN_lt wy nk.length (by omega)
          generalize pkN wy nk.length = t at *
          have htn' : (t : Int) < nk.length := by omega
          obtain ⟨vb, vo, rfl, ct⟩ := (HRV1.out.fr R9.out (by simp)).at1 (k := t) (u := .int .i64 (nk[t] : Nat)) (by first | (simp [ints, nats, htn]; done) | (simp [ints, nats, htn]; rfl))
          have HWF := Lib.hid (HNM.out t htn)
          generalize nk[t] = x at *
          go_upto_region 22 with fail
          refine Lex.region [13] [16, 1] (by kernel_rfl) (by kernel_rfl) ?_
          refine Lex.opens (fun w' => w'.cell? ⟨nb, no' + j, none⟩ = some (.slice (some ⟨vb, vo, none⟩) nk.length vc) ∧ w'.cell? ⟨wb, wo' + i, none⟩ = some (.int .i64 wy) ∧ w'.cell? ⟨vb, vo + t, none⟩ = some (.int .i64 x)) (⟨cn, cw, ct⟩) ?_
          repeat (first
            | (refine Lex.skips (by rfl) ?_; (try simp only [Act.put, List.setIfInBounds_toArray, List.set_cons_zero, List.set_cons_succ]))
            | (refine Lex.quiet (v := ?_) (by rfl) (by rfl) ?_ ?_; rotate_left; (focus (intro w' hS'; go_simp; try rfl)); (try simp only [Act.put, List.setIfInBounds_toArray, List.set_cons_zero, List.set_cons_succ])))
          refine Lex.loud (by rfl) (by rfl) ?_
          intro K' hK'
          go_simp
          refine (HPK.out _).mono ?_
          rintro e w8 ⟨rfl, rfl⟩
          refine hK' _ _ (⟨cn, cw, ct⟩) ?_
          clear hK'
          try simp only [Act.put, List.setIfInBounds_toArray, List.set_cons_zero, List.set_cons_succ]
          repeat (first
            | (refine Lex.skips (by rfl) ?_; (try simp only [Act.put, List.setIfInBounds_toArray, List.set_cons_zero, List.set_cons_succ]))
            | (refine Lex.quiet (v := ?_) (by rfl) (by rfl) ?_ ?_; rotate_left; (focus (intro w' hS'; go_simp; try rfl)); (try simp only [Act.put, List.setIfInBounds_toArray, List.set_cons_zero, List.set_cons_succ])))
          refine Lex.done ?_
          refine Lex.opens (fun _ => True) (trivial) ?_
          repeat (first
            | (refine Lex.skips (by rfl) ?_; (try simp only [Act.put, List.setIfInBounds_toArray, List.set_cons_zero, List.set_cons_succ]))
            | (refine Lex.quiet (v := ?_) (by rfl) (by rfl) ?_ ?_; rotate_left; (focus (intro w' hS'; go_simp; try rfl)); (try simp only [Act.put, List.setIfInBounds_toArray, List.set_cons_zero, List.set_cons_succ])))
          refine Lex.done ?_
          refine Lex.ends ?_
          go_wp2_with fail
          go_roundw
          case rel => exact ⟨_, x, i + 1, rfl, rfl, by simp, HI1, HWF, Lib.hid R9.out.drew⟩
          case measure => simp [nOf]; omega

theorem walks11_rd (w : World) (v : Value) {n : Nat} {d : Dt} (h : Rd Try.prog w n 25 [v] d) (p : Int) (wv : Value) (wl : List Int) (hway : Reads w wv 1 wl.length (ints wl)) :
    Calls Try.prog 4 #[v, .int .i64 p, wv] w fun e w' => e = .returned (.bool true) ∧ Fr no w w' := by
  obtain ⟨sa, c, is, rfl, h1, h2, h3, h4⟩ := code_of h
  exact walks11_ok w sa c is p wv wl h1 h2 h3 h4 hway

end Go.Proofs.Ytofahdjnejodjaa

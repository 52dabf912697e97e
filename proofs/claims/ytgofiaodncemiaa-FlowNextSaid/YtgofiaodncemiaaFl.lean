/- FlowNext's walk. -/
import Derived.Test.YtgofiaodncemiaaFk
set_option linter.unusedSimpArgs false
set_option linter.unusedVariables false
set_option linter.unusedSectionVars false
set_option linter.unnecessarySimpa false
namespace Go.Proofs.Ytgofiaodncemiaa
open Go.RowKit Go.Flow

attribute [local go_sem] Program.isFuncB Program.isSliceB

variable {w w' w'' w0 : World}

theorem nx_cases (is : List Ix) (i x : Nat) (hi : i < is.length) (h : x ∈ nx (fis is) i) : ((fiOf is[i]).fl = true ∧ x = i + 1) ∨ (plc (fis is) x : Int) = tgtI is[i] := by
  have h1 := (nx_mem (by rw [fis_len]; exact hi)).1 h
  rw [fis_at is i hi] at h1
  exact h1.imp id (fun h => (atO_some h).2)
theorem nx_goes (is : List Ix) (i : Nat) (hi : i < is.length) (h : (fiOf is[i]).fl = true) : i + 1 ∈ nx (fis is) i := by
  refine (nx_mem (by rw [fis_len]; exact hi)).2 (.inl ⟨?_, rfl⟩)
  rw [fis_at is i hi]; exact h
theorem nx_to (is : List Ix) (F : Flows (fis is)) (i k : Nat) (hi : i < is.length) (hk : k < is.length) (h : (plc (fis is) k : Int) = tgtI is[i]) : k ∈ nx (fis is) i := by
  refine (nx_mem (by rw [fis_len]; exact hi)).2 (.inr ?_)
  rw [fis_at is i hi]
  exact atO_is _ F.ln k (by rw [fis_len]; exact hk) _ h
theorem places_plc (is : List Ix) (k : Nat) (hk : k < is.length) : (ints (placesOf is))[k]? = some (.int .i64 (plc (fis is) k : Nat)) := by
  rw [placesOf_at is k hk, plc_fis]

set_option maxRecDepth 100000 in
set_option maxHeartbeats 16000000 in
theorem next10_ok (w : World) (sa : Option Addr) (c : Nat) (is : List Ix) (hin : CodeIn w sa is) (hlen : is.length ≤ maxLen) (hargs : ∀ i ∈ is, i.l.length ≤ maxLen) (hN : ∀ i ∈ is, rng i.N) :
    Calls Try.prog 6 #[.slice sa is.length c] w fun e w' => e = .returned (.bool true) ∧ Fr no w w' := by
  have KN := Lib.hid (known10_ok w)
  have HIN := Lib.hid hin
  have HLO := Lib.hid (fun w2 (r : Fr no w w2) => long10_ok w2 sa c is (hin.fr r) hlen hargs)
  have HNN := Lib.hid hN
  unfold maxLen at hlen
  clear hin hargs hN
  go_enter Try.func6, Try.ntmps6
  go_wp2_with fail
  refine KN.out.mono ?_
  rintro e w2 ⟨rfl, r2⟩
  have R2 := Lib.hid r2
  have HL2 := Lib.hid (HLO.out w2 r2)
  clear r2 KN HLO
  go_wp2_with fail
  refine HL2.out.mono ?_
  rintro e w4 ⟨q, rfl, hq, r4⟩
  have R4 := Lib.hid (R2.out.trans r4)
  have HQ := Lib.hid hq
  clear hq r4 HL2 R2
  cases q
  case true =>
    go_wp2_with fail
    go_ret
    exact ⟨rfl, R4.out⟩
  have hl60 := (HQ.out rfl).1
  have HA20 := Lib.hid (HQ.out rfl).2
  have HNX := Lib.hid (fun w5 (r : Fr no w w5) => fnext_ok w5 sa c is (HIN.out.fr r) (by omega) (fun i hi => by have := HA20.out i hi; omega) HNN.out)
  have HNX4 := Lib.hid (HNX.out w4 R4.out)
  have HCHK := Lib.hid (fun w5 (r : Fr no w w5) => fcheck_ok w5 sa c is (HIN.out.fr r) (by omega) (fun i hi => by have := HA20.out i hi; omega) HNN.out)
  have HFL : Hid (flowCk is = 0 → Flows (fis is)) := Lib.hid flowCk_flows
  have HJ0 : Hid (flowCk is = 0 → joinCk is = 0) := Lib.hid flowCk_join
  clear HQ HNX
  generalize flowCk is = ck at *
  go_wp2_with fail
  refine HNX4.out.mono ?_
  rintro e w5 ⟨u, rfl, hbad, hgood, r5⟩
  have R5 := Lib.hid (R4.out.trans r5)
  have HBAD := Lib.hid hbad
  have HGOOD := Lib.hid hgood
  clear r5 hbad hgood HNX4 R4
  by_cases hj : ck = 0
  case neg =>
    obtain rfl := HBAD.out hj
    have e1 : (ck != 0) = true := by simpa using hj
    have e2 : (ck == ck) = true := by simp
    have HC5 := Lib.hid (HCHK.out w5 R5.out)
    clear hj HGOOD HBAD HCHK
    go_wp2_with fail
    refine HC5.out.mono ?_
    rintro e w6 ⟨rfl, r6⟩
    have R6 := Lib.hid (R5.out.trans r6)
    clear r6
    go_wp2_with fail
    go_ret
    exact ⟨by rfl, R6.out⟩
  have HN5 := Lib.hid (HGOOD.out hj).nx
  have HF := Lib.hid (HFL.out hj)
  have hjc := HJ0.out hj
  subst hj
  clear HBAD HGOOD HFL HJ0 HCHK
  have hsh : ∃ a c', u = .slice a is.length c' := by
    obtain ⟨a, c', rfl⟩ := HN5.out.shape
    exact ⟨a, c', by rw [nxs_len]⟩
  obtain ⟨na, nc, rfl⟩ := hsh
  obtain ⟨j1, j2, j3⟩ := joinCk_zero is hjc
  have HJ := Lib.hid (join_ok w5 sa c is (HIN.out.fr R5.out) (by omega) (fun i hi => by have := HA20.out i hi; omega))
  rw [hjc] at HJ
  go_wp2_with fail
  refine HJ.out.mono ?_
  rintro e w6 ⟨bv, rfl, hbv, r6⟩
  obtain ⟨ba, bc, rfl⟩ := owns_shape hbv
  have R6 := Lib.hid (R5.out.trans r6)
  have HN6 := Lib.hid (HN5.out.fr r6)
  rw [j3] at hbv
  have HB := Lib.hid (Bytes.mk (owns_reads hbv) (bytesOf_lt is) (by omega) (fun k hk => (hbv.lt k hk).2))
  have HS := Lib.hid (split_v w6 _ (bytesOf is) HB.out j2)
  rw [splitR_joined is j1 HNN.out] at HS
  have HJL : (joinB is).length = (bytesOf is).length := by rw [j3]
  generalize hjl : (joinB is).length = jl at *
  subst HJL
  clear hjl j1 j3 hbv r6 HJ HN5 R5 hjc HB
  go_wp2_with fail
  refine HS.out.mono ?_
  rintro e w7 ⟨ma, mc, pv, rfl, hs⟩
  have HP7 := Lib.hid (owns_reads hs.places)
  have Q7 := Lib.hid hs.fr
  clear hs HS
  dsimp only at HP7
  obtain ⟨pa, pc, rfl⟩ := HP7.out.shape
  have HX0 := Lib.hid (heap_new w7 (.cells #[.int .i64 0, .int .i64 0] 49))
  go_upto_region 9 with (refine wpList_store_row rfl 49 (.tmp 10) (.tmp 49) rfl w7.heap.size #[.int .i64 0, .int .i64 0] rfl rfl _ _ HX0.out (by rw [Try.infoFault]; rfl) rfl (by simp [Value.oneCell']) ?_; rw [act_put_none])
  have HF8 := Lib.hid (setRow_heap _ w7.heap.size _ #[.int .i64 0, .int .i64 0] _ _ HX0.out)
  have ra := (Fr.refl no w7).alloc (.cells #[.int .i64 0, .int .i64 0] 49)
  have rb := ra.trans' (fr_setRow (g := w7.heap.size) (cs := #[.int .i64 0, .int .i64 0]) (Fr.refl (only [w7.heap.size]) _) (.inl (by simp))) (fun k hk _ => by simp at hk; omega)
  have HP8 := Lib.hid (HP7.out.fr rb (by simp))
  have HN8 := Lib.hid (HN6.out.fr (Q7.out.trans rb))
  have R8 := Lib.hid (R6.out.trans (Q7.out.trans rb))
  have HPL := Lib.hid (placesOf_len is)
  rw [HPL.out] at HP8
  clear ra rb HX0 HP7 HN6 Q7 R6
  generalize World.setRow _ w7.heap.size #[.int .i64 0, .int .i64 0] = w8 at *
  have f0 := cell_of_heap (o := 0) HF8.out rfl
  have e0 : ((0 : Int) != 0) = false := rfl
  have ell : ((is.length : Int) != (is.length : Int)) = false := by simp
  generalize hpl : (placesOf is).length = pl at *
  obtain rfl : pl = is.length := HPL.out
  clear hpl HPL
  go_upto_region 12 with fail
  clear f0 HF8 ell e0
  go_loopw [11] (fun x wr => ∃ i : Nat, i ≤ is.length ∧ x = .int .i64 i ∧ Hid (Fr no w8 wr)) (fun x _ => (is.length - intOf x).toNat)
  case atStart => exact ⟨0, by omega, rfl, Lib.hid (Fr.refl _ _)⟩
  case round =>
    obtain ⟨i, hi, rfl, hfr⟩ := hrel
    by_cases his : i < is.length
    · have his' : (i : Int) < is.length := by omega
      obtain ⟨b1, o1, u1, rfl, h1⟩ := (HIN.out.fr (R8.out.trans hfr.out)) i his
      obtain ⟨ua, uc, rfl⟩ := h1.args.shape
      obtain ⟨c0, c1, c2, c3, c4, c5⟩ := h1.six
      have HI1 := Lib.hid h1
      have HT : Hid (∀ w1 : World, Calls Try.prog 18 #[insV is[i].o is[i].A is[i].B is[i].C is[i].N (.slice ua is[i].l.length uc)] w1 fun e w' => e = .returned (.int .i64 (tgtI is[i])) ∧ Fr no w1 w') := Lib.hid (fun w1 => target_ok w1 is[i].o is[i].A is[i].B is[i].C is[i].N (.slice ua is[i].l.length uc))
      have HFA : Hid (∀ w1 : World, Calls Try.prog 19 #[insV is[i].o is[i].A is[i].B is[i].C is[i].N (.slice ua is[i].l.length uc)] w1 fun e w' => e = .returned (.bool (fiOf is[i]).fl) ∧ Fr no w1 w') := Lib.hid (fun w1 => falls_ok w1 is[i].o is[i].A is[i].B is[i].C is[i].N (.slice ua is[i].l.length uc))
      have HCA := Lib.hid (fun x (h : x ∈ nx (fis is) i) => nx_cases is i x his h)
      have HGO := Lib.hid (nx_goes is i his)
      have HTO := Lib.hid (fun k hk h => nx_to is HF.out i k his hk h)
      have HXL : Hid (∀ x ∈ nx (fis is) i, x < is.length) := Lib.hid (fun x h => by have := nx_lt HF.out h; rwa [fis_len] at this)
      have HXS := Lib.hid (nx_sorted (fis is) i)
      obtain ⟨nb, no', va, vc, rfl, crow0, hrow⟩ := (HN8.out.fr hfr.out).at_ i (by rw [nxs_len]; exact his)
      have hnk : (nxs (fis is))[i]'(by rw [nxs_len]; exact his) = nx (fis is) i := by simp [nxs]
      rw [hnk] at crow0 hrow
      have HROW := Lib.hid hrow
      have HCR := Lib.hid crow0
      have hnf := nx_few (fis is) i
      generalize tgtI is[i] = t at *
      generalize (fiOf is[i]).fl = fl at *
      generalize nx (fis is) i = nk at *
      generalize is[i] = ix at *
      clear h1 hrow crow0 hnk
      obtain ⟨io, iA, iB, iC, iN, il⟩ := ix
      dsimp only at c0 c1 c2 c3 c4 c5 HT HFA
      unfold insV at HT HFA
      go_wp2_with fail
      refine (HT.out _).mono ?_
      rintro e w9 ⟨rfl, r9⟩
      have R9 := Lib.hid (hfr.out.trans r9)
      have HR9 := Lib.hid (HROW.out.fr r9 (by simp))
      have HC9 := Lib.hid (r9.cell HCR.out (by simp))
      have HI9 := Lib.hid (HI1.out.fr r9)
      clear r9 c0 c1 c2 c3 c4 c5 HROW HCR HI1 hfr HT
      go_wp2_with fail
      clear wr
      go_loopw [13] (fun y wr => ∃ k : Nat, k ≤ nk.length ∧ y = .int .i64 k ∧ Hid (Fr no w9 wr)) (fun y _ => (nk.length - intOf y).toNat)
      case atStart => exact ⟨0, by omega, rfl, Lib.hid (Fr.refl _ _)⟩
      case round =>
        obtain ⟨k, hk, rfl, hfr⟩ := hrel
        have crow := hfr.out.cell HC9.out (by simp)
        by_cases hks : k < nk.length
        · have hks' : (k : Int) < nk.length := by omega
          have hxm : nk[k] ∈ nk := List.getElem_mem hks
          have hxl := HXL.out _ hxm
          have hxl' : ((nk[k] : Nat) : Int) < is.length := by omega
          have hx0 : ¬ ((nk[k] : Nat) : Int) < 0 := by omega
          have HXC := Lib.hid (HCA.out _ hxm)
          have HPR : Hid (0 < k → ∃ y : Nat, nk[k - 1]? = some y ∧ y < nk[k]) := Lib.hid (fun h => ⟨nk[k - 1], List.getElem?_eq_getElem (by omega), List.pairwise_iff_getElem.1 HXS.out (k - 1) k (by omega) hks (by omega)⟩)
          obtain ⟨kb, ko, rfl, ck⟩ := (HR9.out.fr hfr.out (by simp)).at1 (k := k) (u := .int .i64 (nk[k] : Nat)) (ints_at (List.getElem?_eq_getElem hks))
          obtain ⟨pb, po, rfl, cp⟩ := (HP8.out.fr (R9.out.trans hfr.out) (by simp)).at1 (places_plc is nk[k] hxl)
          obtain ⟨c0, c1, c2, c3, c4, c5⟩ := (HI9.out.fr hfr.out).six
          have HPRC : Hid (∀ y : Nat, nk[k - 1]? = some y → wr.cell? ⟨kb, ko + (k - 1), none⟩ = some (.int .i64 (y : Nat))) := Lib.hid (fun y hy => by
            obtain ⟨b', o', e', h'⟩ := (HR9.out.fr hfr.out (by simp)).at1 (k := k - 1) (ints_at hy)
            cases e'
            exact h')
          generalize plc (fis is) nk[k] = px at *
          generalize nk[k] = x at *
          dsimp only at c0 c1 c2 c3 c4 c5
          clear hxm
          by_cases hk0 : 0 < k
          · obtain ⟨y, hy1, hy2⟩ := HPR.out hk0
            have cy := HPRC.out y hy1
            have hy' : ¬ (x : Int) ≤ (y : Int) := by omega
            have hk0' : 0 < (k : Int) := by omega
            obtain ⟨k1, hk1⟩ : ∃ k1, k1 = k - 1 := ⟨_, rfl⟩
            have hk1' : (k : Int) - 1 = k1 := by omega
            rw [← hk1] at cy
            clear hy1 hy2 hk1
            by_cases hA : fl = true ∧ x = i + 1
            · obtain ⟨rfl, rfl⟩ := hA
              have q1 : (((i + 1 : Nat) : Int) == (i : Int) + 1) = true := by simp
              clear HXC hk0 HPR HPRC
              go_wp2_with fail
              refine (HFA.out _).mono ?_
              rintro e w10 ⟨rfl, r10⟩
              have R10 := Lib.hid (hfr.out.trans r10)
              clear r10 crow ck cp c0 c1 c2 c3 c4 c5 cy
              go_wp2_with fail
              go_roundw
              case rel => exact ⟨k + 1, by omega, by go_num, R10⟩
              case measure => first | (simp [intOf]; done) | (simp [intOf]; omega)
            have hpt := HXC.out.resolve_left hA
            have q2 : ((px : Int) == t) = true := by simpa using hpt
            by_cases hxi : x = i + 1
            · have hfl : fl = false := by cases fl; rfl; exact absurd ⟨rfl, hxi⟩ hA
              subst hfl
              subst hxi
              have q1 : (((i + 1 : Nat) : Int) == (i : Int) + 1) = true := by simp
              clear HXC hk0 HPR HPRC hA hpt
              go_wp2_with fail
              refine (HFA.out _).mono ?_
              rintro e w10 ⟨rfl, r10⟩
              have R10 := Lib.hid (hfr.out.trans r10)
              have cp10 := r10.cell cp (by simp)
              clear r10 crow ck cp c0 c1 c2 c3 c4 c5 cy
              go_wp2_with fail
              go_roundw
              case rel => exact ⟨k + 1, by omega, by go_num, R10⟩
              case measure => first | (simp [intOf]; done) | (simp [intOf]; omega)
            · have q1 : ((x : Int) == (i : Int) + 1) = false := by simp; omega
              clear HXC hk0 HPR HPRC hA hpt hxi
              go_wp2_with fail
              go_roundw
              case rel => exact ⟨k + 1, by omega, by go_num, hfr⟩
              case measure => first | (simp [intOf]; done) | (simp [intOf]; omega)
          · have hk0' : ¬ 0 < (k : Int) := by omega
            by_cases hA : fl = true ∧ x = i + 1
            · obtain ⟨rfl, rfl⟩ := hA
              have q1 : (((i + 1 : Nat) : Int) == (i : Int) + 1) = true := by simp
              clear HXC hk0 HPR HPRC
              go_wp2_with fail
              refine (HFA.out _).mono ?_
              rintro e w10 ⟨rfl, r10⟩
              have R10 := Lib.hid (hfr.out.trans r10)
              clear r10 crow ck cp c0 c1 c2 c3 c4 c5 
              go_wp2_with fail
              go_roundw
              case rel => exact ⟨k + 1, by omega, by go_num, R10⟩
              case measure => first | (simp [intOf]; done) | (simp [intOf]; omega)
            have hpt := HXC.out.resolve_left hA
            have q2 : ((px : Int) == t) = true := by simpa using hpt
            by_cases hxi : x = i + 1
            · have hfl : fl = false := by cases fl; rfl; exact absurd ⟨rfl, hxi⟩ hA
              subst hfl
              subst hxi
              have q1 : (((i + 1 : Nat) : Int) == (i : Int) + 1) = true := by simp
              clear HXC hk0 HPR HPRC hA hpt
              go_wp2_with fail
              refine (HFA.out _).mono ?_
              rintro e w10 ⟨rfl, r10⟩
              have R10 := Lib.hid (hfr.out.trans r10)
              have cp10 := r10.cell cp (by simp)
              clear r10 crow ck cp c0 c1 c2 c3 c4 c5 
              go_wp2_with fail
              go_roundw
              case rel => exact ⟨k + 1, by omega, by go_num, R10⟩
              case measure => first | (simp [intOf]; done) | (simp [intOf]; omega)
            · have q1 : ((x : Int) == (i : Int) + 1) = false := by simp; omega
              clear HXC hk0 HPR HPRC hA hpt hxi
              go_wp2_with fail
              go_roundw
              case rel => exact ⟨k + 1, by omega, by go_num, hfr⟩
              case measure => first | (simp [intOf]; done) | (simp [intOf]; omega)
        · obtain rfl : k = nk.length := by omega
          obtain ⟨c0, c1, c2, c3, c4, c5⟩ := (HI9.out.fr hfr.out).six
          dsimp only at c0 c1 c2 c3 c4 c5
          have HH : Hid (∀ wz, Fr no wr wz → fl = true → Calls Try.prog 20 #[.slice va nk.length vc, .int .i64 ((i : Int) + 1)] wz fun e w' => e = .returned (.bool true) ∧ wz = w') := Lib.hid (fun wz r h => by
            have := has10_ok wz va vc nk ((i : Int) + 1) (HR9.out.fr (hfr.out.trans r) (by simp)) (by omega)
            rw [decide_eq_true (nats_mem.2 ⟨i + 1, HGO.out h, by simp⟩)] at this
            exact this)
          have HGT : Hid (∃ w11 : World, True) := Lib.hid ⟨wr, trivial⟩
          have FIN : Hid (Fr no w8 wr) := Lib.hid (R9.out.trans hfr.out)
          go_wp2_with fail
          refine (HFA.out _).mono ?_
          rintro e w10 ⟨rfl, r10⟩
          have R10 := Lib.hid (hfr.out.trans r10)
          have HH10 := Lib.hid (HH.out w10 r10)
          have cr10 := r10.cell crow (by simp)
          clear r10 crow c0 c1 c2 c3 c4 c5 HH hfr
          cases fl
          case' false =>
            clear HH10
            go_wp2_with fail
          case' true =>
            have HH11 := Lib.hid (HH10.out rfl)
            clear HH10
            go_wp2_with fail
            refine HH11.out.mono ?_
            rintro e w' ⟨rfl, rfl⟩
            clear HH11
            go_wp2_with fail
          all_goals
            have F10 := Lib.hid (R9.out.trans R10.out)
            have HR10 := Lib.hid (HR9.out.fr R10.out (by simp))
            have HC10 := Lib.hid cr10
            clear R10 cr10 HR9 HC9 HI9 R9 FIN HGT HFA
            go_loopw [15] (fun y wr => ∃ k : Nat, k ≤ is.length ∧ y = .int .i64 k ∧ Hid (Fr no w10 wr)) (fun y _ => (is.length - intOf y).toNat)
            case atStart => exact ⟨0, by omega, rfl, Lib.hid (Fr.refl _ _)⟩
            case round =>
              obtain ⟨k, hk, rfl, hfr⟩ := hrel
              by_cases hks : k < is.length
              · have hks' : (k : Int) < is.length := by omega
                obtain ⟨pb, po, rfl, cp⟩ := (HP8.out.fr (F10.out.trans hfr.out) (by simp)).at1 (places_plc is k hks)
                have crow := hfr.out.cell HC10.out (by simp)
                have HTK := Lib.hid (HTO.out k hks)
                have HRW := Lib.hid (HR10.out.fr hfr.out (by simp))
                generalize plc (fis is) k = px at *
                by_cases hpt : (px : Int) = t
                · have q2 : ((px : Int) == t) = true := by simpa using hpt
                  have HH : Hid (Calls Try.prog 20 #[.slice va nk.length vc, .int .i64 (k : Int)] wr fun e w' => e = .returned (.bool true) ∧ wr = w') := Lib.hid (by
                    have := has10_ok wr va vc nk (k : Int) HRW.out (by omega)
                    rw [decide_eq_true (nats_mem.2 ⟨k, HTK.out hpt, rfl⟩)] at this
                    exact this)
                  clear hpt HTK HRW
                  go_wp2_with fail
                  refine HH.out.mono ?_
                  rintro e w' ⟨rfl, rfl⟩
                  clear HH crow cp
                  go_wp2_with fail
                  go_roundw
                  case rel => exact ⟨k + 1, by omega, by go_num, hfr⟩
                  case measure => first | (simp [intOf]; done) | (simp [intOf]; omega)
                · have q2 : ((px : Int) == t) = false := by simpa using hpt
                  clear hpt HTK HRW
                  go_wp2_with fail
                  go_roundw
                  case rel => exact ⟨k + 1, by omega, by go_num, hfr⟩
                  case measure => first | (simp [intOf]; done) | (simp [intOf]; omega)
              · obtain rfl : k = is.length := by omega
                have F := Lib.hid (F10.out.trans hfr.out)
                clear HC10 HR10 F10 hfr
                go_wp2_with fail
                go_roundw
                case rel => exact ⟨i + 1, by omega, by go_num, F⟩
                case measure => first | (simp [intOf]; done) | (simp [intOf]; omega)
    · obtain rfl : i = is.length := by omega
      go_wp2_with fail
      go_ret
      exact ⟨rfl, R8.out.trans hfr.out⟩


theorem next10_rd (w : World) (v : Value) {n : Nat} {d : Dt} (h : Rd Try.prog w n 22 [v] d) :
    Calls Try.prog 6 #[v] w fun e w' => e = .returned (.bool true) ∧ Fr no w w' := by
  obtain ⟨sa, c, is, rfl, h1, h2, h3, h4⟩ := code_of h
  exact next10_ok w sa c is h1 h2 h3 h4

end Go.Proofs.Ytgofiaodncemiaa

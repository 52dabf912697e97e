/- FlowParts' walk. -/
import Derived.Test.YtgofiaodncemiaaFk
set_option linter.unusedSimpArgs false
set_option linter.unusedVariables false
set_option linter.unusedSectionVars false
set_option linter.unnecessarySimpa false
namespace Go.Proofs.Ytgofiaodncemiaa
open Go.RowKit Go.Flow

attribute [local go_sem] Program.isFuncB Program.isSliceB

variable {w w' w'' w0 : World}

/-- where the i-th block begins; behind the last one: the end -/
def atOf (l : List Fi) (i : Nat) : Nat := ((heads l)[i]?).getD l.length
theorem atOf_zero {l : List Fi} (F : Flows l) : atOf l 0 = 0 := by
  unfold atOf
  have hm : 0 ∈ heads l := headsTo_mem.2 ⟨F.pos, heads_zero l⟩
  obtain ⟨j, hj, h0⟩ := List.getElem_of_mem hm
  have h1 : 0 < (heads l).length := by omega
  rw [List.getElem?_eq_getElem h1]
  by_cases hj0 : j = 0
  · subst hj0; simpa using h0
  · have := List.pairwise_iff_getElem.1 (headsTo_sorted l l.length) 0 j h1 hj (by omega)
    change (heads l)[0] < (heads l)[j] at this
    omega
theorem atOf_end {l : List Fi} : atOf l (heads l).length = l.length := by
  unfold atOf; rw [List.getElem?_eq_none (Nat.le_refl _)]; rfl
theorem atOf_at {l : List Fi} {i : Nat} (h : i < (heads l).length) : atOf l i = (heads l)[i] := by
  unfold atOf; rw [List.getElem?_eq_getElem h]; rfl
theorem endOf_at (l : List Fi) (i : Nat) : endOf l i = atOf l (i + 1) := rfl
/-- within a block just the next one follows -/
theorem within {l : List Fi} (F : Flows l) (i k : Nat) (hi : i < (heads l).length) (h1 : atOf l i ≤ k) (h2 : k + 1 < endOf l i) : nx l k = [k + 1] := by
  have hp := endOf_pos F i hi
  have hk : k < l.length := by omega
  rw [atOf_at hi] at h1
  have hnl : leadB l (k + 1) = false := by
    cases h : leadB l (k + 1) with
    | false => rfl
    | true =>
      exfalso
      have hm : k + 1 ∈ heads l := headsTo_mem.2 ⟨by omega, h⟩
      obtain ⟨j, hj, he⟩ := List.getElem_of_mem hm
      have hs := List.pairwise_iff_getElem.1 (headsTo_sorted l l.length)
      have hij : i < j := by
        apply Classical.byContradiction
        intro hn
        by_cases e : j = i
        · subst e; omega
        · have := hs j i hj hi (by omega)
          change (heads l)[j] < (heads l)[i] at this
          omega
      unfold endOf at h2
      by_cases e : j = i + 1
      · subst e
        rw [List.getElem?_eq_getElem hj] at h2
        change k + 1 < (heads l)[i + 1] at h2
        omega
      · have hi1 : i + 1 < (heads l).length := by omega
        have := hs (i + 1) j hi1 hj (by omega)
        rw [List.getElem?_eq_getElem hi1] at h2
        change k + 1 < (heads l)[i + 1] at h2
        change (heads l)[i + 1] < (heads l)[j] at this
        omega
  unfold leadB at hnl
  rw [Bool.or_eq_false_iff, Bool.or_eq_false_iff] at hnl
  obtain ⟨⟨-, h3⟩, -⟩ := hnl
  rw [show k + 1 - 1 = k from rfl, List.getElem?_eq_getElem hk] at h3
  dsimp only at h3
  rw [Bool.or_eq_false_iff] at h3
  have h4 : ¬ 0 ≤ l[k].tg := of_decide_eq_false h3.1
  have h5 : l[k].fl = true := by simpa using h3.2
  unfold nx
  rw [List.getElem?_eq_getElem hk]
  dsimp only
  rw [h5, tgO_at, atO_neg (by omega)]
  rfl
theorem blks_at (l : List Fi) (i : Nat) (h : i < (heads l).length) : (blks l)[i]? = some ⟨atOf l i, endOf l i, bnx l (endOf l i)⟩ := by
  simp [blks, h, atOf_at h]
/-- the blocks that follow, and where they begin -/
theorem bnx_at {l : List Fi} (F : Flows l) (i k : Nat) (hi : i < (heads l).length) (hk : k < (nx l (endOf l i - 1)).length) :
    ∃ x, (bnx l (endOf l i))[k]? = some x ∧ x < (heads l).length ∧ atOf l x = (nx l (endOf l i - 1))[k] := by
  have hm := lead_of_nx F hi (List.getElem_mem hk)
  have h1 := idx_mem (headsTo_sorted l l.length) hm
  change (heads l)[idx (heads l) _]? = _ at h1
  obtain ⟨h2, h3⟩ := List.getElem?_eq_some_iff.1 h1
  refine ⟨idx (heads l) (nx l (endOf l i - 1))[k], by simp [bnx, hk], h2, ?_⟩
  rw [atOf_at h2, h3]

set_option maxRecDepth 100000 in
set_option maxHeartbeats 16000000 in
theorem parts10_ok (w : World) (sa : Option Addr) (c : Nat) (is : List Ix) (hin : CodeIn w sa is) (hlen : is.length ≤ maxLen) (hargs : ∀ i ∈ is, i.l.length ≤ maxLen) (hN : ∀ i ∈ is, rng i.N) :
    Calls Try.prog 5 #[.slice sa is.length c] w fun e w' => e = .returned (.bool true) ∧ Fr no w w' := by
  have KN := Lib.hid (awake10_ok w)
  have HIN := Lib.hid hin
  have HLO := Lib.hid (fun w2 (r : Fr no w w2) => long10_ok w2 sa c is (hin.fr r) hlen hargs)
  have HNN := Lib.hid hN
  unfold maxLen at hlen
  clear hin hargs hN
  go_enter Try.func5, Try.ntmps5
  go_wp2_with fail
  refine KN.out.mono ?_
  rintro e w2 ⟨rfl, r2⟩
  have R2 := Lib.hid r2
  have HL2 := Lib.hid (HLO.out w2 r2)
  clear r2 KN HLO
  go_wp2_with fail
  refine HL2.out.mono ?_
  rintro e w4 ⟨q, rfl, hq, r4⟩
  have R4 := Lib.hid (R2.out.trans r4)
  have HQ := Lib.hid hq
  clear hq r4 HL2 R2
  cases q
  case true =>
    go_wp2_with fail
    go_ret
    exact ⟨rfl, R4.out⟩
  have hl60 := (HQ.out rfl).1
  have HA20 := Lib.hid (HQ.out rfl).2
  have HBL4 := Lib.hid (fblocks_ok w4 sa c is (HIN.out.fr R4.out) (by omega) (fun i hi => by have := HA20.out i hi; omega) HNN.out)
  have HNX := Lib.hid (fun w5 (r : Fr no w w5) => fnext_ok w5 sa c is (HIN.out.fr r) (by omega) (fun i hi => by have := HA20.out i hi; omega) HNN.out)
  have HFL : Hid (flowCk is = 0 → Flows (fis is)) := Lib.hid flowCk_flows
  clear HQ
  generalize flowCk is = ck at *
  go_wp2_with fail
  refine HBL4.out.mono ?_
  rintro e w5 ⟨ub, rfl, hbad, hgood, r5⟩
  have R5 := Lib.hid (R4.out.trans r5)
  have HBAD := Lib.hid hbad
  have HGOOD := Lib.hid hgood
  have HNX5 := Lib.hid (HNX.out w5 R5.out)
  clear r5 hbad hgood HBL4 R4 HNX
  have hck : (ck != ck) = false := by simp
  by_cases hj : ck = 0
  case neg =>
    obtain rfl := HBAD.out hj
    have e1 : (ck != 0) = true := by simpa using hj
    clear hj HGOOD HBAD
    go_wp2_with fail
    refine HNX5.out.mono ?_
    rintro e w6 ⟨un, rfl, -, -, r6⟩
    have R6 := Lib.hid (R5.out.trans r6)
    clear r6
    go_wp2_with fail
    go_ret
    exact ⟨by rfl, R6.out⟩
  have HB5 := Lib.hid (HGOOD.out hj).blk
  have HF := Lib.hid (HFL.out hj)
  subst hj
  clear HBAD HGOOD HFL hck
  have hck : ((0 : Int) != 0) = false := rfl
  go_wp2_with fail
  refine HNX5.out.mono ?_
  rintro e w6 ⟨un, rfl, -, hgood, r6⟩
  have HN6 := Lib.hid (hgood rfl).nx
  have HB6 := Lib.hid (HB5.out.fr r6)
  have R6 := Lib.hid (R5.out.trans r6)
  clear r6 hgood HNX5 HB5 R5
  have hsh : ∃ a c', un = .slice a is.length c' := by
    obtain ⟨a, c', rfl⟩ := HN6.out.shape
    exact ⟨a, c', by rw [nxs_len]⟩
  obtain ⟨na, nc, rfl⟩ := hsh
  obtain ⟨ba, bc, rfl⟩ := HB6.out.shape
  have HAE : Hid (atOf (fis is) (blks (fis is)).length = is.length) := Lib.hid (by rw [blks_len, atOf_end, fis_len])
  have HA0 := Lib.hid (atOf_zero HF.out)
  have hbl : (blks (fis is)).length ≤ 60 := by rw [blks_len]; have := heads_len is; omega
  obtain ⟨bl, hbl2⟩ : ∃ bl, bl = (blks (fis is)).length := ⟨_, rfl⟩
  have HBL : Hid (bl = (heads (fis is)).length) := Lib.hid (by rw [hbl2, blks_len])
  rw [← hbl2] at HB6 HAE hbl ⊢
  clear hbl2
  go_wp2_with fail
  go_loopw [8, 9] (fun x y wr => ∃ i : Nat, i ≤ bl ∧ y = .int .i64 i ∧ x = .int .i64 (atOf (fis is) i) ∧ Hid (Fr no w6 wr)) (fun _ y _ => (bl - intOf y).toNat)
  case atStart => exact ⟨0, by omega, rfl, by rw [HA0.out]; rfl, Lib.hid (Fr.refl _ _)⟩
  case round =>
    obtain ⟨i, hi, rfl, rfl, hfr⟩ := hrel
    by_cases his : i < bl
    · have his' : (i : Int) < bl := by omega
      have hih : i < (heads (fis is)).length := by rw [← HBL.out]; exact his
      have hbi := blks_at (fis is) i hih
      have hib : i < (blks (fis is)).length := (List.getElem?_eq_some_iff.1 hbi).1
      have hbe : (blks (fis is))[i] = ⟨atOf (fis is) i, endOf (fis is) i, bnx (fis is) (endOf (fis is) i)⟩ := by rw [List.getElem?_eq_getElem hib] at hbi; simpa using hbi
      obtain ⟨bb, bo, xa, xc, rfl, cf, ct, cn, hrn⟩ := (HB6.out.fr hfr.out).at_ i hib
      rw [hbe] at cf ct cn hrn
      dsimp only at cf ct cn hrn
      have hep := endOf_pos HF.out i hih
      rw [← atOf_at hih, fis_len] at hep
      have HWI := Lib.hid (fun k => within HF.out i k hih)
      have HBX := Lib.hid (fun k => bnx_at HF.out i k hih)
      have HEA : Hid (endOf (fis is) i = atOf (fis is) (i + 1)) := Lib.hid rfl
      have HXL : Hid ((bnx (fis is) (endOf (fis is) i)).length = (nx (fis is) (endOf (fis is) i - 1)).length) := Lib.hid (by simp [bnx])
      have hnf := nx_few (fis is) (endOf (fis is) i - 1)
      obtain ⟨tn, htn⟩ : ∃ tn, endOf (fis is) i = tn + 1 := ⟨endOf (fis is) i - 1, by omega⟩
      rw [htn] at HXL hnf ct cn hrn hep HWI HBX HEA
      have htl : tn < is.length := by omega
      have HRN := Lib.hid hrn
      have HCF := Lib.hid cf
      have HCT := Lib.hid ct
      have HCN := Lib.hid cn
      clear hbi hbe hrn cf ct cn hib htn
      change Hid ((bnx (fis is) (tn + 1)).length = (nx (fis is) tn).length) at HXL
      change (nx (fis is) tn).length ≤ 2 at hnf
      generalize hbx : bnx (fis is) (tn + 1) = bx at *
      rw [HXL.out] at HRN HCN
      clear hbx
      rw [show ((tn + 1 : Nat) : Int) = (tn : Int) + 1 from rfl] at HCT
      generalize hat : atOf (fis is) i = a0 at *
      clear hat
      have h1 : ¬ ((tn : Int) + 1 ≤ (a0 : Int)) := by omega
      have h2 : ¬ ((is.length : Int) < (tn : Int) + 1) := by omega
      have h3 : ((a0 : Int) != (a0 : Int)) = false := by simp
      have ht1 : (tn : Int) + 1 - 1 = tn := by omega
      have cf := HCF.out
      have ct := HCT.out
      go_upto_region 16 with fail
      clear cf ct h1 h2 h3
      go_wp2_with fail
      obtain ⟨wz, hwz⟩ : ∃ x, x = wr := ⟨_, rfl⟩
      rw [← hwz] at hfr HRN HCF HCT HCN ⊢
      clear hwz wr
      go_loopw [10] (fun y wr => ∃ k : Nat, a0 ≤ k ∧ k ≤ tn ∧ y = .int .i64 k ∧ Hid (Fr no wz wr)) (fun y _ => (tn - intOf y).toNat)
      case atStart => exact ⟨a0, by omega, by omega, rfl, Lib.hid (Fr.refl _ _)⟩
      case round =>
        obtain ⟨k, hk0, hk, rfl, hzr⟩ := hrel
        have ct := hzr.out.cell HCT.out (by simp)
        by_cases hks : k < tn
        · have hks' : (k : Int) < tn := by omega
          have hkl : k < is.length := by omega
          have hkl' : (k : Int) < is.length := by omega
          obtain ⟨nb, no', va, vc, rfl, cr, hrow⟩ := (HN6.out.fr (hfr.out.trans hzr.out)).at_ k (by rw [nxs_len]; exact hkl)
          have hnk : (nxs (fis is))[k]'(by rw [nxs_len]; exact hkl) = [k + 1] := by
            have := HWI.out k hk0 (by omega)
            simpa [nxs] using this
          rw [hnk] at cr hrow
          dsimp only [List.length_cons, List.length_nil, Nat.zero_add] at cr hrow
          have HS : Hid (Calls Try.prog 15 #[.slice va 1 vc, .slice (some ⟨wr.heap.size, 0, none⟩) 1 1] (wr.alloc (.cells #[.int .i64 ((k : Int) + 1)] 3)) fun e w' => e = .returned (.bool true) ∧ Fr no (wr.alloc (.cells #[.int .i64 ((k : Int) + 1)] 3)) w') := Lib.hid (by
            have := same_ints (wr.alloc (.cells #[.int .i64 ((k : Int) + 1)] 3)) (.slice va 1 vc) (.slice (some ⟨wr.heap.size, 0, none⟩) 1 1) [(k : Int) + 1] [(k : Int) + 1] (hrow.fr ((Fr.refl no wr).alloc _) (by simp)) (reads_num (heap_new wr _)) (by simp)
            rw [decide_eq_true rfl] at this
            refine this.mono ?_
            rintro e w' ⟨rfl, q, rfl⟩
            exact ⟨rfl, (Fr.refl no _).drewN q⟩)
          have F5 := Lib.hid (hzr.out.alloc (.cells #[.int .i64 ((k : Int) + 1)] 3))
          clear hnk hrow
          go_wp2_with fail
          refine HS.out.mono ?_
          rintro e w9 ⟨rfl, r9⟩
          have F9 := Lib.hid (F5.out.trans r9)
          clear r9 F5 HS cr ct
          go_wp2_with fail
          go_roundw
          case rel => exact ⟨k + 1, by omega, by omega, by go_num, F9⟩
          case measure => first | (simp [intOf]; done) | (simp [intOf]; omega)
        · obtain rfl : k = tn := by omega
          obtain ⟨nb, no', va, vc, rfl, cr, hrow⟩ := (HN6.out.fr (hfr.out.trans hzr.out)).at_ k (by rw [nxs_len]; exact htl)
          have hnk : (nxs (fis is))[k]'(by rw [nxs_len]; exact htl) = nx (fis is) k := by simp [nxs]
          rw [hnk] at cr hrow
          have HROW := Lib.hid hrow
          have HBX2 : Hid (∀ j (hj : j < (nx (fis is) k).length), ∃ x, bx[j]? = some x ∧ x < (heads (fis is)).length ∧ atOf (fis is) x = (nx (fis is) k)[j]) := Lib.hid (fun j hj => HBX.out j hj)
          clear hnk hrow HBX HWI
          generalize nx (fis is) k = nk at *
          have cn := hzr.out.cell HCN.out (by simp)
          have e1 : ((nk.length : Int) != (nk.length : Int)) = false := by simp
          have htl' : (k : Int) < is.length := by omega
          go_wp2_with fail
          have F7 := Lib.hid (hfr.out.trans hzr.out)
          have HCN7 := Lib.hid cn
          have HRN7 := Lib.hid (HRN.out.fr hzr.out (by simp))
          clear cn cr ct e1 HRN HCF HCT HCN hfr hzr
          obtain ⟨wy, hwy⟩ : ∃ x, x = wr := ⟨_, rfl⟩
          rw [← hwy] at F7 HCN7 HRN7 HROW ⊢
          clear hwy wr
          go_loopw [12] (fun y wr => ∃ j : Nat, j ≤ nk.length ∧ y = .int .i64 j ∧ Hid (Fr no wy wr)) (fun y _ => (nk.length - intOf y).toNat)
          case atStart => exact ⟨0, by omega, rfl, Lib.hid (Fr.refl _ _)⟩
          case round =>
            obtain ⟨j, hj, rfl, hyr⟩ := hrel
            by_cases hjs : j < nk.length
            · have hjs' : (j : Int) < nk.length := by omega
              obtain ⟨x, hx1, hx2, hx3⟩ := HBX2.out j hjs
              obtain ⟨xb, xo, rfl, cx⟩ := (HRN7.out.fr hyr.out (by simp)).at1 (k := j) (ints_at hx1)
              obtain ⟨lb, lo, rfl, cl⟩ := (HROW.out.fr hyr.out (by simp)).at1 (k := j) (u := .int .i64 (nk[j] : Nat)) (ints_at (List.getElem?_eq_getElem hjs))
              have cn := hyr.out.cell HCN7.out (by simp)
              have hxb : x < (blks (fis is)).length := by rw [blks_len]; exact hx2
              have HCB : Hid (wr.cell? ⟨bb, bo + x * 3, none⟩ = some (.int .i64 (nk[j] : Nat))) := Lib.hid (by
                obtain ⟨b', o', _, _, e', h', -⟩ := (HB6.out.fr (F7.out.trans hyr.out)).at_ x hxb
                have hbi := blks_at (fis is) x hx2
                rw [List.getElem?_eq_getElem hxb] at hbi
                rw [Option.some.inj hbi] at h'
                cases e'
                rw [← hx3]
                exact h')
              have hxl : x < bl := by rw [HBL.out]; exact hx2
              have hxl' : ¬ ((bl : Int) ≤ (x : Int)) := by omega
              have hx0 : ¬ ((x : Int) < 0) := by omega
              have hxb' : (x : Int) < bl := by omega
              have cb := HCB.out
              generalize nk[j] = y at *
              have ey : ((y : Int) != (y : Int)) = false := by simp
              clear hx1 hx2 hx3 hxb HCB
              go_wp2_with fail
              go_quiet (fail)
              clear cx cl cn cb
              go_wp2_with fail
              go_roundw
              case rel => exact ⟨j + 1, by omega, by go_num, Lib.hid (hyr.out.drewN _)⟩
              case measure => first | (simp [intOf]; done) | (simp [intOf]; omega)
            · obtain rfl : j = nk.length := by omega
              have F := Lib.hid (F7.out.trans hyr.out)
              clear hyr F7 HCN7 HRN7 HROW
              go_wp2_with fail
              go_roundw
              case rel => exact ⟨i + 1, by omega, by go_num, by rw [← HEA.out]; go_num, F⟩
              case measure => first | (simp [intOf]; done) | (simp [intOf]; omega)
    · obtain rfl : i = bl := by omega
      have F := Lib.hid (R6.out.trans hfr.out)
      rw [HAE.out]
      have e1 : ((is.length : Int) == (is.length : Int)) = true := by simp
      clear hfr
      go_wp2_with fail
      go_ret
      exact ⟨rfl, F.out⟩


theorem parts10_rd (w : World) (v : Value) {n : Nat} {d : Dt} (h : Rd Try.prog w n 22 [v] d) :
    Calls Try.prog 5 #[v] w fun e w' => e = .returned (.bool true) ∧ Fr no w w' := by
  obtain ⟨sa, c, is, rfl, h1, h2, h3, h4⟩ := code_of h
  exact parts10_ok w sa c is h1 h2 h3 h4

end Go.Proofs.Ytgofiaodncemiaa

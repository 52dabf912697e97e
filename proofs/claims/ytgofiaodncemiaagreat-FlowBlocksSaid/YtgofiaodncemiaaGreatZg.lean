/- FlowBlocks' walk. -/
import Derived.Test.YtgofiaodncemiaaGreatZf
set_option linter.unusedSimpArgs false
set_option linter.unusedVariables false
set_option linter.unusedSectionVars false
set_option linter.unnecessarySimpa false
namespace Go.Proofs.YtgofiaodncemiaaGreat
open Go.RowKit Go.Flow

attribute [local go_sem] Program.isFuncB Program.isSliceB

variable {w w' w'' w0 : World}

def bsOf (ck : Int) (bs : List Bk) : List Bk := if ck = 0 then bs else []
theorem BlkPost.own {ck : Int} {bs : List Bk} {e : Ending} (h : BlkPost w ck bs e w') : ∃ u, e = .returned (.tuple #[u, .int .i64 ck]) ∧ BlkOwn w' w.heap.size u (bsOf ck bs) ∧ Fr no w w' := by
  obtain ⟨u, h1, h2, h3, h4⟩ := h
  refine ⟨u, h1, ?_, h4⟩
  unfold bsOf
  by_cases hc : ck = 0
  · rw [if_pos hc]; exact h3 hc
  · rw [if_neg hc, h2 hc]
    exact ⟨[], Rows2.nil _ _, World.ownsRow_nil _ _ _ _, fun v hv => by cases hv⟩
theorem bsOf_len (ck : Int) (is : List Ix) (h : is.length ≤ 60) : (bsOf ck (blks (fis is))).length ≤ 60 := by
  unfold bsOf; split
  · rw [blks_len]; have := heads_len is; omega
  · simp
theorem bsOf_few (ck : Int) (is : List Ix) : ∀ b ∈ bsOf ck (blks (fis is)), b.nx.length ≤ 2 := by
  intro l hl
  unfold bsOf at hl
  split at hl
  · unfold blks at hl
    obtain ⟨b, -, rfl⟩ := List.mem_map.1 hl
    show (bnx _ _).length ≤ 2
    unfold bnx
    rw [List.length_map]
    exact nx_few _ _
  · cases hl

set_option maxRecDepth 100000 in
set_option maxHeartbeats 16000000 in
theorem blocks10_ok (w : World) (sa : Option Addr) (c : Nat) (is : List Ix) (hin : CodeIn w sa is) (hlen : is.length ≤ maxLen) (hargs : ∀ i ∈ is, i.l.length ≤ maxLen) (hN : ∀ i ∈ is, rng i.N) :
    Calls Tryz.prog 4 #[.slice sa is.length c] w fun e w' => e = .returned (.bool true) ∧ Fr no w w' := by
  have HAW := Lib.hid (fun w1 => awake10_ok w1)
  have HIN := Lib.hid hin
  have HLO := Lib.hid (long10_ok w sa c is hin hlen hargs)
  have HNN := Lib.hid hN
  clear hin hargs hN hlen
  go_enter Tryz.func4, Tryz.ntmps4
  go_wp2_with fail
  refine HLO.out.mono ?_
  rintro e w2 ⟨q, rfl, hq, r2⟩
  have R2 := Lib.hid r2
  have HQ := Lib.hid hq
  clear hq r2 HLO
  cases q
  case true =>
    go_wp2_with fail
    refine (HAW.out _).mono ?_
    rintro e w3 ⟨rfl, r3⟩
    have R3 := Lib.hid (R2.out.trans r3)
    clear r3
    go_wp2_with fail
    go_ret
    exact ⟨rfl, R3.out⟩
  have hl60 := (HQ.out rfl).1
  have HA20 := Lib.hid (HQ.out rfl).2
  have HA1 : Hid (∀ i ∈ is, i.l.length ≤ 1000) := Lib.hid (fun i hi => by have := HA20.out i hi; omega)
  have HCC := Lib.hid (copycode_ok w2 sa c is (HIN.out.fr R2.out) (by omega) (fun i hi => by have := HA20.out i hi; omega))
  clear HQ
  go_wp2_with fail
  refine HCC.out.mono ?_
  rintro e w3 ⟨na, nc, rfl, hcn, r3⟩
  have R3 := Lib.hid (R2.out.trans r3)
  have HL3 := Lib.hid (HIN.out.fr R3.out)
  have HC3 := Lib.hid hcn
  have HX := Lib.hid (fun w1 (r : Fr no w3 w1) => fblocks_ok w1 na nc is (HC3.out.fr r) (by omega) HA1.out HNN.out)
  have HRX := Lib.hid (fun w1 (r : Fr no w3 w1) => rblocks_ok w1 sa c is (HL3.out.fr r) (by omega) HA1.out)
  have HSC := Lib.hid (fun w1 (r : Fr no w3 w1) => samecode_ok w1 na sa nc c is is (HC3.out.fr r) (HL3.out.fr r) (by omega) (fun i hi => by have := HA20.out i hi; omega) (by omega))
  rw [show decide (is = is) = true from decide_eq_true rfl] at HSC
  generalize flowCk is = ck at *
  have e1 : (ck == ck) = true := by simp
  clear hcn r3 HCC R2
  go_wp2_with fail
  refine (HX.out w3 (Fr.refl _ _)).mono ?_
  intro e w4 h
  obtain ⟨ua, rfl, ho4, r4⟩ := h.own
  have hll := bsOf_len ck is hl60
  have HLF := Lib.hid (bsOf_few ck is)
  obtain ⟨bs, hbs⟩ : ∃ bs, bs = bsOf ck (blks (fis is)) := ⟨_, rfl⟩
  have HBS := Lib.hid hbs
  rw [← hbs] at ho4 hll HLF
  clear hbs
  obtain ⟨uaa, uac, rfl⟩ := ho4.blk.shape
  have HO4 := Lib.hid ho4
  have Q4 := Lib.hid r4
  clear h ho4 r4
  go_wp2_with fail
  refine (HRX.out w4 Q4.out).mono ?_
  intro e w5 h
  obtain ⟨ub, rfl, ho5, r5⟩ := h.own
  rw [← HBS.out] at ho5
  obtain ⟨uba, ubc, rfl⟩ := ho5.blk.shape
  have Q5 := Lib.hid (Q4.out.trans r5)
  have P5 := Lib.hid r5
  have HSL := Lib.hid (sameblocks_ok w5 uaa uba uac ubc bs bs (HO4.out.blk.fr r5) ho5.blk (by omega) (fun l hl => by have := HLF.out l hl; omega))
  rw [show decide (bs.map bkT = bs.map bkT) = true from decide_eq_true rfl] at HSL
  clear h ho5 r5
  go_wp2_with fail
  refine HSL.out.mono ?_
  rintro e w11 ⟨rfl, r8⟩
  have Q11 := Lib.hid (Q5.out.trans r8)
  have P11 := Lib.hid (P5.out.trans r8)
  clear r8 HSL
  go_wp2_with fail
  obtain ⟨vs, hv1, hv2, hv3⟩ := HO4.out
  have HV1 := Lib.hid hv1
  have HUR := Lib.hid ((owns_reads hv2).fr P11.out (by simp))
  have HVB := Lib.hid hv3
  have HS : Hid (∀ b, (∃ v ∈ vs, v.ownBlock = some b) → w3.heap.size ≤ b) := Lib.hid (fun b ⟨v, hv, hb⟩ => (hv1.lt v hv b hb).1)
  have HROW : Hid (∀ (j : Nat) (v : Value) (l : List Nat), 0 ≤ j → vs[j]? = some v → (bs.map Bk.nx)[j]? = some l → w11.ownsRow w3.heap.size 3 1 v l.length (ints (nats l))) := Lib.hid (fun j v l _ h1 h2 => owns_fr (hv1.own j v l h1 h2) P11.out (by simp))
  have HVL : Hid (vs.length = bs.length) := Lib.hid (by rw [hv1.len, List.length_map])
  clear hv1 hv2 hv3
  go_loopw [9] (fun x wr => ∃ i : Nat, i ≤ bs.length ∧ x = .int .i64 i ∧ Hid (∀ (j : Nat) (v : Value) (l : List Nat), i ≤ j → vs[j]? = some v → (bs.map Bk.nx)[j]? = some l → wr.ownsRow w3.heap.size 3 1 v l.length (ints (nats l))) ∧ Hid (Fr (fun b => ∃ v ∈ vs, v.ownBlock = some b) w11 wr)) (fun x _ => (bs.length - intOf x).toNat)
  case atStart => exact ⟨0, by omega, rfl, HROW, Lib.hid (Fr.refl _ _)⟩
  case round =>
    clear HROW
    obtain ⟨i, hi, rfl, hrow, hfr⟩ := hrel
    by_cases his : i < bs.length
    · have his' : (i : Int) < bs.length := by omega
      have hiv : i < vs.length := by rw [HVL.out]; exact his
      have hbn : (bs.map Bk.nx)[i]? = some bs[i].nx := by rw [List.getElem?_map, List.getElem?_eq_getElem his]; rfl
      have hr := hrow.out i vs[i] bs[i].nx (Nat.le_refl _) (List.getElem?_eq_getElem hiv) hbn
      have hcl := bCells_len bs vs HVL.out
      obtain ⟨b, o, rfl, hc⟩ := Reads.cellsAt (HUR.out.fr hfr.out (fun k hk => by rintro ⟨v, hv, hb⟩; exact HVB.out v hv k hb hk)) (by omega)
      have cu := hc _ _ (bCells_at bs vs i bs[i] vs[i] (List.getElem?_eq_getElem his) (List.getElem?_eq_getElem hiv)).2.2
      rw [← Nat.add_assoc] at cu
      have HOV := Lib.hid (overints_ok wr w3.heap.size vs[i] bs[i].nx.length _ hr)
      have HVI : Hid (∀ (w' : World), Fr (fun k => vs[i].ownBlock = some k) wr w' → (∀ (j : Nat) (v : Value) (l : List Nat), i + 1 ≤ j → vs[j]? = some v → (bs.map Bk.nx)[j]? = some l → w'.ownsRow w3.heap.size 3 1 v l.length (ints (nats l))) ∧ Fr (fun b => ∃ v ∈ vs, v.ownBlock = some b) w11 w') := Lib.hid (fun w' r =>
        ⟨fun j v l hj h1 h2 => owns_fr (hrow.out j v l (by omega) h1 h2) r (fun k hk hk' => HV1.out.apart i j vs[i] v (by omega) (List.getElem?_eq_getElem hiv) h1 k hk' hk), hfr.out.trans (r.mono (fun k hk _ => ⟨vs[i], List.getElem_mem hiv, hk⟩))⟩)
      obtain ⟨va, vc, hve⟩ := owns_shape hr
      rw [hve] at cu HOV HVI
      clear hr hve hrow hfr hc hbn hcl
      generalize bs[i].nx.length = ln at *
      go_wp2_with fail
      refine HOV.out.mono ?_
      rintro e w12 ⟨rfl, r12⟩
      obtain ⟨n1, n2⟩ := HVI.out w12 r12
      have N1 := Lib.hid n1
      have N2 := Lib.hid n2
      clear r12 n1 n2 cu HOV HVI
      go_wp2_with fail
      go_roundw
      case rel => exact ⟨i + 1, by omega, by go_num, N1, N2⟩
      case measure => first | (simp [intOf]; done) | (simp [intOf]; omega)
    · obtain rfl : i = bs.length := by omega
      have Q12 := Lib.hid (Q11.out.trans' hfr.out (fun k hk _ => HS.out k hk))
      clear hrow hfr
      go_wp2_with fail
      refine (HSC.out wr Q12.out).mono ?_
      rintro e w13 ⟨rfl, r13⟩
      have Q13 := Lib.hid (Q12.out.trans r13)
      clear r13
      go_wp2_with fail
      refine (HAW.out _).mono ?_
      rintro e w14 ⟨rfl, r14⟩
      have F := Lib.hid (R3.out.trans (Q13.out.trans r14))
      clear r14
      go_wp2_with fail
      go_ret
      exact ⟨rfl, F.out⟩

theorem blocks10_rd (w : World) (v : Value) {n : Nat} {d : Dt} (h : Rd Tryz.prog w n 22 [v] d) :
    Calls Tryz.prog 4 #[v] w fun e w' => e = .returned (.bool true) ∧ Fr no w w' := by
  obtain ⟨sa, c, is, rfl, h1, h2, h3, h4⟩ := code_of h
  exact blocks10_ok w sa c is h1 h2 h3 h4

end Go.Proofs.YtgofiaodncemiaaGreat

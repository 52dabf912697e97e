/- FlowGoes' walk. -/
import Derived.Test.YtgofiaodncemiaaGreatZc
set_option linter.unusedSimpArgs false
set_option linter.unusedVariables false
set_option linter.unusedSectionVars false
set_option linter.unnecessarySimpa false
namespace Go.Proofs.YtgofiaodncemiaaGreat
open Go.RowKit Go.Flow

attribute [local go_sem] Program.isFuncB Program.isSliceB

variable {w w' w'' w0 : World}

def lsOf (ck : Int) (ls : List (List Nat)) : List (List Nat) := if ck = 0 then ls else []
theorem NextPost.own {ck : Int} {ls : List (List Nat)} {e : Ending} (h : NextPost w ck ls e w') : ∃ u, e = .returned (.tuple #[u, .int .i64 ck]) ∧ NxOwn w' w.heap.size u (lsOf ck ls) ∧ Fr no w w' := by
  obtain ⟨u, h1, h2, h3, h4⟩ := h
  refine ⟨u, h1, ?_, h4⟩
  unfold lsOf
  by_cases hc : ck = 0
  · rw [if_pos hc]; exact h3 hc
  · rw [if_neg hc, h2 hc]
    exact ⟨[], Rows2.nil _ _, World.ownsRow_nil _ _ _ _, fun v hv => by cases hv⟩
theorem lsOf_len (ck : Int) (is : List Ix) (h : is.length ≤ 60) : (lsOf ck (nxs (fis is))).length ≤ 60 := by
  unfold lsOf; split
  · rw [nxs_len]; exact h
  · simp
theorem lsOf_few (ck : Int) (is : List Ix) : ∀ l ∈ lsOf ck (nxs (fis is)), l.length ≤ 2 := by
  intro l hl
  unfold lsOf at hl
  split at hl
  · obtain ⟨k, hk, rfl⟩ := List.getElem_of_mem hl
    simp [nxs]; exact nx_few _ _
  · cases hl
/-- these are what is reached, or there are none -/
structure ObIs (ck : Int) (l : List Fi) (ob : List Bool) : Prop where
  bad : ck ≠ 0 → ob = []
  len : ck = 0 → ob.length = l.length
  all : ck = 0 → ∀ k : Nat, ob[k]? = some true ↔ Flow.Reach (nx l) k
theorem ObIs.one {ck : Int} {l : List Fi} {a b : List Bool} (h : ObIs ck l a) (k : ObIs ck l b) : a = b := by
  by_cases hc : ck = 0
  · exact bool_ext (by rw [h.len hc, k.len hc]) (fun j => (h.all hc j).trans (k.all hc j).symm)
  · rw [h.bad hc, k.bad hc]
theorem ObIs.few {ck : Int} {is : List Ix} {a : List Bool} (h : ObIs ck (fis is) a) (hl : is.length ≤ 60) : a.length ≤ 60 := by
  by_cases hc : ck = 0
  · rw [h.len hc, fis_len]; exact hl
  · rw [h.bad hc]; simp
theorem ReachPost.obs {ck : Int} {l : List Fi} {e : Ending} (h : ReachPost w ck l e w') : ∃ u ob, e = .returned (.tuple #[u, .int .i64 ck]) ∧ Reads w' u 1 ob.length (bools ob) ∧ ObIs ck l ob ∧ Fr no w w' := by
  obtain ⟨u, h1, h2, h3, h4⟩ := h
  by_cases hc : ck = 0
  · obtain ⟨ob, h5, h6, h7⟩ := h3 hc
    exact ⟨u, ob, h1, by rw [h5]; exact h6, ⟨fun e => absurd hc e, fun _ => h5, fun _ => h7⟩, h4⟩
  · refine ⟨u, [], h1, .inl ⟨h2 hc, rfl, rfl⟩, ⟨fun _ => rfl, fun e => absurd e hc, fun e => absurd e hc⟩, h4⟩

set_option maxRecDepth 100000 in
set_option maxHeartbeats 16000000 in
theorem goes10_ok (w : World) (sa : Option Addr) (c : Nat) (is : List Ix) (hin : CodeIn w sa is) (hlen : is.length ≤ maxLen) (hargs : ∀ i ∈ is, i.l.length ≤ maxLen) (hN : ∀ i ∈ is, rng i.N) :
    Calls Tryz.prog 3 #[.slice sa is.length c] w fun e w' => e = .returned (.bool true) ∧ Fr no w w' := by
  have HAW := Lib.hid (fun w1 => awake10_ok w1)
  have HIN := Lib.hid hin
  have HLO := Lib.hid (long10_ok w sa c is hin hlen hargs)
  have HNN := Lib.hid hN
  clear hin hargs hN hlen
  go_enter Tryz.func3, Tryz.ntmps3
  go_wp2_with fail
  refine HLO.out.mono ?_
  rintro e w2 ⟨q, rfl, hq, r2⟩
  have R2 := Lib.hid r2
  have HQ := Lib.hid hq
  clear hq r2 HLO
  cases q
  case true =>
    go_wp2_with fail
    refine (HAW.out _).mono ?_
    rintro e w3 ⟨rfl, r3⟩
    have R3 := Lib.hid (R2.out.trans r3)
    clear r3
    go_wp2_with fail
    go_ret
    exact ⟨rfl, R3.out⟩
  have hl60 := (HQ.out rfl).1
  have HA20 := Lib.hid (HQ.out rfl).2
  have HA1 : Hid (∀ i ∈ is, i.l.length ≤ 1000) := Lib.hid (fun i hi => by have := HA20.out i hi; omega)
  have HCC := Lib.hid (copycode_ok w2 sa c is (HIN.out.fr R2.out) (by omega) (fun i hi => by have := HA20.out i hi; omega))
  clear HQ
  go_wp2_with fail
  refine HCC.out.mono ?_
  rintro e w3 ⟨na, nc, rfl, hcn, r3⟩
  have R3 := Lib.hid (R2.out.trans r3)
  have HL3 := Lib.hid (HIN.out.fr R3.out)
  have HC3 := Lib.hid hcn
  have HX := Lib.hid (fun w1 (r : Fr no w3 w1) => fnext_ok w1 na nc is (HC3.out.fr r) (by omega) HA1.out HNN.out)
  have HRX := Lib.hid (fun w1 (r : Fr no w3 w1) => rnext_ok w1 sa c is (HL3.out.fr r) (by omega) HA1.out)
  have HE := Lib.hid (fun w1 (r : Fr no w3 w1) => freached_ok w1 na nc is (HC3.out.fr r) (by omega) HA1.out HNN.out)
  have HRE := Lib.hid (fun w1 (r : Fr no w3 w1) => rreached_ok w1 sa c is (HL3.out.fr r) (by omega) HA1.out)
  have HK := Lib.hid (fun w1 (r : Fr no w3 w1) => fcheck_ok w1 na nc is (HC3.out.fr r) (by omega) HA1.out HNN.out)
  have HRK := Lib.hid (fun w1 (r : Fr no w3 w1) => rcheck_ok w1 sa c is (HL3.out.fr r) (by omega) HA1.out)
  have HSC := Lib.hid (fun w1 (r : Fr no w3 w1) => samecode_ok w1 na sa nc c is is (HC3.out.fr r) (HL3.out.fr r) (by omega) (fun i hi => by have := HA20.out i hi; omega) (by omega))
  rw [show decide (is = is) = true from decide_eq_true rfl] at HSC
  generalize flowCk is = ck at *
  have e1 : (ck == ck) = true := by simp
  clear hcn r3 HCC R2
  go_wp2_with fail
  refine (HX.out w3 (Fr.refl _ _)).mono ?_
  intro e w4 h
  obtain ⟨ua, rfl, ho4, r4⟩ := h.own
  have hll := lsOf_len ck is hl60
  have HLF := Lib.hid (lsOf_few ck is)
  obtain ⟨ls, hls⟩ : ∃ ls, ls = lsOf ck (nxs (fis is)) := ⟨_, rfl⟩
  have HLS := Lib.hid hls
  rw [← hls] at ho4 hll HLF
  clear hls
  obtain ⟨uaa, uac, rfl⟩ := ho4.nx.shape
  have HO4 := Lib.hid ho4
  have Q4 := Lib.hid r4
  clear h ho4 r4
  go_wp2_with fail
  refine (HRX.out w4 Q4.out).mono ?_
  intro e w5 h
  obtain ⟨ub, rfl, ho5, r5⟩ := h.own
  rw [← HLS.out] at ho5
  obtain ⟨uba, ubc, rfl⟩ := ho5.nx.shape
  have HN5 := Lib.hid ho5.nx
  have Q5 := Lib.hid (Q4.out.trans r5)
  have P5 := Lib.hid r5
  clear h ho5 r5
  go_wp2_with fail
  refine (HE.out w5 Q5.out).mono ?_
  intro e w6 h
  obtain ⟨ur, ob, rfl, hr6, hob, r6⟩ := h.obs
  obtain ⟨ura, urc, rfl⟩ := hr6.shape
  have HR6 := Lib.hid hr6
  have HOB := Lib.hid hob
  have Q6 := Lib.hid (Q5.out.trans r6)
  have P6 := Lib.hid (P5.out.trans r6)
  have HN6 := Lib.hid (HN5.out.fr r6)
  clear h hr6 hob r6 HN5
  go_wp2_with fail
  refine (HRE.out w6 Q6.out).mono ?_
  intro e w7 h
  obtain ⟨us, ob', rfl, hr7, hob7, r7⟩ := h.obs
  obtain rfl := HOB.out.one hob7
  obtain ⟨usa, usc, rfl⟩ := hr7.shape
  have hobl := HOB.out.few hl60
  have HR7 := Lib.hid hr7
  have HR67 := Lib.hid (HR6.out.fr r7 (by simp))
  have Q7 := Lib.hid (Q6.out.trans r7)
  have P7 := Lib.hid (P6.out.trans r7)
  have HN7 := Lib.hid (HN6.out.fr r7)
  have HNA7 := Lib.hid (HO4.out.nx.fr P7.out)
  have HSL := Lib.hid (samelists_ok w7 uaa uba uac ubc ls ls HNA7.out HN7.out (by omega) (fun l hl => by have := HLF.out l hl; omega))
  rw [show decide (ls = ls) = true from decide_eq_true rfl] at HSL
  clear h hr7 hob7 r7 HR6 HN6
  go_wp2_with fail
  refine HSL.out.mono ?_
  rintro e w8 ⟨rfl, r8⟩
  have HSB := Lib.hid (samebools_ok w8 ura usa urc usc ob ob (HR67.out.fr r8 (by simp)) (HR7.out.fr r8 (by simp)) (by omega))
  rw [show decide (ob = ob) = true from decide_eq_true rfl] at HSB
  have Q8 := Lib.hid (Q7.out.trans r8)
  have P8 := Lib.hid (P7.out.trans r8)
  clear r8 HSL
  go_wp2_with fail
  refine HSB.out.mono ?_
  rintro e w9 ⟨rfl, r9⟩
  have Q9 := Lib.hid (Q8.out.trans r9)
  have P9 := Lib.hid (P8.out.trans r9)
  clear r9 HSB
  go_wp2_with fail
  refine (HK.out w9 Q9.out).mono ?_
  rintro e w10 ⟨rfl, r10⟩
  have Q10 := Lib.hid (Q9.out.trans r10)
  have P10 := Lib.hid (P9.out.trans r10)
  clear r10
  go_wp2_with fail
  refine (HRK.out w10 Q10.out).mono ?_
  rintro e w11 ⟨rfl, r11⟩
  have Q11 := Lib.hid (Q10.out.trans r11)
  have P11 := Lib.hid (P10.out.trans r11)
  clear r11
  go_wp2_with fail
  obtain ⟨vs, hv1, hv2, hv3⟩ := HO4.out
  have HV1 := Lib.hid hv1
  have HUR := Lib.hid ((owns_reads hv2).fr P11.out (by simp))
  have HVB := Lib.hid hv3
  have HS : Hid (∀ b, (∃ v ∈ vs, v.ownBlock = some b) → w3.heap.size ≤ b) := Lib.hid (fun b ⟨v, hv, hb⟩ => (hv1.lt v hv b hb).1)
  have HROW : Hid (∀ (j : Nat) (v : Value) (l : List Nat), 0 ≤ j → vs[j]? = some v → ls[j]? = some l → w11.ownsRow w3.heap.size 3 1 v l.length (ints (nats l))) := Lib.hid (fun j v l _ h1 h2 => owns_fr (hv1.own j v l h1 h2) P11.out (by simp))
  have HVL := Lib.hid hv1.len
  clear hv1 hv2 hv3
  go_loopw [13] (fun x wr => ∃ i : Nat, i ≤ ls.length ∧ x = .int .i64 i ∧ Hid (∀ (j : Nat) (v : Value) (l : List Nat), i ≤ j → vs[j]? = some v → ls[j]? = some l → wr.ownsRow w3.heap.size 3 1 v l.length (ints (nats l))) ∧ Hid (Fr (fun b => ∃ v ∈ vs, v.ownBlock = some b) w11 wr)) (fun x _ => (ls.length - intOf x).toNat)
  case atStart => exact ⟨0, by omega, rfl, HROW, Lib.hid (Fr.refl _ _)⟩
  case round =>
    clear HROW
    obtain ⟨i, hi, rfl, hrow, hfr⟩ := hrel
    by_cases his : i < ls.length
    · have his' : (i : Int) < ls.length := by omega
      have hiv : i < vs.length := by rw [HVL.out]; exact his
      have hr := hrow.out i vs[i] ls[i] (Nat.le_refl _) (List.getElem?_eq_getElem hiv) (List.getElem?_eq_getElem his)
      obtain ⟨b, o, rfl, cu⟩ := (HUR.out.fr hfr.out (fun k hk => by rintro ⟨v, hv, hb⟩; exact HVB.out v hv k hb hk)).at1 (k := i) (u := vs[i]) (List.getElem?_eq_getElem hiv)
      have HOV := Lib.hid (overints_ok wr w3.heap.size vs[i] ls[i].length _ hr)
      have HVI : Hid (∀ (w' : World), Fr (fun k => vs[i].ownBlock = some k) wr w' → (∀ (j : Nat) (v : Value) (l : List Nat), i + 1 ≤ j → vs[j]? = some v → ls[j]? = some l → w'.ownsRow w3.heap.size 3 1 v l.length (ints (nats l))) ∧ Fr (fun b => ∃ v ∈ vs, v.ownBlock = some b) w11 w') := Lib.hid (fun w' r =>
        ⟨fun j v l hj h1 h2 => owns_fr (hrow.out j v l (by omega) h1 h2) r (fun k hk hk' => HV1.out.apart i j vs[i] v (by omega) (List.getElem?_eq_getElem hiv) h1 k hk' hk), hfr.out.trans (r.mono (fun k hk _ => ⟨vs[i], List.getElem_mem hiv, hk⟩))⟩)
      obtain ⟨va, vc, hve⟩ := owns_shape hr
      rw [hve] at cu HOV HVI
      clear hr hve hrow hfr
      generalize ls[i].length = ln at *
      go_wp2_with fail
      refine HOV.out.mono ?_
      rintro e w12 ⟨rfl, r12⟩
      obtain ⟨n1, n2⟩ := HVI.out w12 r12
      have N1 := Lib.hid n1
      have N2 := Lib.hid n2
      clear r12 n1 n2 cu HOV HVI
      go_wp2_with fail
      go_roundw
      case rel => exact ⟨i + 1, by omega, by go_num, N1, N2⟩
      case measure => first | (simp [intOf]; done) | (simp [intOf]; omega)
    · obtain rfl : i = ls.length := by omega
      have Q12 := Lib.hid (Q11.out.trans' hfr.out (fun k hk _ => HS.out k hk))
      clear hrow hfr
      go_wp2_with fail
      refine (HSC.out wr Q12.out).mono ?_
      rintro e w13 ⟨rfl, r13⟩
      have Q13 := Lib.hid (Q12.out.trans r13)
      clear r13
      go_wp2_with fail
      refine (HAW.out _).mono ?_
      rintro e w14 ⟨rfl, r14⟩
      have F := Lib.hid (R3.out.trans (Q13.out.trans r14))
      clear r14
      go_wp2_with fail
      go_ret
      exact ⟨rfl, F.out⟩

theorem goes10_rd (w : World) (v : Value) {n : Nat} {d : Dt} (h : Rd Tryz.prog w n 22 [v] d) :
    Calls Tryz.prog 3 #[v] w fun e w' => e = .returned (.bool true) ∧ Fr no w w' := by
  obtain ⟨sa, c, is, rfl, h1, h2, h3, h4⟩ := code_of h
  exact goes10_ok w sa c is h1 h2 h3 h4

end Go.Proofs.YtgofiaodncemiaaGreat

/- The document's Check, next, Next (law10). -/
import Derived.Test.YtofahdjnejodjaaGreatZa
set_option linter.unusedSimpArgs false
set_option linter.unusedVariables false
set_option linter.unusedSectionVars false
set_option linter.unnecessarySimpa false
namespace Go.Proofs.YtofahdjnejodjaaGreat
open Go.RowKit Go.Flow

attribute [local go_sem] Program.isFuncB Program.isSliceB

variable {w w' w'' w0 : World}

theorem atZ_some {l : List Fi} {t : Int} {k : Nat} (h : atO l t = some k) : atZ l t = k := by unfold atZ; rw [h]
theorem atZ_no {l : List Fi} {t : Int} (h : atO l t = none) : atZ l t = -1 := by unfold atZ; rw [h]
theorem code_at {sa : Option Addr} {is : List Ix} (h : CodeIn w sa is) (k : Nat) (hk : k < is.length) : ∃ b o ua uc, sa = some ⟨b, o, none⟩ ∧ InsIn w b (o + k * 6) is[k] (.slice ua is[k].l.length uc) := by
  obtain ⟨b, o, u, rfl, hi⟩ := h k hk
  obtain ⟨ua, uc, rfl⟩ := hi.args.shape
  exact ⟨b, o, ua, uc, rfl, hi⟩

set_option maxRecDepth 100000 in
set_option maxHeartbeats 4000000 in
theorem rcheck_ok (w : World) (sa : Option Addr) (c : Nat) (is : List Ix) (hin : CodeIn w sa is) (hlen : is.length ≤ 1000) (hargs : ∀ i ∈ is, i.l.length ≤ 1000) :
    Calls Tryz.prog 72 #[.slice sa is.length c] w fun e w' => e = .returned (.int .i64 (flowCk is)) ∧ Fr no w w' := by
  have HIN := Lib.hid hin
  have HJ := Lib.hid (refjoin_ok w sa c is hin hlen hargs)
  have HNU := Lib.hid (fun w1 (r : Fr no w w1) => places_ok w1 sa c is (hin.fr r) hlen hargs)
  have HCK : Hid (flowCk is = ck (joinCk is) (fis is)) := Lib.hid rfl
  generalize joinCk is = jj at *
  clear hin hargs
  go_enter Tryz.func72, Tryz.ntmps72
  go_wp2_with fail
  refine HJ.out.mono ?_
  rintro e w1 ⟨v, rfl, -, r1⟩
  have R1 := Lib.hid r1
  have HNU1 := Lib.hid (HNU.out w1 r1)
  clear r1 HJ HNU
  by_cases hj : jj = 0
  case neg =>
    have e1 : (jj != 0) = true := by simpa using hj
    have HR : Hid (flowCk is = jj) := Lib.hid (by rw [HCK.out]; unfold ck; rw [if_pos hj])
    clear hj
    go_wp2_with fail
    go_ret
    exact ⟨by rw [HR.out]; rfl, R1.out⟩
  subst hj
  by_cases h0 : is.length = 0
  case pos =>
    have e2 : ((is.length : Int) == 0) = true := by rw [h0]; rfl
    have HR : Hid (flowCk is = 10) := Lib.hid (by rw [HCK.out]; unfold ck; rw [if_neg (by decide), if_pos (by rw [fis_len]; exact h0)])
    clear h0
    go_wp2_with fail
    go_ret
    exact ⟨by rw [HR.out]; rfl, R1.out⟩
  have e2 : ((is.length : Int) == 0) = false := by simpa using h0
  have hpos : 0 < is.length := by omega
  have H0 := Lib.hid h0
  clear h0
  go_wp2_with fail
  refine HNU1.out.mono ?_
  rintro e w2 ⟨pv, rfl, hp, r2⟩
  obtain ⟨pa, pc, rfl⟩ := owns_shape hp
  have HP := Lib.hid (owns_reads hp)
  have R2 := Lib.hid (R1.out.trans r2)
  clear hp r2 HNU1
  go_wp2_with fail
  go_loopw [6] (fun y wr => ∃ k : Nat, k ≤ is.length ∧ y = .int .i64 k ∧ Hid (∀ j (h : j < is.length), j < k → 0 ≤ tgtI is[j] → atO (fis is) (tgtI is[j]) ≠ none) ∧ Hid (Fr no w2 wr)) (fun y _ => (is.length - intOf y).toNat)
  case atStart => exact ⟨0, by omega, rfl, Lib.hid (fun j _ h => by omega), Lib.hid (Fr.refl _ _)⟩
  case round =>
    obtain ⟨k, hk, rfl, hpre, hfr⟩ := hrel
    by_cases hks : k < is.length
    · have hks' : (k : Int) < is.length := by omega
      obtain ⟨b, of, ua, uc, rfl, hi⟩ := code_at (HIN.out.fr (R2.out.trans hfr.out)) k hks
      obtain ⟨c0, c1, c2, c3, c4, c5⟩ := hi.six
      have HT : Hid (∀ w1 : World, Calls Tryz.prog 97 #[insV is[k].o is[k].A is[k].B is[k].C is[k].N (.slice ua is[k].l.length uc)] w1 fun e w' => e = .returned (.int .i64 (tgtI is[k])) ∧ Fr no w1 w') := Lib.hid (fun w1 => reftarget_ok w1 is[k].o is[k].A is[k].B is[k].C is[k].N (.slice ua is[k].l.length uc))
      have HB : Hid (0 ≤ tgtI is[k] → atO (fis is) (tgtI is[k]) = none → flowCk is = 13) := Lib.hid (fun h1 h2 => by
        rw [HCK.out]
        exact ck_bad _ (by rw [fis_len]; exact H0.out) k (by rw [fis_len]; exact hks) (by rw [fis_at is k hks]; exact h1) (by rw [fis_at is k hks]; exact h2))
      have HPRE : Hid ((0 ≤ tgtI is[k] → atO (fis is) (tgtI is[k]) ≠ none) → ∀ j (h : j < is.length), j < k + 1 → 0 ≤ tgtI is[j] → atO (fis is) (tgtI is[j]) ≠ none) := Lib.hid (fun h j hj hjk h1 => by
        by_cases he : j = k
        · subst he; exact h h1
        · exact hpre.out j hj (by omega) h1)
      generalize tgtI is[k] = t at *
      generalize is[k] = ix at *
      clear hi
      obtain ⟨io, iA, iB, iC, iN, il⟩ := ix
      dsimp only at c0 c1 c2 c3 c4 c5 HT
      unfold insV at HT
      by_cases ht : 0 ≤ t
      · have HAT := Lib.hid (fun w6 (r : Fr no w2 w6) => at_ok w6 pa pc is t (HP.out.fr r (by simp)) hlen)
        cases ha : atO (fis is) t with
        | none =>
          have HR := Lib.hid (HB.out ht ha)
          have HAZ := Lib.hid (atZ_no ha)
          rw [HAZ.out] at HAT
          clear ha
          go_wp2_with fail
          refine (HT.out _).mono ?_
          rintro e w6 ⟨rfl, r6⟩
          have R6 := Lib.hid (hfr.out.trans r6)
          have HAT6 := Lib.hid (HAT.out w6 R6.out)
          clear r6 HAT c0 c1 c2 c3 c4 c5
          go_wp2_with fail
          refine HAT6.out.mono ?_
          rintro e w' ⟨rfl, rfl⟩
          go_wp2_with fail
          go_ret
          exact ⟨by rw [HR.out]; rfl, R2.out.trans R6.out⟩
        | some j =>
          have HP2 := Lib.hid (HPRE.out (fun _ => by rw [ha]; simp))
          have HAZ := Lib.hid (atZ_some ha)
          rw [HAZ.out] at HAT
          clear ha
          go_wp2_with fail
          refine (HT.out _).mono ?_
          rintro e w6 ⟨rfl, r6⟩
          have R6 := Lib.hid (hfr.out.trans r6)
          have HAT6 := Lib.hid (HAT.out w6 R6.out)
          clear r6 HAT c0 c1 c2 c3 c4 c5
          go_wp2_with fail
          refine HAT6.out.mono ?_
          rintro e w' ⟨rfl, rfl⟩
          go_wp2_with fail
          go_roundw
          case rel => exact ⟨k + 1, by omega, by go_num, HP2, R6⟩
          case measure => first | (simp [intOf]; done) | (simp [intOf]; omega)
      · have HP2 := Lib.hid (HPRE.out (fun h => absurd h ht))
        go_wp2_with fail
        refine (HT.out _).mono ?_
        rintro e w6 ⟨rfl, r6⟩
        have R6 := Lib.hid (hfr.out.trans r6)
        clear r6 c0 c1 c2 c3 c4 c5
        go_wp2_with fail
        go_roundw
        case rel => exact ⟨k + 1, by omega, by go_num, HP2, R6⟩
        case measure => first | (simp [intOf]; done) | (simp [intOf]; omega)
    · obtain rfl : k = is.length := by omega
      have HG : Hid (flowCk is = if lastFl (fis is) = true then 10 else 0) := Lib.hid (by
        rw [HCK.out]
        refine ck_good _ (by rw [fis_len]; exact H0.out) (fun k hk h1 => ?_)
        rw [fis_len] at hk
        rw [fis_at is k hk] at h1 ⊢
        exact hpre.out k hk hk h1)
      obtain ⟨n, hn⟩ : ∃ n, n = is.length - 1 := ⟨_, rfl⟩
      have hnl : n < is.length := by omega
      have hn1 : (is.length : Int) - 1 = n := by omega
      obtain ⟨b, of, ua, uc, rfl, hi⟩ := code_at (HIN.out.fr (R2.out.trans hfr.out)) n hnl
      obtain ⟨c0, c1, c2, c3, c4, c5⟩ := hi.six
      have HL : Hid (lastFl (fis is) = fallsI is[n].o) := Lib.hid (by
        unfold lastFl
        rw [fis_len, ← hn, fis_get is n hnl]
        rfl)
      have HF := Lib.hid (fun w1 => reffalls_ok w1 is[n].o is[n].A is[n].B is[n].C is[n].N (.slice ua is[n].l.length uc))
      rw [HL.out] at HG
      generalize fallsI is[n].o = fl at *
      generalize is[n] = ix at *
      clear hi hpre HL hn
      obtain ⟨io, iA, iB, iC, iN, il⟩ := ix
      dsimp only at c0 c1 c2 c3 c4 c5 HF
      unfold insV at HF
      cases fl with
      | true =>
        have HR : Hid (flowCk is = 10) := Lib.hid (by rw [HG.out]; rfl)
        go_wp2_with fail
        refine (HF.out _).mono ?_
        rintro e w6 ⟨rfl, r6⟩
        have R6 := Lib.hid (R2.out.trans (hfr.out.trans r6))
        clear r6
        go_wp2_with fail
        go_ret
        exact ⟨by rw [HR.out]; rfl, R6.out⟩
      | false =>
        have HR : Hid (flowCk is = 0) := Lib.hid (by rw [HG.out]; rfl)
        go_wp2_with fail
        refine (HF.out _).mono ?_
        rintro e w6 ⟨rfl, r6⟩
        have R6 := Lib.hid (R2.out.trans (hfr.out.trans r6))
        clear r6
        go_wp2_with fail
        go_ret
        exact ⟨by rw [HR.out]; rfl, R6.out⟩

theorem nx_two (is : List Ix) (i : Nat) (hi : i < is.length) : nx (fis is) i = two (if (fiOf is[i]).fl then some (i + 1) else none) (atO (fis is) (tgtI is[i])) := by
  unfold nx
  rw [fis_get is i hi]
  dsimp only
  rw [tgO_at]
  rfl

set_option maxRecDepth 100000 in
set_option maxHeartbeats 4000000 in
theorem rnext1_ok (w : World) (sa pa : Option Addr) (c pc : Nat) (is : List Ix) (i : Nat) (hin : CodeIn w sa is) (hp : Reads w (.slice pa is.length pc) 1 is.length (ints (placesOf is))) (hlen : is.length ≤ 1000) (hi : i < is.length) (F : Flows (fis is)) :
    Calls Tryz.prog 74 #[.slice sa is.length c, .slice pa is.length pc, .int .i64 i] w fun e w' => ∃ u, e = .returned u ∧ w'.ownsRow w.heap.size 3 1 u (nx (fis is) i).length (ints (nats (nx (fis is) i))) ∧ Fr no w w' := by
  have HNX := Lib.hid (nx_two is i hi)
  have HIN := Lib.hid hin
  have HAT := Lib.hid (fun t w6 (r : Fr no w w6) => at_ok w6 pa pc is t (hp.fr r (by simp)) hlen)
  have HTG : Hid (0 ≤ tgtI is[i] → ∃ j, atO (fis is) (tgtI is[i]) = some j ∧ j < is.length) := Lib.hid (fun h => by
    have h1 := F.tg _ (List.getElem_mem (by rw [fis_len]; exact hi)) (by rw [fis_at is i hi]; exact h)
    rw [fis_at is i hi] at h1
    cases h2 : atO (fis is) (tgtI is[i]) with
    | none => rw [show (fiOf is[i]).tg = tgtI is[i] from rfl, h2] at h1; cases h1
    | some j => have := (atO_some h2).1; rw [fis_len] at this; exact ⟨j, rfl, this⟩)
  have HNEG : Hid (¬ 0 ≤ tgtI is[i] → atO (fis is) (tgtI is[i]) = none) := Lib.hid (fun h => atO_neg (by omega))
  obtain ⟨b, of, ua, uc, rfl, hii⟩ := code_at hin i hi
  obtain ⟨c0, c1, c2, c3, c4, c5⟩ := hii.six
  have HII := Lib.hid hii
  have HT : Hid (∀ w1 : World, Calls Tryz.prog 97 #[insV is[i].o is[i].A is[i].B is[i].C is[i].N (.slice ua is[i].l.length uc)] w1 fun e w' => e = .returned (.int .i64 (tgtI is[i])) ∧ Fr no w1 w') := Lib.hid (fun w1 => reftarget_ok w1 is[i].o is[i].A is[i].B is[i].C is[i].N (.slice ua is[i].l.length uc))
  have HFA : Hid (∀ w1 : World, Calls Tryz.prog 99 #[insV is[i].o is[i].A is[i].B is[i].C is[i].N (.slice ua is[i].l.length uc)] w1 fun e w' => e = .returned (.bool (fiOf is[i]).fl) ∧ Fr no w1 w') := Lib.hid (fun w1 => reffalls_ok w1 is[i].o is[i].A is[i].B is[i].C is[i].N (.slice ua is[i].l.length uc))
  have hi' : (i : Int) < is.length := by omega
  generalize tgtI is[i] = t at *
  generalize (fiOf is[i]).fl = fl at *
  generalize is[i] = ix at *
  clear hii hin hp
  obtain ⟨io, iA, iB, iC, iN, il⟩ := ix
  dsimp only at c0 c1 c2 c3 c4 c5 HT HFA
  unfold insV at HT HFA
  rw [HNX.out]
  clear HNX
  go_enter Tryz.func74, Tryz.ntmps74
  cases fl
  · -- ends
    go_wp2_with fail
    refine (HFA.out _).mono ?_
    rintro e w2 ⟨rfl, r2⟩
    have R2 := Lib.hid r2
    clear r2 c0 c1 c2 c3 c4 c5 HFA
    have R3 := R2
    clear R2
    generalize w2 = w3 at *
    have HV3 : Hid (w3.ownsRow w.heap.size 3 1 (.slice none 0 0) 0 (ints (nats []))) := Lib.hid (World.ownsRow_nil _ _ _ _)
    obtain ⟨d0, d1, d2, d3, d4, d5⟩ := (HII.out.fr R3.out).six
    dsimp only at d0 d1 d2 d3 d4 d5
    go_wp2_with fail
    refine (HT.out _).mono ?_
    rintro e w4 ⟨rfl, r4⟩
    have HV4 := Lib.hid (owns_fr HV3.out r4 (by simp))
    have R4 := Lib.hid (R3.out.trans r4)
    have HAT4 := Lib.hid (HAT.out t w4 R4.out)
    clear r4 HV3 R3 HAT d0 d1 d2 d3 d4 d5 HT
    by_cases ht : 0 ≤ t
    · obtain ⟨j, ha, hjl⟩ := HTG.out ht
      rw [atZ_some ha] at HAT4
      have HAH := Lib.hid ha
      have ht' : ¬ t < 0 := by omega
      go_wp2_with fail
      refine HAT4.out.mono ?_
      rintro e w' ⟨rfl, rfl⟩
      clear HTG HNEG ha ht HAT4
      go_wp2_with (at_builtin; (refine wpList_append_at rfl (.tmp 41) _ 45 rfl w.heap.size 3 (.int .i64 0) 1 8 Tryz.underlying45 Tryz.infoInt rfl (by decide) _ 0 _ rfl (HV4.out.alloc _) 1 _ (reads_one w4 _ _) int_one (by unfold maxLen; omega) (by omega) (by have := R4.out.size; simp; omega) ?_); intro ga5 gc5 w5 ho5 hg5 hb5)
      have R5 := Lib.hid ((R4.out.alloc (.cells #[.int .i64 j] 3)).trans ((Fr.refl no _).grown hg5 (by intro k hk; cases hk)))
      have HV5 : Hid (w5.ownsRow w.heap.size 3 1 (.slice ga5 1 gc5) 1 (ints (nats [j]))) := Lib.hid (by simpa [ints, nats] using ho5)
      clear ho5 hg5 hb5
      go_ret
      exact ⟨_, rfl, by rw [HAH.out]; exact HV5.out, R5.out⟩
    · have HAH := Lib.hid (HNEG.out (by omega))
      have ht' : t < 0 := by omega
      clear HTG HNEG ht HAT4
      go_wp2_with fail
      go_ret
      exact ⟨_, rfl, by rw [HAH.out]; exact HV4.out, R4.out⟩
  · -- goes on
    go_wp2_with fail
    refine (HFA.out _).mono ?_
    rintro e w2 ⟨rfl, r2⟩
    have R2 := Lib.hid r2
    clear r2 c0 c1 c2 c3 c4 c5 HFA
    go_upto_region 4 with (at_builtin; (refine wpList_append_at rfl (.tmp 15) _ 45 rfl w.heap.size 3 (.int .i64 0) 1 8 Tryz.underlying45 Tryz.infoInt rfl (by decide) _ 0 _ rfl (World.ownsRow_nil _ _ _ _) 1 _ (reads_one w2 _ _) int_one (by unfold maxLen; omega) (by omega) (by have := R2.out.size; simp; omega) ?_); intro ga3 gc3 w3 ho3 hg3 hb3)
    have R3 := Lib.hid ((R2.out.alloc (.cells #[.int .i64 (i + 1)] 3)).trans ((Fr.refl no _).grown hg3 (by intro k hk; cases hk)))
    have HV3 : Hid (w3.ownsRow w.heap.size 3 1 (.slice ga3 1 gc3) 1 (ints (nats [i + 1]))) := Lib.hid (by simpa [ints, nats] using ho3)
    clear ho3 hg3 hb3 R2
    obtain ⟨d0, d1, d2, d3, d4, d5⟩ := (HII.out.fr R3.out).six
    dsimp only at d0 d1 d2 d3 d4 d5
    go_wp2_with fail
    refine (HT.out _).mono ?_
    rintro e w4 ⟨rfl, r4⟩
    have HV4 := Lib.hid (owns_fr HV3.out r4 (by simp))
    have R4 := Lib.hid (R3.out.trans r4)
    have HAT4 := Lib.hid (HAT.out t w4 R4.out)
    clear r4 HV3 R3 HAT d0 d1 d2 d3 d4 d5 HT
    by_cases ht : 0 ≤ t
    · obtain ⟨j, ha, hjl⟩ := HTG.out ht
      rw [atZ_some ha] at HAT4
      have HAH := Lib.hid ha
      have ht' : ¬ t < 0 := by omega
      go_wp2_with fail
      refine HAT4.out.mono ?_
      rintro e w' ⟨rfl, rfl⟩
      clear HTG HNEG ha ht HAT4
      have cv : w4.cell? ⟨0, 0, none⟩ = w4.cell? ⟨0, 0, none⟩ := rfl
      clear cv
      obtain ⟨vb, vo, rfl, cv⟩ := (owns_reads HV4.out).at1 (k := 0) (u := .int .i64 ((i + 1 : Nat) : Int)) (by simp [ints, nats])
      rw [Nat.add_zero] at cv
      rw [show ((i + 1 : Nat) : Int) = (i : Int) + 1 from rfl] at cv
      by_cases hlt : i + 1 < j
      · have hlt' : (i : Int) + 1 < (j : Int) := by omega
        have HLT := Lib.hid hlt
        clear hlt
        go_wp2_with (at_builtin; (refine wpList_append_at rfl (.tmp 41) _ 45 rfl w.heap.size 3 (.int .i64 0) 1 8 Tryz.underlying45 Tryz.infoInt rfl (by decide) _ 1 _ rfl (HV4.out.alloc _) 1 _ (reads_one w4 _ _) int_one (by unfold maxLen; omega) (by omega) (by have := R4.out.size; simp; omega) ?_); intro ga5 gc5 w5 ho5 hg5 hb5)
        have R5 := Lib.hid ((R4.out.alloc (.cells #[.int .i64 j] 3)).trans' ((Fr.refl (fun k => (Value.slice (some ⟨vb, vo, none⟩) 1 gc3).ownBlock = some k) _).grown hg5 (fun k hk => .inl hk)) (fun k hk _ => (HV4.out.lt k hk).1))
        have HV5 : Hid (w5.ownsRow w.heap.size 3 1 (.slice ga5 2 gc5) 2 (ints (nats [i + 1, j]))) := Lib.hid (by simpa [ints, nats] using ho5)
        clear ho5 hg5 hb5
        go_ret
        refine ⟨_, rfl, ?_, R5.out⟩
        rw [HAH.out]
        simp only [two, if_true]
        rw [if_pos HLT.out]
        exact HV5.out
      have hlt' : ¬ (i : Int) + 1 < (j : Int) := by omega
      have HLT := Lib.hid hlt
      clear hlt
      by_cases heq : i + 1 = j
      · have heq' : ((i : Int) + 1 == (j : Int)) = true := by simp; omega
        have HEQ := Lib.hid heq
        clear heq
        go_wp2_with fail
        go_ret
        refine ⟨_, rfl, ?_, R4.out⟩
        rw [HAH.out]
        simp only [two, if_true]
        rw [if_neg HLT.out, if_pos HEQ.out]
        exact HV4.out
      have heq' : ((i : Int) + 1 == (j : Int)) = false := by simp; omega
      have HEQ := Lib.hid heq
      clear heq
      have hj1 := owns_row w4 [.int .i64 (j : Int)] 3 (by simp)
      have HJ1 : Hid ((w4.alloc (.cells #[.int .i64 (j : Int)] 3)).ownsRow w.heap.size 3 1 (.slice (some ⟨w4.heap.size, 0, none⟩) 1 1) 1 [.int .i64 (j : Int)]) := Lib.hid (owns_base hj1 (base' := w.heap.size) (fun k hk => by simp [Value.ownBlock] at hk; have := R4.out.size; omega))
      have hs4 := R4.out.size
      have HVA := Lib.hid (owns_reads (HV4.out.alloc (.cells #[.int .i64 (j : Int)] 3)))
      clear hj1
      go_wp2_with (at_builtin; (refine wpList_append_at rfl (.tmp 52) _ 45 rfl w.heap.size 3 (.int .i64 0) 1 8 Tryz.underlying45 Tryz.infoInt rfl (by decide) _ 1 _ rfl HJ1.out 1 _ HVA.out (ints_one' _) (by unfold maxLen; omega) (by omega) (by simp; omega) ?_); intro ga5 gc5 w5 ho5 hg5 hb5)
      have R5 := Lib.hid ((R4.out.alloc (.cells #[.int .i64 j] 3)).trans' ((Fr.refl (fun k => (Value.slice (some ⟨w4.heap.size, 0, none⟩) 1 1).ownBlock = some k) _).grown hg5 (fun k hk => .inl hk)) (fun k hk _ => by simp [Value.ownBlock] at hk; omega))
      have HV5 : Hid (w5.ownsRow w.heap.size 3 1 (.slice ga5 2 gc5) 2 (ints (nats [j, i + 1]))) := Lib.hid (by simpa [ints, nats] using ho5)
      clear ho5 hg5 hb5
      go_ret
      refine ⟨_, rfl, ?_, R5.out⟩
      rw [HAH.out]
      simp only [two, if_true]
      rw [if_neg HLT.out, if_neg HEQ.out]
      exact HV5.out
    · have HAH := Lib.hid (HNEG.out (by omega))
      have ht' : t < 0 := by omega
      clear HTG HNEG ht HAT4
      go_wp2_with fail
      go_ret
      exact ⟨_, rfl, by rw [HAH.out]; exact HV4.out, R4.out⟩

set_option maxRecDepth 100000 in
set_option maxHeartbeats 4000000 in
theorem rnext_ok (w : World) (sa : Option Addr) (c : Nat) (is : List Ix) (hin : CodeIn w sa is) (hlen : is.length ≤ 1000) (hargs : ∀ i ∈ is, i.l.length ≤ 1000) :
    Calls Tryz.prog 43 #[.slice sa is.length c] w (NextPost w (flowCk is) (nxs (fis is))) := by
  have HIN := Lib.hid hin
  have HC := Lib.hid (rcheck_ok w sa c is hin hlen hargs)
  have HNU := Lib.hid (fun w1 (r : Fr no w w1) => places_ok w1 sa c is (hin.fr r) hlen hargs)
  have HFL : Hid (flowCk is = 0 → Flows (fis is)) := Lib.hid flowCk_flows
  generalize flowCk is = ck at *
  clear hin hargs
  go_enter Tryz.func43, Tryz.ntmps43
  go_wp2_with fail
  refine HC.out.mono ?_
  rintro e w1 ⟨rfl, r1⟩
  have R1 := Lib.hid r1
  have HNU1 := Lib.hid (HNU.out w1 r1)
  clear r1 HC HNU
  by_cases hj : ck = 0
  case neg =>
    have e1 : (ck != 0) = true := by simpa using hj
    have HJ := Lib.hid hj
    clear hj
    go_wp2_with fail
    go_ret2
    exact NextPost.bad HJ.out R1.out
  have HF := Lib.hid (HFL.out hj)
  subst hj
  clear HFL
  go_wp2_with fail
  refine HNU1.out.mono ?_
  rintro e w2 ⟨pv, rfl, hp, r2⟩
  obtain ⟨pa, pc, rfl⟩ := owns_shape hp
  have HP := Lib.hid (owns_reads hp)
  have R2 := Lib.hid (R1.out.trans r2)
  have hs2 := R2.out.size
  clear hp r2 HNU1
  go_wp2_with fail
  go_loopw [6, 7] (fun x y wr => ∃ (k : Nat) (vs : List Value), k ≤ is.length ∧ y = .int .i64 k ∧ Hid (wr.ownsRow w2.heap.size 45 1 x k vs) ∧ Hid (Rows2 wr w.heap.size vs ((nxs (fis is)).take k)) ∧ Hid (∀ v ∈ vs, ∀ b, v.ownBlock = some b → x.ownBlock ≠ some b) ∧ Hid (Fr no w2 wr)) (fun _ y _ => (is.length - intOf y).toNat)
  case atStart => exact ⟨0, [], by omega, rfl, Lib.hid (World.ownsRow_nil _ _ _ _), Lib.hid (Rows2.nil _ _), Lib.hid (by intro v hv; cases hv), Lib.hid (Fr.refl _ _)⟩
  case round =>
    obtain ⟨k, vs, hk, rfl, hown, hrows, hsep, hfr⟩ := hrel
    obtain ⟨xa, xc, rfl⟩ := owns_shape hown.out
    by_cases hks : k < is.length
    · have hks' : (k : Int) < is.length := by omega
      have HC1 := Lib.hid (rnext1_ok wr sa pa c pc is k (HIN.out.fr (R2.out.trans hfr.out)) (HP.out.fr hfr.out (by simp)) hlen hks HF.out)
      have HTK : Hid ((nxs (fis is)).take (k + 1) = (nxs (fis is)).take k ++ [nx (fis is) k]) := Lib.hid (by
        rw [List.take_succ_eq_append_getElem (by rw [nxs_len]; exact hks)]
        simp [nxs])
      generalize nx (fis is) k = nk at *
      go_wp2_with fail
      refine HC1.out.mono ?_
      rintro e w5 ⟨u, rfl, hu, r5⟩
      obtain ⟨ua, uc, rfl⟩ := owns_shape hu
      have HU := Lib.hid hu
      have HO5 := Lib.hid (owns_fr hown.out r5 (by simp))
      have HR5 := Lib.hid (hrows.out.fr r5 (fun v hv b hb => by simp))
      have F5 := Lib.hid (hfr.out.trans r5)
      have hs5 := F5.out.size
      clear hu r5 HC1
      go_wp2_with (at_builtin; (refine wpList_append_at rfl (.tmp 26) _ 54 rfl w2.heap.size 45 (.slice none 0 0) 1 24 Tryz.underlying54 Tryz.infoInts rfl (by decide) _ k _ rfl (HO5.out.alloc _) 1 _ (reads_one w5 _ _) (by intro v hv; simp only [List.mem_singleton] at hv; subst hv; rfl) (by unfold maxLen; omega) (by omega) (by simp; omega) ?_); intro ga gc w7 ho7 hg7 hb7)
      have r7 := ((Fr.refl (fun b => (Value.slice xa k xc).ownBlock = some b) w5).alloc (.cells #[.slice ua nk.length uc] 45)).trans ((Fr.refl (fun b => (Value.slice xa k xc).ownBlock = some b) _).grown hg7 (fun k hk => .inl hk))
      have F7 := Lib.hid (F5.out.trans' r7 (fun b hb _ => (HO5.out.lt b hb).1))
      have HO7 : Hid (w7.ownsRow w2.heap.size 45 1 (.slice ga (k + 1) gc) (k + 1) (vs ++ [.slice ua nk.length uc])) := Lib.hid ho7
      have HR7 : Hid (Rows2 w7 w.heap.size (vs ++ [.slice ua nk.length uc]) ((nxs (fis is)).take (k + 1))) := Lib.hid (by
        rw [HTK.out]
        refine (HR5.out.fr r7 (fun v hv b hb => hsep.out v hv b hb)).snoc (owns_fr HU.out r7 (fun b hb h => by have := (HU.out.lt b hb).1; have := (hown.out.lt b h).2; omega)) (by have := hfr.out.size; omega) (fun v hv b hb => (hrows.out.lt v hv b hb).2))
      have HS7 : Hid (∀ v ∈ vs ++ [Value.slice ua nk.length uc], ∀ b, v.ownBlock = some b → (Value.slice ga (k + 1) gc).ownBlock ≠ some b) := Lib.hid (fun v hv i hi e => by
        rcases List.mem_append.1 hv with hv | hv
        · rcases hb7 i e with h | h
          · exact hsep.out v hv i hi h
          · have := (HR5.out.lt v hv i hi).2; simp at h; omega
        · rw [List.mem_singleton] at hv; subst hv
          have q1 := HU.out.lt i hi
          rcases hb7 i e with h | h
          · have := (hown.out.lt i h).2; omega
          · simp at h; omega)
      clear r7 hg7 hb7 ho7 HO5 HR5 F5 HU
      go_wp2_with fail
      go_roundw
      case rel => exact ⟨k + 1, _, by omega, by go_num, HO7, HR7, HS7, F7⟩
      case measure => first | (simp [intOf]; done) | (simp [intOf]; omega)
    · obtain rfl : k = is.length := by omega
      have HQ : Hid (NxOwn wr w.heap.size (.slice xa is.length xc) (nxs (fis is))) := Lib.hid (by
        have h1 := hrows.out
        rw [List.take_of_length_le (by rw [nxs_len]; exact Nat.le_refl _)] at h1
        refine ⟨vs, h1, ?_, fun v hv b hb e => hsep.out v hv b hb e⟩
        rw [nxs_len]
        exact owns_base hown.out (fun k hk => by have := (hown.out.lt k hk).1; omega))
      have F := Lib.hid (R2.out.trans hfr.out)
      clear hrows hsep hown hfr
      go_wp2_with fail
      go_ret2
      exact NextPost.good HQ.out F.out

end Go.Proofs.YtofahdjnejodjaaGreat

/- flow.numbers, flow.Check. -/
import Derived.Test.YtofahdjnejodjaaGreatFb
set_option linter.unusedSimpArgs false
set_option linter.unusedVariables false
set_option linter.unusedSectionVars false
set_option linter.unnecessarySimpa false
namespace Go.Proofs.YtofahdjnejodjaaGreat
open Go.RowKit Go.Flow

attribute [local go_sem] Program.isFuncB Program.isSliceB

variable {w w' w'' w0 : World}

theorem plc_bound (is : List Ix) (k : Nat) : plc (fis is) k ≤ 28 * k := by
  rw [plc_fis]
  have := bytesOf_len (is.take k)
  rw [List.length_take] at this
  omega

set_option maxRecDepth 100000 in
set_option maxHeartbeats 4000000 in
theorem numbers_ok (w : World) (sa : Option Addr) (c : Nat) (is : List Ix) (hin : CodeIn w sa is) (hlen : is.length ≤ 1000) (hargs : ∀ i ∈ is, i.l.length ≤ 1000) (hck : ∀ i ∈ is, ckOf i = 0) :
    Calls Tryz.prog 56 #[.slice sa is.length c] w fun e w' => e = .returned (.map (some w.heap.size)) ∧ NumMap w' w.heap.size (fis is) ∧ Fr no w w' := by
  have HIN := Lib.hid hin
  have HAR := Lib.hid hargs
  have HPB := Lib.hid (plc_bound is)
  have HNM : Hid (∀ w', w'.ownsMap Tryz.prog 3 (plainElem (H := Unit) Tryz.prog 3) w.heap.size is.length (numD (fis is) is.length) → NumMap w' w.heap.size (fis is)) := Lib.hid (fun w' h => ⟨by rw [fis_len]; exact h, fis_pos hck⟩)
  clear hin hargs hck
  have hmm := @run_makeMap Tryz.prog
  go_enter Tryz.func56, Tryz.ntmps56
  go_wp2_with fail
  go_loopw [4, 10] (fun x y wr => ∃ k : Nat, k ≤ is.length ∧ y = .int .i64 k ∧ x = .int .i64 (plc (fis is) k) ∧ Hid (wr.ownsMap Tryz.prog 3 (plainElem (H := Unit) Tryz.prog 3) w.heap.size k (numD (fis is) k)) ∧ Hid (Fr no w wr)) (fun _ y _ => (is.length - intOf y).toNat)
  case atStart => exact ⟨0, by omega, rfl, rfl, Lib.hid (World.ownsMap_made _ _ _ _), Lib.hid ((Fr.refl _ _).alloc _)⟩
  case round =>
    obtain ⟨k, hk, rfl, rfl, hown, hfr⟩ := hrel
    by_cases hks : k < is.length
    · have hks' : (k : Int) < is.length := by omega
      obtain ⟨b, of, u, rfl, hi0⟩ := HIN.out k hks
      have hi := hi0.fr hfr.out
      obtain ⟨ua, uc, rfl⟩ := hi.args.shape
      obtain ⟨c0, c1, c2, c3, c4, c5⟩ := hi.six
      have hal := HAR.out is[k] (List.getElem_mem _)
      have HLN := Lib.hid (fun w1 (h : Fr no w w1) => length_ok w1 is[k] _ (hi0.args.fr h (by simp)) (by omega))
      have HSN : Hid (plc (fis is) (k + 1) = plc (fis is) k + (encE is[k]).length) := Lib.hid (by rw [plc_succ _ _ (by rw [fis_len]; exact hks), fis_at is k hks]; rfl)
      have HD : Hid (numD (fis is) (k + 1) = (numD (fis is) k).put (.int .i64 (plc (fis is) k)) (.lit (.int .i64 k))) := Lib.hid rfl
      have hpb := HPB.out k
      have hel := encE_len is[k]
      have hlt := hown.out.lt
      generalize plc (fis is) k = pk at *
      generalize (encE is[k]).length = en at *
      generalize is[k] = ix at *
      clear hi hi0
      obtain ⟨io, iA, iB, iC, iN, il⟩ := ix
      dsimp only at c0 c1 c2 c3 c4 c5 hal HLN
      unfold insV at HLN
      have r5 := (Fr.refl no wr).alloc (.cells #[.int .i64 io, .int .i64 iA, .int .i64 iB, .int .i64 iC, .int .i64 iN, .slice ua il.length uc] 47)
      have HI5 := Lib.hid (heap_new wr (.cells #[.int .i64 io, .int .i64 iA, .int .i64 iB, .int .i64 iC, .int .i64 iN, .slice ua il.length uc] 47))
      have HOM := Lib.hid (ownsMap_fr hown.out r5 (by simp))
      have R5 := Lib.hid (hfr.out.trans r5)
      have hkey := Lib.hid (Maps.keyOf_int_mk Tryz.underlying3 (a := (pk : Int)) (WalkArith.wf_i64 (by omega)))
      have hval := Lib.hid (plainElem_int (H := Unit) Tryz.underlying3 (a := (k : Int)) (WalkArith.wf_i64 (by omega)))
      clear r5
      go_upto_region 6 with (at_mapUpdate; (refine wpList_mapUpdate_own _ rfl _ _ _ 84 rfl 3 3 keyed Tryz.underlying84 _ w.heap.size k _ rfl HOM.out (by unfold maxLen; omega) _ _ _ rfl rfl hkey.out _ [] hval.out ?_); intro w6 hown6 hg6)
      have g6 := (Fr.refl (only [w.heap.size]) _).grown hg6 (fun j hj => by cases hj; exact .inl (by simp))
      have R6 := Lib.hid (R5.out.trans' g6 (fun i hi _ => by simp at hi; omega))
      have HI6 := Lib.hid (g6.heap HI5.out (by simp; omega))
      have HOM6 : Hid (w6.ownsMap Tryz.prog 3 (plainElem (H := Unit) Tryz.prog 3) w.heap.size (k + 1) (numD (fis is) (k + 1))) := Lib.hid (by rw [HD.out]; exact hown6)
      have HLN6 := Lib.hid (HLN.out w6 R6.out)
      clear hown6 hg6 g6 c0 c1 c2 c3 c4 c5 HLN HI5 HOM R5
      obtain ⟨e0, e1, e2, e3, e4, e5⟩ := cells6 HI6.out
      go_wp2_with fail
      refine HLN6.out.mono ?_
      rintro e w7 ⟨rfl, r7⟩
      have R7 := Lib.hid (R6.out.trans r7)
      have HOM7 := Lib.hid (ownsMap_fr HOM6.out r7 (by simp))
      clear r7 e0 e1 e2 e3 e4 e5 HI6 HOM6
      go_wp2_with fail
      go_roundw
      case rel => exact ⟨k + 1, by omega, by go_num, by rw [HSN.out]; go_num, HOM7, R7⟩
      case measure => first | (simp [intOf]; done) | (simp [intOf]; omega)
    · obtain rfl : k = is.length := by omega
      have HQ := Lib.hid (HNM.out _ hown.out)
      clear hown HNM HPB
      go_wp2_with fail
      go_ret
      exact ⟨rfl, HQ.out, hfr.out⟩

theorem ck_bad (l : List Fi) (h0 : l.length ≠ 0) (k : Nat) (hk : k < l.length) (ht : 0 ≤ l[k].tg) (hn : atO l l[k].tg = none) : ck 0 l = 13 := by
  unfold ck
  rw [if_neg (by decide), if_neg h0, if_pos]
  exact List.any_eq_true.2 ⟨l[k], List.getElem_mem _, by simp [ht, hn]⟩
theorem ck_good (l : List Fi) (h0 : l.length ≠ 0) (h : ∀ k (hk : k < l.length), 0 ≤ l[k].tg → atO l l[k].tg ≠ none) : ck 0 l = if lastFl l = true then 10 else 0 := by
  unfold ck
  rw [if_neg (by decide), if_neg h0, if_neg]
  intro hb
  obtain ⟨i, hi, h1⟩ := List.any_eq_true.1 hb
  obtain ⟨k, hk, rfl⟩ := List.getElem_of_mem hi
  rw [Bool.and_eq_true] at h1
  exact h k hk (of_decide_eq_true h1.1) (by simpa using h1.2)

set_option maxRecDepth 100000 in
set_option maxHeartbeats 4000000 in
theorem fcheck_ok (w : World) (sa : Option Addr) (c : Nat) (is : List Ix) (hin : CodeIn w sa is) (hlen : is.length ≤ 1000) (hargs : ∀ i ∈ is, i.l.length ≤ 1000) (hN : ∀ i ∈ is, rng i.N) :
    Calls Tryz.prog 55 #[.slice sa is.length c] w fun e w' => e = .returned (.int .i64 (flowCk is)) ∧ Fr no w w' := by
  have HIN := Lib.hid hin
  have HRN := Lib.hid (fun i (hi : i ∈ is) => show rng (tgtI i) from by unfold tgtI; split; exact hN i hi; unfold rng; omega)
  have HJ := Lib.hid (join_ok w sa c is hin hlen hargs)
  have HNU := Lib.hid (fun w1 (r : Fr no w w1) (h : joinCk is = 0) => numbers_ok w1 sa c is (hin.fr r) hlen hargs (joinCk_zero is h).1)
  have HCK : Hid (flowCk is = ck (joinCk is) (fis is)) := Lib.hid rfl
  generalize joinCk is = jj at *
  clear hin hargs hN
  go_enter Tryz.func55, Tryz.ntmps55
  go_wp2_with fail
  refine HJ.out.mono ?_
  rintro e w1 ⟨v, rfl, -, r1⟩
  have R1 := Lib.hid r1
  clear r1 HJ
  by_cases hj : jj = 0
  case neg =>
    have e1 : (jj != 0) = true := by simpa using hj
    have HR : Hid (flowCk is = jj) := Lib.hid (by rw [HCK.out]; unfold ck; rw [if_pos hj])
    clear hj
    go_wp2_with fail
    go_ret
    exact ⟨by rw [HR.out]; rfl, R1.out⟩
  have HNU1 := Lib.hid (HNU.out w1 R1.out hj)
  subst hj
  clear HNU
  by_cases h0 : is.length = 0
  case pos =>
    have e2 : ((is.length : Int) == 0) = true := by rw [h0]; rfl
    have HR : Hid (flowCk is = 10) := Lib.hid (by rw [HCK.out]; unfold ck; rw [if_neg (by decide), if_pos (by rw [fis_len]; exact h0)])
    clear h0
    go_wp2_with fail
    go_ret
    exact ⟨by rw [HR.out]; rfl, R1.out⟩
  have e2 : ((is.length : Int) == 0) = false := by simpa using h0
  have hpos : 0 < is.length := by omega
  have H0 := Lib.hid h0
  clear h0
  go_wp2_with fail
  refine HNU1.out.mono ?_
  rintro e w2 ⟨rfl, hm, r2⟩
  have HM := Lib.hid hm
  have R2 := Lib.hid (R1.out.trans r2)
  have hb2 := HM.out.own.lt
  clear hm r2 HNU1
  go_wp2_with fail
  go_loopw [26] (fun y wr => ∃ k : Nat, k ≤ is.length ∧ y = .int .i64 k ∧ Hid (∀ j (h : j < is.length), j < k → 0 ≤ tgtI is[j] → atO (fis is) (tgtI is[j]) ≠ none) ∧ Hid (NumMap wr w1.heap.size (fis is)) ∧ Hid (Fr no w wr)) (fun y _ => (is.length - intOf y).toNat)
  case atStart => exact ⟨0, by omega, rfl, Lib.hid (fun j _ h => by omega), HM, R2⟩
  case round =>
    obtain ⟨k, hk, rfl, hpre, hown, hfr⟩ := hrel
    by_cases hks : k < is.length
    · have hks' : (k : Int) < is.length := by omega
      obtain ⟨b, of, u, rfl, hi⟩ := HIN.out.fr hfr.out k hks
      obtain ⟨ua, uc, rfl⟩ := hi.args.shape
      obtain ⟨c0, c1, c2, c3, c4, c5⟩ := hi.six
      have HT : Hid (∀ w1 : World, Calls Tryz.prog 58 #[insV is[k].o is[k].A is[k].B is[k].C is[k].N (.slice ua is[k].l.length uc)] w1 fun e w' => e = .returned (.int .i64 (tgtI is[k])) ∧ Fr no w1 w') := Lib.hid (fun w1 => target_ok w1 is[k].o is[k].A is[k].B is[k].C is[k].N (.slice ua is[k].l.length uc))
      have HRT := Lib.hid (HRN.out is[k] (List.getElem_mem _))
      have HB : Hid (0 ≤ tgtI is[k] → atO (fis is) (tgtI is[k]) = none → flowCk is = 13) := Lib.hid (fun h1 h2 => by
        rw [HCK.out]
        exact ck_bad _ (by rw [fis_len]; exact H0.out) k (by rw [fis_len]; exact hks) (by rw [fis_at is k hks]; exact h1) (by rw [fis_at is k hks]; exact h2))
      have HP : Hid ((0 ≤ tgtI is[k] → atO (fis is) (tgtI is[k]) ≠ none) → ∀ j (h : j < is.length), j < k + 1 → 0 ≤ tgtI is[j] → atO (fis is) (tgtI is[j]) ≠ none) := Lib.hid (fun h j hj hjk h1 => by
        by_cases he : j = k
        · subst he; exact h h1
        · exact hpre.out j hj (by omega) h1)
      generalize tgtI is[k] = t at *
      generalize is[k] = ix at *
      clear hi
      obtain ⟨io, iA, iB, iC, iN, il⟩ := ix
      dsimp only at c0 c1 c2 c3 c4 c5 HT
      unfold insV at HT
      have r5 := (Fr.refl no wr).alloc (.cells #[.int .i64 io, .int .i64 iA, .int .i64 iB, .int .i64 iC, .int .i64 iN, .slice ua il.length uc] 47)
      have R5 := Lib.hid (hfr.out.trans r5)
      have HM5 := Lib.hid (hown.out.fr r5 (by simp))
      clear r5
      by_cases ht : 0 ≤ t
      · go_wp2_with fail
        refine (HT.out _).mono ?_
        rintro e w6 ⟨rfl, r6⟩
        have R6 := Lib.hid (R5.out.trans r6)
        have HM6 := Lib.hid (HM5.out.fr r6 (by simp))
        have L := (num_run w6 w1.heap.size (fis is) HM6.out t HRT.out).1
        clear r6 R5 HM5 c0 c1 c2 c3 c4 c5
        cases ha : atO (fis is) t with
        | none =>
          have HR := Lib.hid (HB.out ht ha)
          rw [ha] at L
          dsimp only [Option.getD, Option.isSome] at L
          clear ha
          go_wp2_with fail
          go_ret
          exact ⟨by rw [HR.out]; rfl, R6.out⟩
        | some j =>
          have HP2 := Lib.hid (HP.out (fun _ => by rw [ha]; simp))
          rw [ha] at L
          dsimp only [Option.getD, Option.isSome] at L
          clear ha
          go_wp2_with fail
          go_roundw
          case rel => exact ⟨k + 1, by omega, by go_num, HP2, HM6, R6⟩
          case measure => first | (simp [intOf]; done) | (simp [intOf]; omega)
      · have HP2 := Lib.hid (HP.out (fun h => absurd h ht))
        go_wp2_with fail
        refine (HT.out _).mono ?_
        rintro e w6 ⟨rfl, r6⟩
        have R6 := Lib.hid (R5.out.trans r6)
        have HM6 := Lib.hid (HM5.out.fr r6 (by simp))
        clear r6 R5 HM5 c0 c1 c2 c3 c4 c5
        go_wp2_with fail
        go_roundw
        case rel => exact ⟨k + 1, by omega, by go_num, HP2, HM6, R6⟩
        case measure => first | (simp [intOf]; done) | (simp [intOf]; omega)
    · obtain rfl : k = is.length := by omega
      have HG : Hid (flowCk is = if lastFl (fis is) = true then 10 else 0) := Lib.hid (by
        rw [HCK.out]
        refine ck_good _ (by rw [fis_len]; exact H0.out) (fun k hk h1 => ?_)
        rw [fis_len] at hk
        rw [fis_at is k hk] at h1 ⊢
        exact hpre.out k hk hk h1)
      obtain ⟨n, hn⟩ : ∃ n, n = is.length - 1 := ⟨_, rfl⟩
      have hnl : n < is.length := by omega
      have hn1 : (is.length : Int) - 1 = n := by omega
      obtain ⟨b, of, u, rfl, hi⟩ := HIN.out.fr hfr.out n hnl
      obtain ⟨ua, uc, rfl⟩ := hi.args.shape
      obtain ⟨c0, c1, c2, c3, c4, c5⟩ := hi.six
      have HL : Hid (lastFl (fis is) = fallsI is[n].o) := Lib.hid (by
        unfold lastFl
        rw [fis_len, ← hn, fis_get is n hnl]
        rfl)
      have HF := Lib.hid (fun w1 => falls_ok w1 is[n].o is[n].A is[n].B is[n].C is[n].N (.slice ua is[n].l.length uc))
      rw [HL.out] at HG
      generalize fallsI is[n].o = fl at *
      generalize is[n] = ix at *
      clear hi hpre HL hn
      obtain ⟨io, iA, iB, iC, iN, il⟩ := ix
      dsimp only at c0 c1 c2 c3 c4 c5 HF
      unfold insV at HF
      cases fl with
      | true =>
        have HR : Hid (flowCk is = 10) := Lib.hid (by rw [HG.out]; rfl)
        go_wp2_with fail
        refine (HF.out _).mono ?_
        rintro e w6 ⟨rfl, r6⟩
        have R6 := Lib.hid (hfr.out.trans r6)
        clear r6
        go_wp2_with fail
        go_ret
        exact ⟨by rw [HR.out]; rfl, R6.out⟩
      | false =>
        have HR : Hid (flowCk is = 0) := Lib.hid (by rw [HG.out]; rfl)
        go_wp2_with fail
        refine (HF.out _).mono ?_
        rintro e w6 ⟨rfl, r6⟩
        have R6 := Lib.hid (hfr.out.trans r6)
        clear r6
        go_wp2_with fail
        go_ret
        exact ⟨by rw [HR.out]; rfl, R6.out⟩

end Go.Proofs.YtofahdjnejodjaaGreat

/- module.Get's reader: head. -/
import Derived.Test.YtdngflhfhmnipaaGreatM11
set_option linter.unusedSimpArgs false
set_option linter.unusedVariables false
set_option linter.unusedSectionVars false
set_option linter.unnecessarySimpa false
namespace Go.Proofs.YtdngflhfhmnipaaGreat
open Go.RowKit

attribute [local go_sem] Program.isFuncB Program.isSliceB

variable {w w' w'' w0 : World}

def markL : List Nat := [84, 87, 1]
def badH (bs : List Nat) (k : Nat) : Bool := (List.range k).any fun i => decide (i < bs.length) && (bs.getD i 0 != markL.getD i 0)
def headS (bs : List Nat) (k : Nat) : Pl := if badH bs k then ⟨0, 10, 0⟩ else ⟨0, 0, 0⟩
def headP (bs : List Nat) : Pl := (takeP bs 3 (headS bs 3)).2
theorem badH_succ (bs : List Nat) (k : Nat) : badH bs (k + 1) = (badH bs k || (decide (k < bs.length) && (bs.getD k 0 != markL.getD k 0))) := by
  unfold badH
  rw [List.range_succ, List.any_append]
  simp
theorem headS_same (bs : List Nat) (k : Nat) (h : (decide (k < bs.length) && (bs.getD k 0 != markL.getD k 0)) = false) : headS bs (k + 1) = headS bs k := by
  unfold headS
  rw [badH_succ, h, Bool.or_false]
theorem headS_bad (bs : List Nat) (k : Nat) (h : (decide (k < bs.length) && (bs.getD k 0 != markL.getD k 0)) = true) : headS bs (k + 1) = failP (headS bs k) 10 0 := by
  unfold headS
  rw [badH_succ, h, Bool.or_true, if_pos rfl]
  cases badH bs k <;> rfl

set_option maxRecDepth 100000 in
set_option maxHeartbeats 8000000 in
theorem head_ok (w : World) (rb pb : Nat) (bv dv fv : Value) (bs : List Nat) (hr : w.heap[rb]? = some (.cells #[.pointer (some ⟨pb, 0, none⟩), dv, fv] 68 (0, 0)))
    (hp : PlAt w pb bv bs ⟨0, 0, 0⟩) (hlt : ∀ b ∈ bs, b < 256) (hbl : bs.length ≤ 100000) :
    Calls Tryz.prog 37 #[.pointer (some ⟨rb, 0, none⟩)] w fun e w' => e = .returned (.pointer (some ⟨rb, 0, none⟩)) ∧ PlAt w' pb bv bs (headP bs) ∧ Fr (only [pb]) w w' := by
  have NRP := Lib.hid (block_ne hr hp.obj (by decide))
  obtain ⟨va, vc, rfl⟩ := hp.bytes.shape
  have HR := Lib.hid hr
  have HP := Lib.hid hp
  have HLT := Lib.hid hlt
  have HH : Hid (headP bs = (takeP bs 3 (headS bs 3)).2) := Lib.hid rfl
  have H0 : Hid (headS bs 0 = ⟨0, 0, 0⟩) := Lib.hid rfl
  have HSS := Lib.hid (headS_same bs)
  have HSB := Lib.hid (headS_bad bs)
  generalize headP bs = hd at *
  clear hr hp hlt
  go_enter Tryz.func37, Tryz.ntmps37
  go_wp2_with fail
  go_loopw [4] (fun x wr => ∃ k : Nat, k ≤ 3 ∧ x = .int .i64 k ∧ Hid (PlAt wr pb (.slice va bs.length vc) bs (headS bs k)) ∧ Hid (Fr (only [pb]) w wr)) (fun x _ => (3 - intOf x).toNat)
  case atStart => exact ⟨0, by omega, rfl, Lib.hid (by rw [H0.out]; exact HP.out), Lib.hid (Fr.refl _ _)⟩
  case round =>
    obtain ⟨k, hk, rfl, hpl, hfr⟩ := hrel
    have c0 : wr.cell? ⟨rb, 0, none⟩ = some (.pointer (some ⟨pb, 0, none⟩)) := cell_of_heap (hfr.out.heap HR.out (by simpa using NRP.out)) rfl
    have d0 : wr.cell? ⟨pb, 0, none⟩ = some (.slice va bs.length vc) := cell_of_heap hpl.out.obj rfl
    by_cases hk3 : k < 3
    · by_cases hkl : k < bs.length
      · obtain ⟨pb', po, rfl, hc⟩ := reads_u8 hpl.out.bytes hkl
        have hkl' : (k : Int) < bs.length := by omega
        have hg : bs.getD k 0 = bs[k] := by simp [hkl]
        have FA := Lib.hid (fun w1 (h : PlAt w1 pb (.slice (some ⟨pb', po, none⟩) bs.length vc) bs (headS bs k)) => fail_ok w1 pb _ bs (headS bs k) 10 0 h)
        have HS1 : Hid (bs[k] = markL.getD k 0 → headS bs (k + 1) = headS bs k) := Lib.hid (fun h => HSS.out k (by rw [hg, h]; simp))
        have HS2 : Hid (bs[k] ≠ markL.getD k 0 → headS bs (k + 1) = failP (headS bs k) 10 0) := Lib.hid (fun h => HSB.out k (by rw [hg]; simp [hkl]; exact h))
        generalize headS bs k = hs at *
        generalize bs[k] = x at *
        clear hg
        by_cases hx : x = markL.getD k 0
        · have HSX := Lib.hid (HS1.out hx)
          subst hx
          clear HS1 HS2 hkl'
          obtain rfl | rfl | rfl : k = 0 ∨ k = 1 ∨ k = 2 := by omega
          · have hq : (0 : Int) < bs.length := by omega
            have hq2 : 0 < bs.length := by omega
            have hc2 : wr.cell? ⟨pb', po, none⟩ = some (.int .u8 84) := hc
            go_upto_region 4 with fail
            refine Lex.region [] [25] (by kernel_rfl) (by kernel_rfl) ?_
            refine Lex.opens (fun w' => w'.cell? ⟨rb, 0, none⟩ = some (.pointer (some ⟨pb, 0, none⟩)) ∧ w'.cell? ⟨pb, 0, none⟩ = some (.slice (some ⟨pb', po, none⟩) bs.length vc) ∧ w'.cell? ⟨pb', po, none⟩ = some (.int .u8 84)) (⟨c0, d0, hc2⟩) ?_
            repeat (first
              | (refine Lex.skips (by rfl) ?_; (try simp only [Act.put, List.setIfInBounds_toArray, List.set_cons_zero, List.set_cons_succ]))
              | (refine Lex.quiet (v := ?_) (by rfl) (by rfl) ?_ ?_; rotate_left; (focus (intro w' hS'; go_simp; try rfl)); (try simp only [Act.put, List.setIfInBounds_toArray, List.set_cons_zero, List.set_cons_succ])))
            refine Lex.done ?_
            refine Lex.ends ?_
            go_wp2_with fail
            all_goals go_roundw
            all_goals first | exact ⟨1, by omega, by go_num, Lib.hid (by rw [HSX.out]; exact hpl.out.fn (Fr.refl no wr).drew), Lib.hid hfr.out.drew⟩ | (simp [intOf]; done) | (simp [intOf]; omega)
          · have hq : (1 : Int) < bs.length := by omega
            have hq2 : 1 < bs.length := by omega
            have hc2 : wr.cell? ⟨pb', po + 1, none⟩ = some (.int .u8 87) := hc
            go_upto_region 4 with fail
            refine Lex.region [] [25] (by kernel_rfl) (by kernel_rfl) ?_
            refine Lex.opens (fun w' => w'.cell? ⟨rb, 0, none⟩ = some (.pointer (some ⟨pb, 0, none⟩)) ∧ w'.cell? ⟨pb, 0, none⟩ = some (.slice (some ⟨pb', po, none⟩) bs.length vc) ∧ w'.cell? ⟨pb', po + 1, none⟩ = some (.int .u8 87)) (⟨c0, d0, hc2⟩) ?_
            repeat (first
              | (refine Lex.skips (by rfl) ?_; (try simp only [Act.put, List.setIfInBounds_toArray, List.set_cons_zero, List.set_cons_succ]))
              | (refine Lex.quiet (v := ?_) (by rfl) (by rfl) ?_ ?_; rotate_left; (focus (intro w' hS'; go_simp; try rfl)); (try simp only [Act.put, List.setIfInBounds_toArray, List.set_cons_zero, List.set_cons_succ])))
            refine Lex.done ?_
            refine Lex.ends ?_
            go_wp2_with fail
            all_goals go_roundw
            all_goals first | exact ⟨2, by omega, by go_num, Lib.hid (by rw [HSX.out]; exact hpl.out.fn (Fr.refl no wr).drew), Lib.hid hfr.out.drew⟩ | (simp [intOf]; done) | (simp [intOf]; omega)
          · have hq : (2 : Int) < bs.length := by omega
            have hq2 : 2 < bs.length := by omega
            have hc2 : wr.cell? ⟨pb', po + 2, none⟩ = some (.int .u8 1) := hc
            go_upto_region 4 with fail
            refine Lex.region [] [25] (by kernel_rfl) (by kernel_rfl) ?_
            refine Lex.opens (fun w' => w'.cell? ⟨rb, 0, none⟩ = some (.pointer (some ⟨pb, 0, none⟩)) ∧ w'.cell? ⟨pb, 0, none⟩ = some (.slice (some ⟨pb', po, none⟩) bs.length vc) ∧ w'.cell? ⟨pb', po + 2, none⟩ = some (.int .u8 1)) (⟨c0, d0, hc2⟩) ?_
            repeat (first
              | (refine Lex.skips (by rfl) ?_; (try simp only [Act.put, List.setIfInBounds_toArray, List.set_cons_zero, List.set_cons_succ]))
              | (refine Lex.quiet (v := ?_) (by rfl) (by rfl) ?_ ?_; rotate_left; (focus (intro w' hS'; go_simp; try rfl)); (try simp only [Act.put, List.setIfInBounds_toArray, List.set_cons_zero, List.set_cons_succ])))
            refine Lex.done ?_
            refine Lex.ends ?_
            go_wp2_with fail
            all_goals go_roundw
            all_goals first | exact ⟨3, by omega, by go_num, Lib.hid (by rw [HSX.out]; exact hpl.out.fn (Fr.refl no wr).drew), Lib.hid hfr.out.drew⟩ | (simp [intOf]; done) | (simp [intOf]; omega)
        · have HSX := Lib.hid (HS2.out hx)
          clear HS1 HS2 hkl'
          obtain rfl | rfl | rfl : k = 0 ∨ k = 1 ∨ k = 2 := by omega
          · have hq : (0 : Int) < bs.length := by omega
            have hq2 : 0 < bs.length := by omega
            have hx2 : x ≠ 84 := hx
            have hb : ((x : Int) != 84) = true := by rw [bne_iff_ne]; omega
            have hb4 : ((x : Int) != (((⟨#[84, 87, 1]⟩ : ByteArray)[0]'(by decide)).toNat : Int)) = true := hb
            have hc2 : wr.cell? ⟨pb', po, none⟩ = some (.int .u8 x) := hc
            go_upto_region 4 with fail
            refine Lex.region [] [25] (by kernel_rfl) (by kernel_rfl) ?_
            refine Lex.opens (fun w' => w'.cell? ⟨rb, 0, none⟩ = some (.pointer (some ⟨pb, 0, none⟩)) ∧ w'.cell? ⟨pb, 0, none⟩ = some (.slice (some ⟨pb', po, none⟩) bs.length vc) ∧ w'.cell? ⟨pb', po, none⟩ = some (.int .u8 x)) (⟨c0, d0, hc2⟩) ?_
            repeat (first
              | (refine Lex.skips (by rfl) ?_; (try simp only [Act.put, List.setIfInBounds_toArray, List.set_cons_zero, List.set_cons_succ]))
              | (refine Lex.quiet (v := ?_) (by rfl) (by rfl) ?_ ?_; rotate_left; (focus (intro w' hS'; go_simp; try rfl)); (try simp only [Act.put, List.setIfInBounds_toArray, List.set_cons_zero, List.set_cons_succ])))
            refine Lex.done ?_
            refine Lex.ends ?_
            go_wp2_with fail
            refine (FA.out _ (hpl.out.fn (Fr.refl no wr).drew)).mono ?_
            rintro e w5 ⟨rfl, hp5, r5⟩
            rw [← HSX.out] at hp5
            have HP5 := Lib.hid hp5
            have R5 := Lib.hid ((hfr.out.drew).trans r5)
            clear hp5 r5 c0 d0 hc hc2
            go_wp2_with fail
            go_roundw
            case rel => exact ⟨1, by omega, by go_num, HP5, R5⟩
            case measure => first | (simp [intOf]; done) | (simp [intOf]; omega)
          · have hq : (1 : Int) < bs.length := by omega
            have hq2 : 1 < bs.length := by omega
            have hx2 : x ≠ 87 := hx
            have hb : ((x : Int) != 87) = true := by rw [bne_iff_ne]; omega
            have hb4 : ((x : Int) != (((⟨#[84, 87, 1]⟩ : ByteArray)[1]'(by decide)).toNat : Int)) = true := hb
            have hc2 : wr.cell? ⟨pb', po + 1, none⟩ = some (.int .u8 x) := hc
            go_upto_region 4 with fail
            refine Lex.region [] [25] (by kernel_rfl) (by kernel_rfl) ?_
            refine Lex.opens (fun w' => w'.cell? ⟨rb, 0, none⟩ = some (.pointer (some ⟨pb, 0, none⟩)) ∧ w'.cell? ⟨pb, 0, none⟩ = some (.slice (some ⟨pb', po, none⟩) bs.length vc) ∧ w'.cell? ⟨pb', po + 1, none⟩ = some (.int .u8 x)) (⟨c0, d0, hc2⟩) ?_
            repeat (first
              | (refine Lex.skips (by rfl) ?_; (try simp only [Act.put, List.setIfInBounds_toArray, List.set_cons_zero, List.set_cons_succ]))
              | (refine Lex.quiet (v := ?_) (by rfl) (by rfl) ?_ ?_; rotate_left; (focus (intro w' hS'; go_simp; try rfl)); (try simp only [Act.put, List.setIfInBounds_toArray, List.set_cons_zero, List.set_cons_succ])))
            refine Lex.done ?_
            refine Lex.ends ?_
            go_wp2_with fail
            refine (FA.out _ (hpl.out.fn (Fr.refl no wr).drew)).mono ?_
            rintro e w5 ⟨rfl, hp5, r5⟩
            rw [← HSX.out] at hp5
            have HP5 := Lib.hid hp5
            have R5 := Lib.hid ((hfr.out.drew).trans r5)
            clear hp5 r5 c0 d0 hc hc2
            go_wp2_with fail
            go_roundw
            case rel => exact ⟨2, by omega, by go_num, HP5, R5⟩
            case measure => first | (simp [intOf]; done) | (simp [intOf]; omega)
          · have hq : (2 : Int) < bs.length := by omega
            have hq2 : 2 < bs.length := by omega
            have hx2 : x ≠ 1 := hx
            have hb : ((x : Int) != 1) = true := by rw [bne_iff_ne]; omega
            have hb4 : ((x : Int) != (((⟨#[84, 87, 1]⟩ : ByteArray)[2]'(by decide)).toNat : Int)) = true := hb
            have hc2 : wr.cell? ⟨pb', po + 2, none⟩ = some (.int .u8 x) := hc
            go_upto_region 4 with fail
            refine Lex.region [] [25] (by kernel_rfl) (by kernel_rfl) ?_
            refine Lex.opens (fun w' => w'.cell? ⟨rb, 0, none⟩ = some (.pointer (some ⟨pb, 0, none⟩)) ∧ w'.cell? ⟨pb, 0, none⟩ = some (.slice (some ⟨pb', po, none⟩) bs.length vc) ∧ w'.cell? ⟨pb', po + 2, none⟩ = some (.int .u8 x)) (⟨c0, d0, hc2⟩) ?_
            repeat (first
              | (refine Lex.skips (by rfl) ?_; (try simp only [Act.put, List.setIfInBounds_toArray, List.set_cons_zero, List.set_cons_succ]))
              | (refine Lex.quiet (v := ?_) (by rfl) (by rfl) ?_ ?_; rotate_left; (focus (intro w' hS'; go_simp; try rfl)); (try simp only [Act.put, List.setIfInBounds_toArray, List.set_cons_zero, List.set_cons_succ])))
            refine Lex.done ?_
            refine Lex.ends ?_
            go_wp2_with fail
            refine (FA.out _ (hpl.out.fn (Fr.refl no wr).drew)).mono ?_
            rintro e w5 ⟨rfl, hp5, r5⟩
            rw [← HSX.out] at hp5
            have HP5 := Lib.hid hp5
            have R5 := Lib.hid ((hfr.out.drew).trans r5)
            clear hp5 r5 c0 d0 hc hc2
            go_wp2_with fail
            go_roundw
            case rel => exact ⟨3, by omega, by go_num, HP5, R5⟩
            case measure => first | (simp [intOf]; done) | (simp [intOf]; omega)
      · have HSX := Lib.hid (HSS.out k (by simp; omega))
        obtain rfl | rfl | rfl : k = 0 ∨ k = 1 ∨ k = 2 := by omega
        · have hq : ¬ (0 : Int) < bs.length := by omega
          have hq2 : bs.length ≤ 0 := by omega
          go_upto_region 4 with fail
          refine Lex.region [] [25] (by kernel_rfl) (by kernel_rfl) ?_
          refine Lex.opens (fun w' => w'.cell? ⟨rb, 0, none⟩ = some (.pointer (some ⟨pb, 0, none⟩)) ∧ w'.cell? ⟨pb, 0, none⟩ = some (.slice va bs.length vc)) (⟨c0, d0⟩) ?_
          repeat (first
            | (refine Lex.skips (by rfl) ?_; (try simp only [Act.put, List.setIfInBounds_toArray, List.set_cons_zero, List.set_cons_succ]))
            | (refine Lex.quiet (v := ?_) (by rfl) (by rfl) ?_ ?_; rotate_left; (focus (intro w' hS'; go_simp; try rfl)); (try simp only [Act.put, List.setIfInBounds_toArray, List.set_cons_zero, List.set_cons_succ])))
          refine Lex.done ?_
          refine Lex.ends ?_
          go_wp2_with fail
          go_roundw
          case rel => exact ⟨1, by omega, by go_num, Lib.hid (by rw [HSX.out]; exact hpl.out.fn (Fr.refl no wr).drew), Lib.hid hfr.out.drew⟩
          case measure => first | (simp [intOf]; done) | (simp [intOf]; omega)
        · have hq : ¬ (1 : Int) < bs.length := by omega
          have hq2 : bs.length ≤ 1 := by omega
          go_upto_region 4 with fail
          refine Lex.region [] [25] (by kernel_rfl) (by kernel_rfl) ?_
          refine Lex.opens (fun w' => w'.cell? ⟨rb, 0, none⟩ = some (.pointer (some ⟨pb, 0, none⟩)) ∧ w'.cell? ⟨pb, 0, none⟩ = some (.slice va bs.length vc)) (⟨c0, d0⟩) ?_
          repeat (first
            | (refine Lex.skips (by rfl) ?_; (try simp only [Act.put, List.setIfInBounds_toArray, List.set_cons_zero, List.set_cons_succ]))
            | (refine Lex.quiet (v := ?_) (by rfl) (by rfl) ?_ ?_; rotate_left; (focus (intro w' hS'; go_simp; try rfl)); (try simp only [Act.put, List.setIfInBounds_toArray, List.set_cons_zero, List.set_cons_succ])))
          refine Lex.done ?_
          refine Lex.ends ?_
          go_wp2_with fail
          go_roundw
          case rel => exact ⟨2, by omega, by go_num, Lib.hid (by rw [HSX.out]; exact hpl.out.fn (Fr.refl no wr).drew), Lib.hid hfr.out.drew⟩
          case measure => first | (simp [intOf]; done) | (simp [intOf]; omega)
        · have hq : ¬ (2 : Int) < bs.length := by omega
          have hq2 : bs.length ≤ 2 := by omega
          go_upto_region 4 with fail
          refine Lex.region [] [25] (by kernel_rfl) (by kernel_rfl) ?_
          refine Lex.opens (fun w' => w'.cell? ⟨rb, 0, none⟩ = some (.pointer (some ⟨pb, 0, none⟩)) ∧ w'.cell? ⟨pb, 0, none⟩ = some (.slice va bs.length vc)) (⟨c0, d0⟩) ?_
          repeat (first
            | (refine Lex.skips (by rfl) ?_; (try simp only [Act.put, List.setIfInBounds_toArray, List.set_cons_zero, List.set_cons_succ]))
            | (refine Lex.quiet (v := ?_) (by rfl) (by rfl) ?_ ?_; rotate_left; (focus (intro w' hS'; go_simp; try rfl)); (try simp only [Act.put, List.setIfInBounds_toArray, List.set_cons_zero, List.set_cons_succ])))
          refine Lex.done ?_
          refine Lex.ends ?_
          go_wp2_with fail
          go_roundw
          case rel => exact ⟨3, by omega, by go_num, Lib.hid (by rw [HSX.out]; exact hpl.out.fn (Fr.refl no wr).drew), Lib.hid hfr.out.drew⟩
          case measure => first | (simp [intOf]; done) | (simp [intOf]; omega)
    · obtain rfl : k = 3 := by omega
      have HT := Lib.hid (takep_ok wr pb _ bs (headS bs 3) 3 hpl.out (by omega) hbl)
      rw [← HH.out] at HT
      clear d0
      go_wp2_with fail
      refine HT.out.mono ?_
      rintro e w5 ⟨v, rfl, -, -, hp5, r5⟩
      have HP5 := Lib.hid hp5
      have R5 := Lib.hid (hfr.out.trans r5)
      clear hp5 r5 c0
      go_wp2_with fail
      go_ret
      exact ⟨rfl, HP5.out, R5.out⟩

end Go.Proofs.YtdngflhfhmnipaaGreat

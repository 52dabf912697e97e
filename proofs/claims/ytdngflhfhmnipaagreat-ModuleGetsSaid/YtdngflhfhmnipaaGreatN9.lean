/- twinshaftref08's reader: head. -/
import Derived.Test.YtdngflhfhmnipaaGreatN7
set_option linter.unusedSimpArgs false
set_option linter.unusedVariables false
set_option linter.unusedSectionVars false
set_option linter.unnecessarySimpa false
namespace Go.Proofs.YtdngflhfhmnipaaGreat
open Go.RowKit

attribute [local go_sem] Program.isFuncB Program.isSliceB

variable {w w' w'' w0 : World}

theorem headS_past (bs : List Nat) (k : Nat) (h : bs.length ≤ k) : ∀ d, headS bs (k + d) = headS bs k
  | 0 => rfl
  | d + 1 => by
    rw [show k + (d + 1) = (k + d) + 1 from rfl, headS_same bs (k + d) (by simp; omega)]
    exact headS_past bs k h d

set_option maxRecDepth 100000 in
set_option maxHeartbeats 8000000 in
theorem refhead_ok (w : World) (pb : Nat) (bv : Value) (bs : List Nat) (hp : RlAt w pb bv bs ⟨0, 0, 0⟩) (hlt : ∀ b ∈ bs, b < 256) (hbl : bs.length ≤ 100000) :
    Calls Tryz.prog 42 #[.pointer (some ⟨pb, 0, none⟩)] w fun e w' => e = .returned (.tuple #[]) ∧ RlAt w' pb bv bs (headP bs) ∧ Fr (only [pb]) w w' := by
  obtain ⟨va, vc, rfl⟩ := hp.bytes.shape
  have hpl := (Array.getElem?_eq_some_iff.1 hp.obj).1
  have HH : Hid (headP bs = (takeP bs 3 (headS bs 3)).2) := Lib.hid rfl
  have H0 : Hid (headS bs 0 = ⟨0, 0, 0⟩) := Lib.hid rfl
  have HSS := Lib.hid (headS_same bs)
  have HSB := Lib.hid (headS_bad bs)
  have HSP := Lib.hid (headS_past bs)
  generalize headP bs = hd at *
  have r1 := (Fr.refl no w).alloc (.cells #[.int .u8 84, .int .u8 87, .int .u8 1] 5)
  have HP := Lib.hid (hp.fn r1)
  have R1 := Lib.hid (r1.to (T := only [pb]))
  have HW : Hid (Reads (w.alloc (.cells #[.int .u8 84, .int .u8 87, .int .u8 1] 5)) (.slice (some ⟨w.heap.size, 0, none⟩) 3 3) 1 3 (u8s markL)) := Lib.hid (owns_reads (owns_row w [.int .u8 84, .int .u8 87, .int .u8 1] 5 (by simp)))
  clear hp hlt r1
  go_enter Tryz.func42, Tryz.ntmps42
  go_wp2_with fail
  generalize w.alloc (.cells #[.int .u8 84, .int .u8 87, .int .u8 1] 5) = wz at *
  go_loopw [3] (fun x wr => ∃ k : Nat, k ≤ 3 ∧ x = .int .i64 k ∧ Hid (RlAt wr pb (.slice va bs.length vc) bs (headS bs k)) ∧ Hid (Fr (only [pb]) wz wr)) (fun x _ => (3 - intOf x).toNat)
  case atStart => exact ⟨0, by omega, rfl, Lib.hid (by rw [H0.out]; exact HP.out), Lib.hid (Fr.refl _ _)⟩
  case round =>
    obtain ⟨k, hk, rfl, hrl, hfr⟩ := hrel
    have d0 : wr.cell? ⟨pb, 0, none⟩ = some (.slice va bs.length vc) := cell_of_heap hrl.out.obj rfl
    by_cases hk3 : k < 3
    · have hk3' : (k : Int) < 3 := by omega
      by_cases hkl : k < bs.length
      · obtain ⟨pb', po, rfl, hc⟩ := reads_u8 hrl.out.bytes hkl
        have hkl' : (k : Int) < bs.length := by omega
        obtain ⟨wb, wo, he, hw⟩ := reads_u8 (l := markL) (k := k) (HW.out.fr hfr.out (fun k hk e => by simp [Value.ownBlock] at hk; simp at e; omega)) hk3
        cases he
        rw [Nat.zero_add] at hw
        have hg : bs.getD k 0 = bs[k] := by simp [hkl]
        have hm : markL.getD k 0 = markL[k]'hk3 := by
          rw [List.getD_eq_getElem?_getD, List.getElem?_eq_getElem (show k < markL.length from hk3)]; rfl
        have FA := Lib.hid (fun w1 (h : RlAt w1 pb (.slice (some ⟨pb', po, none⟩) bs.length vc) bs (headS bs k)) => reffail_ok w1 pb _ bs (headS bs k) 10 0 h)
        have HS1 : Hid (bs[k] = markL[k]'hk3 → headS bs (k + 1) = headS bs k) := Lib.hid (fun h => HSS.out k (by rw [hg, hm, h]; simp))
        have HS2 : Hid (bs[k] ≠ markL[k]'hk3 → headS bs (k + 1) = failP (headS bs k) 10 0) := Lib.hid (fun h => HSB.out k (by rw [hg, hm]; simp [hkl]; exact h))
        generalize headS bs k = hs at *
        generalize bs[k] = x at *
        generalize markL[k]'hk3 = y at *
        clear hg hm
        by_cases hx : x = y
        · have HSX := Lib.hid (HS1.out hx)
          have hb : ((x : Int) != (y : Int)) = false := by rw [hx]; simp
          clear HS1 HS2 hx
          go_upto_region 4 with fail
          refine Lex.region [] [12] (by kernel_rfl) (by kernel_rfl) ?_
          refine Lex.opens (fun w' => w'.cell? ⟨pb, 0, none⟩ = some (.slice (some ⟨pb', po, none⟩) bs.length vc) ∧ w'.cell? ⟨pb', po + k, none⟩ = some (.int .u8 x) ∧ w'.cell? ⟨w.heap.size, k, none⟩ = some (.int .u8 y)) (⟨d0, hc, hw⟩) ?_
          repeat (first
            | (refine Lex.skips (by rfl) ?_; (try simp only [Act.put, List.setIfInBounds_toArray, List.set_cons_zero, List.set_cons_succ]))
            | (refine Lex.quiet (v := ?_) (by rfl) (by rfl) ?_ ?_; rotate_left; (focus (intro w' hS'; go_simp; try rfl)); (try simp only [Act.put, List.setIfInBounds_toArray, List.set_cons_zero, List.set_cons_succ])))
          refine Lex.done ?_
          refine Lex.ends ?_
          go_wp2_with fail
          all_goals go_roundw
          all_goals first | exact ⟨k + 1, by omega, by go_num, Lib.hid (by rw [HSX.out]; exact hrl.out.fn (Fr.refl no wr).drew), Lib.hid hfr.out.drew⟩ | (simp [intOf]; done) | (simp [intOf]; omega)
        · have HSX := Lib.hid (HS2.out hx)
          have hb : ((x : Int) != (y : Int)) = true := by rw [bne_iff_ne]; omega
          clear HS1 HS2 hx
          go_upto_region 4 with fail
          refine Lex.region [] [12] (by kernel_rfl) (by kernel_rfl) ?_
          refine Lex.opens (fun w' => w'.cell? ⟨pb, 0, none⟩ = some (.slice (some ⟨pb', po, none⟩) bs.length vc) ∧ w'.cell? ⟨pb', po + k, none⟩ = some (.int .u8 x) ∧ w'.cell? ⟨w.heap.size, k, none⟩ = some (.int .u8 y)) (⟨d0, hc, hw⟩) ?_
          repeat (first
            | (refine Lex.skips (by rfl) ?_; (try simp only [Act.put, List.setIfInBounds_toArray, List.set_cons_zero, List.set_cons_succ]))
            | (refine Lex.quiet (v := ?_) (by rfl) (by rfl) ?_ ?_; rotate_left; (focus (intro w' hS'; go_simp; try rfl)); (try simp only [Act.put, List.setIfInBounds_toArray, List.set_cons_zero, List.set_cons_succ])))
          refine Lex.done ?_
          refine Lex.ends ?_
          go_wp2_with fail
          refine (FA.out _ (hrl.out.fn (Fr.refl no wr).drew)).mono ?_
          rintro e w5 ⟨rfl, hp5, r5⟩
          rw [← HSX.out] at hp5
          have HP5 := Lib.hid hp5
          have R5 := Lib.hid ((hfr.out.drew).trans r5)
          clear hp5 r5 d0 hc hw
          go_wp2_with fail
          go_roundw
          case rel => exact ⟨k + 1, by omega, by go_num, HP5, R5⟩
          case measure => first | (simp [intOf]; done) | (simp [intOf]; omega)
      · have hkl' : ¬ (k : Int) < bs.length := by omega
        have HK : Hid (headS bs k = headS bs 3) := Lib.hid (by
          have := HSP.out k (by omega) (3 - k)
          rw [show k + (3 - k) = 3 from by omega] at this
          exact this.symm)
        have HT := Lib.hid (reftake_ok wr pb _ bs (headS bs k) 3 hrl.out (by omega) hbl)
        rw [HK.out, ← HH.out] at HT
        clear HK
        go_wp2_with fail
        refine HT.out.mono ?_
        rintro e w5 ⟨a, c, rfl, -, -, hp5, r5⟩
        have HP5 := Lib.hid hp5
        have R5 := Lib.hid ((R1.out.trans hfr.out).trans r5)
        clear hp5 r5 d0
        go_wp2_with fail
        exact ⟨rfl, .tuple #[], by simp [results], rfl, HP5.out, R5.out⟩
    · obtain rfl : k = 3 := by omega
      have HT := Lib.hid (reftake_ok wr pb _ bs (headS bs 3) 3 hrl.out (by omega) hbl)
      rw [← HH.out] at HT
      clear d0
      go_wp2_with fail
      refine HT.out.mono ?_
      rintro e w5 ⟨a, c, rfl, -, -, hp5, r5⟩
      have HP5 := Lib.hid hp5
      have R5 := Lib.hid ((R1.out.trans hfr.out).trans r5)
      clear hp5 r5
      go_wp2_with fail
      exact ⟨rfl, .tuple #[], by simp [results], rfl, HP5.out, R5.out⟩

end Go.Proofs.YtdngflhfhmnipaaGreat

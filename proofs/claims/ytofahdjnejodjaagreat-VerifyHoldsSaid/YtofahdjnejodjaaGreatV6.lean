/- law12's awake. -/
import Derived.Test.YtofahdjnejodjaaGreatV5
import Derived.Test.YtofahdjnejodjaaGreatR3
set_option linter.unusedSimpArgs false
set_option linter.unusedVariables false
set_option linter.unusedSectionVars false
set_option linter.unnecessarySimpa false
namespace Go.Proofs.YtofahdjnejodjaaGreat
open Go.RowKit Go.Flow Go.Sure

attribute [local go_sem] Program.isFuncB Program.isSliceB

variable {w w' w'' w0 : World}

/-! ### masks that tell are always there -/
theorem part_ex (p : Nat) (g : Nat → Nat → List Nat) (j : Nat) : ∀ r, ∃ m, Part p g r m j
  | 0 => ⟨0, .zero⟩
  | r + 1 => by
    obtain ⟨m, h⟩ := part_ex p g j r
    by_cases hb : p ≤ r ∧ Flow.Reach (g r) j
    · exact ⟨m, h.keep hb⟩
    · exact ⟨m + 2 ^ r, h.add hb⟩
theorem tells_ex (n p : Nat) (nx : Nat → List Nat) (wr : Nat → Int) : ∃ ms, Tells n p nx wr ms := by
  refine ⟨(List.range n).map fun j => (part_ex p (gr nx wr) j 64).choose, MRow.tells ⟨by simp, fun j m hm => ?_⟩⟩
  rw [if_neg (by omega)]
  rw [List.getElem?_map] at hm
  by_cases hj : j < n
  · rw [List.getElem?_range hj] at hm
    have : (part_ex p (gr nx wr) j 64).choose = m := by simpa using hm
    rw [← this]
    exact (part_ex p (gr nx wr) j 64).choose_spec
  · rw [List.getElem?_eq_none (by simp; omega)] at hm
    simp at hm
theorem sure_tells (n p : Nat) (nx : Nat → List Nat) (wr : Nat → Int) : Tells n p nx wr (sureL n p nx wr) := by
  obtain ⟨ms, h⟩ := tells_ex n p nx wr
  rw [sureL_eq h]
  exact h

theorem unset_echo : unsetOf echoL 0 = (-1, -1) := by
  have T := sure_tells 2 0 (nx (fis echoL)) (wrN echoL)
  unfold unsetOf
  rw [show echoL.length = 2 from rfl]
  generalize sureL 2 0 (nx (fis echoL)) (wrN echoL) = ms at *
  have hl := T.len
  match ms, hl with
  | [m0, m1], _ =>
    have h0 : readsI ⟨30, 0, 0, 0, 0, []⟩ = [] := by kernel_rfl
    have h1 : readsI ⟨32, 0, 0, 0, 0, []⟩ = [0] := by kernel_rfl
    have hb : badAt m1 0 = false := by
      have hi := T.iff 0 1 (by omega) (by omega)
      have hn : ¬ un [m0, m1] 0 1 := fun hu => by
        have hr := (hi.1 hu).2
        have h2 := reach_least (S := fun k => k = 0) rfl (fun k x hk hx => by
          subst hk
          have hw : wrN echoL 0 = ((0 : Nat) : Int) := by kernel_rfl
          unfold gr at hx
          rw [if_pos hw] at hx
          simp at hx) hr
        simp at h2
      unfold un at hn
      simp at hn
      simp [badAt, hn]
    simp [unsetL, echoL, h0, h1, hb]
theorem unset_exit : unsetOf exitL 0 = (0, 0) := by
  have T := sure_tells 1 0 (nx (fis exitL)) (wrN exitL)
  have e := tells_first T (by kernel_rfl) (fun i hi => .inl (by omega)) (by omega)
  unfold unsetOf
  rw [show exitL.length = 1 from rfl, e]
  exact (by kernel_rfl : unsetL exitL (List.replicate 1 (2 ^ 0 - 1)) 0 = (0, 0))

theorem modFind_one {p : Int} {is : List Ix} (h : modCk (oneM p is) = 0) (hp : ¬ 0 < p) {k e : Int} (hf : fnFind (oneM p is) ⟨p, 1, 0, is⟩ = (k, e)) : modFind (oneM p is) = if e ≠ 0 then (0, k, e) else (-1, -1, 0) := by
  have h1 : fnsFind (oneM p is) (oneM p is).f 0 = if e ≠ 0 then (0, k, e) else (-1, -1, 0) := by
    show fnsFind (oneM p is) [⟨p, 1, 0, is⟩] 0 = _
    unfold fnsFind
    rw [hf]
    rfl
  have h2 : ((oneM p is).f.getD 0 fxNil).p = p := rfl
  unfold modFind
  rw [h, h1, h2, if_neg hp]
  rfl
theorem find_echo : modFind (oneM 0 echoL) = (-1, -1, 0) := by
  rw [modFind_one (k := -1) (e := 0) (by kernel_rfl) (by omega) (by
    unfold fnFind
    simp only [show flowCk echoL = 0 from by kernel_rfl, show insFind (oneM 0 echoL) echoL 0 = none from by kernel_rfl, show unsetOf echoL (0 : Int).toNat = (-1, -1) from unset_echo]
    rfl)]
  rfl
theorem find_echo1 : modFind (oneM 1 echoL) = (0, -1, 2) := by
  unfold modFind
  rw [show modCk (oneM 1 echoL) = 0 from by kernel_rfl]
  rfl
theorem find_exit : modFind (oneM 0 exitL) = (0, 0, 14) := by
  rw [modFind_one (k := 0) (e := 14) (by kernel_rfl) (by omega) (by
    unfold fnFind
    simp only [show flowCk exitL = 0 from by kernel_rfl, show insFind (oneM 0 exitL) exitL 0 = none from by kernel_rfl, show unsetOf exitL (0 : Int).toNat = (0, 0) from unset_exit]
    rfl)]
  rfl
theorem find_none : modFind (oneM 0 noneL) = (0, -1, 10) := by
  rw [modFind_one (k := -1) (e := 10) (by kernel_rfl) (by omega) (by
    unfold fnFind
    rw [show flowCk noneL = 10 from by kernel_rfl]
    rfl)]
  rfl
theorem find_call : modFind (oneM 0 callL) = (0, 0, 13) := by
  rw [modFind_one (k := 0) (e := 13) (by kernel_rfl) (by omega) (by
    unfold fnFind
    rw [show flowCk callL = 0 from by kernel_rfl, show insFind (oneM 0 callL) callL 0 = some (0, 13) from by kernel_rfl]
    rfl)]
  rfl
theorem find_data : modFind (oneM 0 dataL) = (0, 0, 5) := by
  rw [modFind_one (k := 0) (e := 5) (by kernel_rfl) (by omega) (by
    unfold fnFind
    rw [show flowCk dataL = 0 from by kernel_rfl, show insFind (oneM 0 dataL) dataL 0 = some (0, 5) from by kernel_rfl]
    rfl)]
  rfl

set_option maxRecDepth 100000 in
set_option maxHeartbeats 4000000 in
theorem awake12_ok (w : World) : Calls Tryz.prog 18 #[] w fun e w' => e = .returned (.bool true) ∧ Fr no w w' := by
  go_enter Tryz.func18, Tryz.ntmps18
  go_wp2_with fail
  refine (echo12_ok _).mono ?_
  rintro e w2 ⟨b, c, rfl, hb, hc, h1, r2⟩
  have q3 := (Fr.refl no w2).alloc (.cells #[.slice none 0 0, .slice (some ⟨b, 0, none⟩) 1 1] 38)
  have HB : Hid (w.heap.size ≤ b) := Lib.hid hb
  have HM3 := Lib.hid (heap_new w2 (.cells #[.slice none 0 0, .slice (some ⟨b, 0, none⟩) 1 1] 38))
  have HO3 := Lib.hid (h1.fr q3)
  have R3 := Lib.hid (r2.trans q3)
  have HNE : Hid (w2.heap.size ≠ b) := Lib.hid (fun e => by have := (Array.getElem?_eq_some_iff.1 h1.fn).1; omega)
  obtain ⟨b0, hb0⟩ : ∃ x, x = w2.heap.size := ⟨_, rfl⟩
  rw [← hb0] at HM3 HNE
  have HB0 : Hid (w.heap.size ≤ b0) := Lib.hid (by rw [hb0]; exact r2.size)
  clear hb hc h1 r2 q3
  go_upto_region 2 with fail
  rw [← hb0]
  clear hb0
  generalize w2.alloc (.cells #[.slice none 0 0, .slice (some ⟨b, 0, none⟩) 1 1] 38) = w3 at *
  obtain ⟨m0, m1⟩ := cells2 HM3.out
  have c0 : w3.cell? ⟨b, 0, none⟩ = some (.int .i64 0) := cell_of_heap HO3.out.fn rfl
  have f0 : w3.frozen? ⟨b, 0, none⟩ = false := frozen_of_heap HO3.out.fn
  go_upto_region 3 with fail
  have q4 : Fr (only [b]) w3 (w3.setCell ⟨b, 0, none⟩ (.int .i64 1)) := (Fr.refl _ w3).setCell _ _ (.inl (by simp))
  have HO4 : Hid (OneAt (w3.setCell ⟨b, 0, none⟩ (.int .i64 1)) b c 1 echoL) := Lib.hid ⟨by rw [heap_setCell HO3.out.fn]; rfl, q4.heap HO3.out.code (by
    have h1 := HO3.out.fn
    have h2 := HO3.out.code
    intro hcb
    have hcb' : c = b := by simpa using hcb
    rw [hcb', h1] at h2
    simp at h2)⟩
  have HM4 := Lib.hid (q4.heap HM3.out (by have := HNE.out; simpa using this))
  have R4 := Lib.hid (R3.out.trans' q4 (fun k hk _ => by have := HB.out; simp at hk; omega))
  clear q4 m0 m1 c0 f0 HM3 HO3 R3
  generalize w3.setCell ⟨b, 0, none⟩ (.int .i64 1) = w4 at *
  go_wp2_with fail
  refine (echo12_ok _).mono ?_
  rintro e w5 ⟨b1, c1, rfl, -, -, h1, r5⟩
  have HF := Lib.hid (one_found w5 b1 c1 0 echoL (-1) (-1) 0 h1 echoL_lit find_echo)
  have HM5 := Lib.hid (r5.heap HM4.out (by simp))
  have HO5 := Lib.hid (HO4.out.fr r5)
  have R5 := Lib.hid (R4.out.trans r5)
  clear r5 h1 HM4 HO4 R4
  go_wp2_with fail
  refine HF.out.mono ?_
  rintro e w6 ⟨rfl, r6⟩
  have HM6 := Lib.hid (r6.heap HM5.out (by simp))
  have HO6 := Lib.hid (HO5.out.fr r6)
  have R6 := Lib.hid (R5.out.trans r6)
  obtain ⟨m0, m1⟩ := cells2 HM6.out
  have HF2 := Lib.hid (one_found w6 b c 1 echoL 0 (-1) 2 HO6.out echoL_lit find_echo1)
  clear r6 HM5 HO5 R5 HF
  go_wp2_with fail
  refine HF2.out.mono ?_
  rintro e w7 ⟨rfl, r7⟩
  have R7 := Lib.hid (R6.out.trans r7)
  clear r7 m0 m1 HM6 HO6 HF2 R6
  go_wp2_with fail
  refine (exit_ok _).mono ?_
  rintro e w8 ⟨rfl, r8⟩
  have R8 := Lib.hid (R7.out.trans r8)
  clear r8 R7
  go_wp2_with fail
  have r9 := (Fr.refl no w8).alloc (.cells (litCells exitL).toArray 47)
  refine (of_lit _ w8.heap.size exitL 1 rfl (heap_new w8 _)).mono ?_
  rintro e w10 ⟨b2, rfl, -, h1, r10⟩
  have R10 := Lib.hid ((R8.out.trans r9).trans r10)
  have HF3 := Lib.hid (one_found w10 b2 _ 0 exitL 0 0 14 h1 exitL_lit find_exit)
  clear r9 r10 h1 R8
  go_wp2_with fail
  refine HF3.out.mono ?_
  rintro e w11 ⟨rfl, r11⟩
  have R11 := Lib.hid (R10.out.trans r11)
  clear r11 HF3 R10
  go_wp2_with fail
  have r12 := (Fr.refl no w11).alloc (.cells (litCells noneL).toArray 47)
  refine (of_lit _ w11.heap.size noneL 1 rfl (heap_new w11 _)).mono ?_
  rintro e w13 ⟨b3, rfl, -, h1, r13⟩
  have R13 := Lib.hid ((R11.out.trans r12).trans r13)
  have HF4 := Lib.hid (one_found w13 b3 _ 0 noneL 0 (-1) 10 h1 noneL_lit find_none)
  clear r12 r13 h1 R11
  go_wp2_with fail
  refine HF4.out.mono ?_
  rintro e w14 ⟨rfl, r14⟩
  have R14 := Lib.hid (R13.out.trans r14)
  clear r14 HF4 R13
  go_wp2_with fail
  go_ret
  exact ⟨rfl, R14.out⟩

end Go.Proofs.YtofahdjnejodjaaGreat

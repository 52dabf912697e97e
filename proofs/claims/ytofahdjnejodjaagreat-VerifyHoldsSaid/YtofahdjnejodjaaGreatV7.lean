/- VerifyKnown, VerifyFinds (law12). -/
import Derived.Test.YtofahdjnejodjaaGreatV4
import Derived.Test.YtofahdjnejodjaaGreatV6
set_option linter.unusedSimpArgs false
set_option linter.unusedVariables false
set_option linter.unusedSectionVars false
set_option linter.unnecessarySimpa false
namespace Go.Proofs.YtofahdjnejodjaaGreat
open Go.RowKit Go.Flow Go.Sure

attribute [local go_sem] Program.isFuncB Program.isSliceB

variable {w w' w'' w0 : World}

def retL : List Ix := [⟨29, 0, 0, 0, 0, []⟩]
theorem retL_lit : Lit1 retL := ⟨by decide, by intro i hi; simp [retL] at hi; subst hi; rfl, by intro i hi; simp [retL] at hi; subst hi; simp [rng]⟩
def twoM : Mx := ⟨[], [⟨0, 1, 0, callL⟩, ⟨1, 1, 0, retL⟩]⟩
def emptyM : Mx := ⟨[], []⟩
theorem twoM_small : twoM.Small := ⟨by simp [twoM], by simp [twoM], fun f hf => by
  simp [twoM] at hf
  rcases hf with rfl | rfl
  · exact ⟨by simp [callL], fun i hi => by rw [callL_lit.lit i hi]; simp⟩
  · exact ⟨by simp [retL], fun i hi => by rw [retL_lit.lit i hi]; simp⟩, by simp [twoM]⟩
theorem twoM_fns : ∀ f ∈ twoM.f, FnSmall f := fun f hf => by
  simp [twoM] at hf
  rcases hf with rfl | rfl
  · exact callL_lit.fn _ _ _
  · exact retL_lit.fn _ _ _
theorem find_two : modFind twoM = (0, 0, 2) := by
  have hf : fnFind twoM ⟨0, 1, 0, callL⟩ = (0, 2) := by
    unfold fnFind
    rw [show flowCk callL = 0 from by kernel_rfl, show insFind twoM callL 0 = some (0, 2) from by kernel_rfl]
    rfl
  unfold modFind
  rw [show modCk twoM = 0 from by kernel_rfl, show (twoM.f.getD 0 fxNil).p = 0 from rfl, show twoM.f = [⟨0, 1, 0, callL⟩, ⟨1, 1, 0, retL⟩] from rfl]
  unfold fnsFind
  rw [hf]
  rfl
theorem find_empty : modFind emptyM = (-1, -1, 2) := by
  unfold modFind
  rw [show modCk emptyM = 2 from by kernel_rfl]
  rfl
theorem emptyM_in (w : World) : ModIn w emptyM none 0 none := ⟨.inl ⟨rfl, rfl, rfl⟩, fun k hk => by simp [emptyM] at hk⟩
theorem emptyM_small : emptyM.Small := ⟨by simp [emptyM], by simp [emptyM], by simp [emptyM], by simp [emptyM]⟩

theorem own_fn {b B : Nat} {a0 a1 a2 a3 : Value} (h : w.heap[b]? = some (.cells #[a0, a1, a2, a3] 50 (0, 0))) (hB : B ≤ b) : w.ownsRow B 50 4 (.slice (some ⟨b, 0, none⟩) 1 1) 1 [a0, a1, a2, a3] :=
  ⟨rfl, .inr ⟨b, 1, #[a0, a1, a2, a3], rfl, hB, h, Nat.le_refl _, by unfold maxLen; omega, rfl, rfl⟩⟩

set_option maxRecDepth 100000 in
set_option maxHeartbeats 4000000 in
theorem known12_ok (w : World) : Calls Tryz.prog 5 #[] w fun e w' => e = .returned (.bool true) ∧ Fr no w w' := by
  go_enter Tryz.func5, Tryz.ntmps5
  go_wp2_with fail
  refine (exit_ok _).mono ?_
  rintro e w1 ⟨rfl, r1⟩
  have R1 := Lib.hid r1
  clear r1
  go_wp2_with fail
  have r2 := (Fr.refl no w1).alloc (.cells (litCells callL).toArray 47)
  refine (of_lit _ w1.heap.size callL 2 rfl (heap_new w1 _)).mono ?_
  rintro e w2 ⟨b, rfl, hb, h1, r3⟩
  have R2 := Lib.hid ((R1.out.trans r2).trans r3)
  have HB : Hid (w.heap.size ≤ b ∧ b < w2.heap.size) := Lib.hid ⟨by have := (R1.out.trans r2).size; omega, (Array.getElem?_eq_some_iff.1 h1.fn).1⟩
  have q3 := (Fr.refl no w2).alloc (.cells #[.slice none 0 0, .slice (some ⟨b, 0, none⟩) 1 1] 38)
  have HM3 := Lib.hid (heap_new w2 (.cells #[.slice none 0 0, .slice (some ⟨b, 0, none⟩) 1 1] 38))
  have HO3 := Lib.hid (h1.fr q3)
  have R3 := Lib.hid (R2.out.trans q3)
  have HB0 : Hid (w.heap.size ≤ w2.heap.size) := Lib.hid R2.out.size
  clear hb h1 r2 r3 q3 R1 R2
  go_upto_region 2 with fail
  generalize w2.alloc (.cells #[.slice none 0 0, .slice (some ⟨b, 0, none⟩) 1 1] 38) = w3 at *
  generalize w2.heap.size = b0 at *
  generalize w1.heap.size = c at *
  obtain ⟨m0, m1⟩ := cells2 HM3.out
  -- the second function
  have q4 := ((Fr.refl no w3).alloc (.cells (litCells retL).toArray 47)).trans ((Fr.refl no (w3.alloc (.cells (litCells retL).toArray 47))).alloc (.cells #[.int .i64 1, .int .i64 1, .int .i64 0, .slice (some ⟨w3.heap.size, 0, none⟩) 1 1] 50))
  have HO4 := Lib.hid (HO3.out.fr q4)
  have HM4 := Lib.hid (q4.heap HM3.out (by simp))
  have HR4 : Hid (((w3.alloc (.cells (litCells retL).toArray 47)).alloc (.cells #[.int .i64 1, .int .i64 1, .int .i64 0, .slice (some ⟨w3.heap.size, 0, none⟩) 1 1] 50)).heap[w3.heap.size]? = some (.cells (litCells retL).toArray 47 (0, 0))) := Lib.hid (heap_keep (heap_new w3 _) _)
  have HRW := Lib.hid (own_fn (B := w.heap.size) HO4.out.fn HB.out.1)
  have R4 := Lib.hid (R3.out.trans q4)
  have HRF : Hid (Reads ((w3.alloc (.cells (litCells retL).toArray 47)).alloc (.cells #[.int .i64 1, .int .i64 1, .int .i64 0, .slice (some ⟨w3.heap.size, 0, none⟩) 1 1] 50)) (.slice (some ⟨w3.heap.size + 1, 0, none⟩) 1 1) 4 1 [.int .i64 1, .int .i64 1, .int .i64 0, .slice (some ⟨w3.heap.size, 0, none⟩) 1 1]) := Lib.hid (by
    have := reads_four (w3.alloc (.cells (litCells retL).toArray 47)) (.int .i64 1) (.int .i64 1) (.int .i64 0) (.slice (some ⟨w3.heap.size, 0, none⟩) 1 1) 50
    rwa [World.size_alloc] at this)
  clear q4 HM3 HO3 R3
  go_upto_region 3 with (at_builtin; (refine wpList_append_at rfl (.tmp 8) _ 36 rfl w.heap.size 50 (.agg zeroFn) 4 48 Tryz.underlying36 Tryz.infoFunc3 rfl (by decide) _ 1 _ rfl HRW.out 1 _ HRF.out (four_one _ _ _ _ _ _ ()) (by unfold maxLen; omega) (by omega) R4.out.size ?_); intro ga gc w5 ho hg hb5; have q5 := (Fr.refl (fun k => (Value.slice (some ⟨b, 0, none⟩) 1 1).ownBlock = some k) _).grown hg (fun k hk => .inl hk); have HM5 := Lib.hid (q5.heap HM4.out (row_block_ne HRW.out HM4.out (by decide))); have x1 := cell_of_heap (o := 1) HM5.out rfl; have y1 := frozen_of_heap (o := 1) HM5.out)
  have q6 : Fr (only [b0]) w5 (w5.setCell ⟨b0, 1, none⟩ (.slice ga 2 gc)) := (Fr.refl _ w5).setCell _ _ (.inl (by simp))
  have HM6 : Hid ((w5.setCell ⟨b0, 1, none⟩ (.slice ga 2 gc)).heap[b0]? = some (.cells #[.slice none 0 0, .slice ga 2 gc] 38 (0, 0))) := Lib.hid (by rw [heap_setCell HM5.out]; rfl)
  have hc5 := q5.heap HO4.out.code (row_block_ne HRW.out HO4.out.code (by decide))
  have hc6 := q6.heap hc5 (by have := elem_ne hc5 HM5.out (by decide); simpa using this)
  have hr5 := q5.heap HR4.out (row_block_ne HRW.out HR4.out (by decide))
  have hr6 := q6.heap hr5 (by have := elem_ne hr5 HM5.out (by decide); simpa using this)
  have ho6 := owns_fr ho q6 (fun k hk hk2 => row_block_ne ho HM5.out (by decide) (by rw [hk]; exact congrArg some (by simpa using hk2)))
  have HMI6 : Hid (ModIn (w5.setCell ⟨b0, 1, none⟩ (.slice ga 2 gc)) twoM none 0 ga) := Lib.hid (by
    obtain ⟨a', c', hv, hfn⟩ := fns_owns (l := [(⟨0, 1, 0, callL⟩, some ⟨c, 0, none⟩, 2), (⟨1, 1, 0, retL⟩, some ⟨w3.heap.size, 0, none⟩, 1)]) ho6 (fun p hp => by
      simp at hp
      rcases hp with rfl | rfl
      · exact codeIn_lit hc6 callL_lit.lit
      · exact codeIn_lit hr6 retL_lit.lit)
    cases hv
    exact ⟨.inl ⟨rfl, rfl, rfl⟩, hfn⟩)
  have R6 := Lib.hid ((R4.out.trans' q5 (fun k hk _ => by have := HB.out.1; have e : b = k := Option.some.inj hk; omega)).trans' q6 (fun k hk _ => by have := HB0.out; simp at hk; omega))
  clear q5 q6 x1 y1 hc5 hc6 hr5 hr6 ho ho6 hg hb5 HM5 HO4 HM4 HR4 HRW HRF R4 m0 m1
  generalize w5.setCell ⟨b0, 1, none⟩ (.slice ga 2 gc) = w6 at *
  go_wp2_with fail
  refine (exit_ok _).mono ?_
  rintro e w7 ⟨rfl, r⟩
  have R7 := Lib.hid (R6.out.trans r)
  have HMI7 := Lib.hid (HMI6.out.fr r)
  have HM7 := Lib.hid (r.heap HM6.out (by simp))
  clear r
  go_wp2_with fail
  have q := (Fr.refl no w7).alloc (.cells (litCells callL).toArray 47)
  refine (of_lit _ w7.heap.size callL 2 rfl (heap_new w7 _)).mono ?_
  rintro e w8 ⟨b8, rfl, -, h1, r⟩
  have R8 := Lib.hid ((R7.out.trans q).trans r)
  have HMI8 := Lib.hid (HMI7.out.fr (q.trans r))
  have HM8 := Lib.hid (r.heap (q.heap HM7.out (by simp)) (by simp))
  have HF := Lib.hid (one_found w8 b8 _ 0 callL 0 0 13 h1 callL_lit find_call)
  clear q r h1
  go_wp2_with fail
  refine HF.out.mono ?_
  rintro e w9 ⟨rfl, r⟩
  have R9 := Lib.hid (R8.out.trans r)
  have HMI9 := Lib.hid (HMI8.out.fr r)
  have HM9 := Lib.hid (r.heap HM8.out (by simp))
  clear r HF
  have HF := Lib.hid (found_yes w9 emptyM none none 0 0 (-1) (-1) 2 (emptyM_in w9) emptyM_small (by simp [emptyM]) find_empty)
  go_wp2_with fail
  refine HF.out.mono ?_
  rintro e w10 ⟨rfl, r⟩
  have R10 := Lib.hid (R9.out.trans r)
  have HMI10 := Lib.hid (HMI9.out.fr r)
  have HM10 := Lib.hid (r.heap HM9.out (by simp))
  clear r HF
  go_wp2_with fail
  refine (exit_ok _).mono ?_
  rintro e w11 ⟨rfl, r⟩
  have R11 := Lib.hid (R10.out.trans r)
  have HMI11 := Lib.hid (HMI10.out.fr r)
  have HM11 := Lib.hid (r.heap HM10.out (by simp))
  clear r
  go_wp2_with fail
  have q := (Fr.refl no w11).alloc (.cells (litCells dataL).toArray 47)
  refine (of_lit _ w11.heap.size dataL 2 rfl (heap_new w11 _)).mono ?_
  rintro e w12 ⟨b12, rfl, -, h1, r⟩
  have R12 := Lib.hid ((R11.out.trans q).trans r)
  have HMI12 := Lib.hid (HMI11.out.fr (q.trans r))
  have HM12 := Lib.hid (r.heap (q.heap HM11.out (by simp)) (by simp))
  have HF := Lib.hid (one_found w12 b12 _ 0 dataL 0 0 5 h1 dataL_lit find_data)
  clear q r h1
  go_wp2_with fail
  refine HF.out.mono ?_
  rintro e w13 ⟨rfl, r⟩
  have R13 := Lib.hid (R12.out.trans r)
  have HMI13 := Lib.hid (HMI12.out.fr r)
  have HM13 := Lib.hid (r.heap HM12.out (by simp))
  clear r HF
  go_wp2_with fail
  refine (awake12_ok _).mono ?_
  rintro e w14 ⟨rfl, r⟩
  have R14 := Lib.hid (R13.out.trans r)
  have HMI14 := Lib.hid (HMI13.out.fr r)
  have HM14 := Lib.hid (r.heap HM13.out (by simp))
  clear r
  obtain ⟨m0, m1⟩ := cells2 HM14.out
  have HF := Lib.hid (found_yes w14 twoM none ga 0 gc 0 0 2 HMI14.out twoM_small twoM_fns find_two)
  go_wp2_with fail
  refine HF.out.mono ?_
  rintro e w15 ⟨rfl, r⟩
  have R15 := Lib.hid (R14.out.trans r)
  clear r HF m0 m1
  go_wp2_with fail
  go_ret
  exact ⟨rfl, R15.out⟩

end Go.Proofs.YtofahdjnejodjaaGreat

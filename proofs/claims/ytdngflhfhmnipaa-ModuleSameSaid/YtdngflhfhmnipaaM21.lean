/- ModuleKnown's walk. -/
import Derived.Test.YtdngflhfhmnipaaM20
set_option linter.unusedSimpArgs false
set_option linter.unusedVariables false
set_option linter.unusedSectionVars false
set_option linter.unnecessarySimpa false
namespace Go.Proofs.Ytdngflhfhmnipaa
open Go.RowKit

attribute [local go_sem] Program.isFuncB Program.isSliceB

variable {w w' w'' w0 : World}

theorem wpList_guarded {P : Program} {ops : Array Oper} {Q : Exit → Act → World → Prop} {a : Act} {w : World} {rest : List Oper} {o : Oper} (hw : Region.wanted o (yielded ops a.tmps) = true)
    (h : ∀ K : Act → World → Prop, (∀ a w, wpList P ops Q rest a w → K a w) → o.wp P a w K Q) : wpList P ops Q (o :: rest) a w := by
  unfold wpList
  rw [if_pos hw]
  exact .inl (h _ (fun a w h => h))
theorem form_owns {base : Nat} {e : TypeId} {v : Value} {bs : List Nat} (h : w.ownsRow base e 1 v bs.length (u8s bs)) : (v = .slice none 0 0 ∧ bs = []) ∨ ∃ b o c, v = .slice (some ⟨b, o, none⟩) bs.length c := by
  rcases h.2 with ⟨rfl, h0⟩ | ⟨g, cap, cur, rfl, -⟩
  · exact .inl ⟨rfl, List.length_eq_zero_iff.1 h0⟩
  · exact .inr ⟨g, 0, cap, rfl⟩
theorem fails_own (w : World) (base : Nat) (v : Value) (bs : List Nat) (er fa : Int) (h : w.ownsRow base 5 1 v bs.length (u8s bs)) (hl : bs.length ≤ 1000) (hlt : ∀ b ∈ bs, b < 256) (hg : getM bs = (⟨[], []⟩, er, fa)) :
    Calls Try.prog 7 #[v, .int .i64 er, .int .i64 fa] w fun e w' => e = .returned (.bool true) ∧ Fr no w w' :=
  fails_ok w v bs er fa (owns_reads h) (form_owns h) hlt hl (fun k hk => (h.lt k hk).2) hg
theorem k_1 : getM [84] = (⟨[], []⟩, 4, 1) := by kernel_rfl
theorem k_2 : getM [85] = (⟨[], []⟩, 10, 0) := by kernel_rfl
theorem k_3 : getM [84, 87, 1, 0, 0, 0] = (⟨[], []⟩, 2, 5) := by kernel_rfl
theorem k_4 : getM (echoBs ++ [9]) = (⟨[], []⟩, 4, 16) := by kernel_rfl
theorem k_5 : getM [84, 87, 1, 1, 32] = (⟨[], []⟩, 3, 3) := by kernel_rfl
theorem c_1 : modCk ⟨[], []⟩ = 2 := by kernel_rfl
theorem c_2 : modCk (echoX 0 0) = 5 := by kernel_rfl
theorem c_3 : modCk (echoX 2 1) = 2 := by kernel_rfl
/-- a literal's bytes -/
theorem fails_lit (w : World) (bs : List Nat) (cs : Array Value) (er fa : Int) (hcs : (u8s bs).toArray = cs) (hl : bs.length ≤ 1000) (hlt : ∀ b ∈ bs, b < 256) (hg : getM bs = (⟨[], []⟩, er, fa)) :
    Calls Try.prog 7 #[.slice (some ⟨w.heap.size, 0, none⟩) bs.length bs.length, .int .i64 er, .int .i64 fa] (w.alloc (.cells cs 5)) fun e w' => e = .returned (.bool true) ∧ Fr no w w' := by
  subst hcs
  have hr := owns_reads (owns_row w (u8s bs) 5 (by simp [u8s]; omega))
  rw [show (u8s bs).length = bs.length from by simp [u8s]] at hr
  refine (fails_ok _ _ bs er fa hr (.inr ⟨_, _, _, rfl⟩) hlt hl (fun k hk => ?_) hg).mono fun e w' h => ⟨h.1, ((Fr.refl no w).alloc _).trans h.2⟩
  have h9 : w.heap.size = k := by simpa [Value.ownBlock] using hk
  rw [World.size_alloc]
  omega

set_option maxRecDepth 100000 in
set_option maxHeartbeats 16000000 in
theorem known_ok (w : World) : Calls Try.prog 3 #[] w fun e w' => e = .returned (.bool true) ∧ Fr no w w' := by
  have F1 := Lib.hid (fun w => fails_lit w [84] #[.int .u8 84] 4 1 rfl (by simp) (by simp) k_1)
  have F2 := Lib.hid (fun w => fails_lit w [85] #[.int .u8 85] 10 0 rfl (by simp) (by simp) k_2)
  have F3 := Lib.hid (fun w => fails_lit w [84, 87, 1, 0, 0, 0] #[.int .u8 84, .int .u8 87, .int .u8 1, .int .u8 0, .int .u8 0, .int .u8 0] 2 5 rfl (by simp) (by simp) k_3)
  have F5 := Lib.hid (fun w => fails_lit w [84, 87, 1, 1, 32] #[.int .u8 84, .int .u8 87, .int .u8 1, .int .u8 1, .int .u8 32] 3 3 rfl (by simp) (by simp) k_5)
  go_enter Try.func3, Try.ntmps3
  go_wp2_with fail
  refine (F1.out w).mono ?_
  rintro e w1 ⟨rfl, r1⟩
  have R1 := Lib.hid r1
  clear r1
  go_wp2_with fail
  refine (F2.out w1).mono ?_
  rintro e w2 ⟨rfl, r2⟩
  have R2 := Lib.hid (R1.out.trans r2)
  clear r2
  go_wp2_with fail
  refine (F3.out w2).mono ?_
  rintro e w3 ⟨rfl, r3⟩
  have R3 := Lib.hid (R2.out.trans r3)
  clear r3
  go_wp2_with fail
  refine (bytesm_ok w3).mono ?_
  rintro e w4 ⟨rfl, hw4⟩
  have HO4 : Hid (w4.ownsRow w3.heap.size 5 1 (.slice (some ⟨w3.heap.size, 0, none⟩) 16 16) 16 (u8s echoBs)) := Lib.hid (by rw [hw4]; exact owns_row w3 (u8s echoBs) 5 (by simp [u8s, echoBs]))
  have r4 : Fr no w3 w4 := by rw [hw4]; exact (Fr.refl no w3).alloc _
  have r5 := r4.alloc (.cells #[.int .u8 9] 5)
  have q5 := (Fr.refl no w4).alloc (.cells #[.int .u8 9] 5)
  have HO5 := Lib.hid (owns_fr HO4.out q5 (by simp))
  have HR5 := Lib.hid (owns_reads (owns_row w4 (u8s [9]) 5 (by simp [u8s])))
  have R5 := Lib.hid (R3.out.trans r5)
  have S5 := Lib.hid r5.size
  clear hw4 r4 r5 q5 HO4 F1 F2 F3
  go_wp2_with (at_builtin; (refine wpList_guarded (by rfl) ?_); intro KK hKK; (refine wp_append_at (.tmp 15) (.tmp 16) 23 rfl w3.heap.size 5 (.int .u8 0) 1 1 Try.underlying23 Try.infoU8 rfl (by decide) _ 16 _ rfl HO5.out 1 _ HR5.out (u8s_one [9]) (by unfold maxLen; omega) (by omega) S5.out ?_); intro ga gc w6 ho hg hb; (refine hKK _ _ ?_); clear hKK)
  have F4 := Lib.hid (fails_own w6 w3.heap.size (.slice ga 17 gc) (echoBs ++ [9]) 4 16 (by simpa [u8s, echoBs] using ho) (by simp [echoBs]) (by intro b hb; simp [echoBs] at hb; omega) k_4)
  have R6 := Lib.hid (R5.out.trans' ((Fr.refl (fun k => (Value.slice (some ⟨w3.heap.size, 0, none⟩) 16 16).ownBlock = some k) _).grown hg (fun k hk => .inl hk)) (fun k hk _ => by have := (HO5.out.lt k hk).1; have := R3.out.size; omega))
  clear ho hg hb HO5 HR5 R5 S5
  go_wp2_with fail
  refine F4.out.mono ?_
  rintro e w7 ⟨rfl, r7⟩
  have R7 := Lib.hid (R6.out.trans r7)
  clear r7 F4
  go_wp2_with fail
  refine (F5.out w7).mono ?_
  rintro e w8 ⟨rfl, r8⟩
  have R8 := Lib.hid (R7.out.trans r8)
  clear r8 F5
  go_wp2_with fail
  refine (echo_ok w8).mono ?_
  rintro e w9 ⟨rfl, he9, r9⟩
  have E9 := Lib.hid he9
  have R9 := Lib.hid (R8.out.trans r9)
  clear he9 r9
  go_wp2_with fail
  refine (echo_ok w9).mono ?_
  rintro e w10 ⟨rfl, he10, r10⟩
  have E10 := Lib.hid (E9.out.fr r10)
  have E10b := Lib.hid he10
  have R10 := Lib.hid (R9.out.trans r10)
  have L10 : Hid (w8.heap.size + 2 < w9.heap.size ∧ w9.heap.size + 2 < w10.heap.size) := Lib.hid ⟨(Array.getElem?_eq_some_iff.1 E9.out.fn).1, (Array.getElem?_eq_some_iff.1 he10.fn).1⟩
  clear he10 r10 E9
  have rA := ((Fr.refl no w10).alloc (.cells #[.slice none 0 0, .slice (some ⟨w8.heap.size + 2, 0, none⟩) 1 1] 28)).alloc (.cells #[.slice none 0 0, .slice (some ⟨w9.heap.size + 2, 0, none⟩) 1 1] 28)
  have RA := Lib.hid (R10.out.trans rA)
  have EA := Lib.hid (E10.out.fr rA)
  have EB := Lib.hid (E10b.out.fr rA)
  have M1 := Lib.hid (heap_keep (heap_new w10 (.cells #[.slice none 0 0, .slice (some ⟨w8.heap.size + 2, 0, none⟩) 1 1] 28)) (.cells #[.slice none 0 0, .slice (some ⟨w9.heap.size + 2, 0, none⟩) 1 1] 28))
  have M2 := Lib.hid (heap_new2' w10 (.cells #[.slice none 0 0, .slice (some ⟨w8.heap.size + 2, 0, none⟩) 1 1] 28) (.cells #[.slice none 0 0, .slice (some ⟨w9.heap.size + 2, 0, none⟩) 1 1] 28))
  clear rA E10 E10b R10
  go_upto_region 3 with fail
  generalize (w10.alloc (.cells #[.slice none 0 0, .slice (some ⟨w8.heap.size + 2, 0, none⟩) 1 1] 28)).alloc (.cells #[.slice none 0 0, .slice (some ⟨w9.heap.size + 2, 0, none⟩) 1 1] 28) = w11 at *
  have m1 : w11.cell? ⟨w10.heap.size, 1, none⟩ = some (.slice (some ⟨w8.heap.size + 2, 0, none⟩) 1 1) := cell_of_heap M1.out rfl
  have a1 : w11.cell? ⟨w8.heap.size + 2, 1, none⟩ = some (.int .i64 1) := cell_of_heap EA.out.fn rfl
  have a2 : w11.frozen? ⟨w8.heap.size + 2, 1, none⟩ = false := frozen_of_heap EA.out.fn
  have r12 : Fr (only [w8.heap.size + 2]) w11 (w11.setCell ⟨w8.heap.size + 2, 1, none⟩ (.int .i64 0)) := (Fr.refl _ w11).setCell _ _ (.inl (by simp))
  have EA2 : Hid (EchoAt (w11.setCell ⟨w8.heap.size + 2, 1, none⟩ (.int .i64 0)) (w8.heap.size + 1) 0 0) := Lib.hid ⟨r12.heap EA.out.code (by simp), by
    have := heap_setCell (o := 1) (v := .int .i64 0) EA.out.fn
    simpa using this⟩
  have EB2 := Lib.hid (EchoAt.mk (r12.heap EB.out.code (by have := L10.out; simp; omega)) (r12.heap EB.out.fn (by have := L10.out; simp; omega)))
  have M1b := Lib.hid (r12.heap M1.out (by have := L10.out; simp; omega))
  have M2b := Lib.hid (r12.heap M2.out (by have := L10.out; simp; omega))
  have R12 : Hid (Fr (only [w8.heap.size + 2]) w11 (w11.setCell ⟨w8.heap.size + 2, 1, none⟩ (.int .i64 0))) := Lib.hid r12
  clear r12 EA EB M1 M2
  go_upto_region 4 with fail
  clear m1 a1 a2
  generalize w11.setCell ⟨w8.heap.size + 2, 1, none⟩ (.int .i64 0) = w12 at *
  have m1 : w12.cell? ⟨w10.heap.size + 1, 1, none⟩ = some (.slice (some ⟨w9.heap.size + 2, 0, none⟩) 1 1) := cell_of_heap M2b.out rfl
  have a1 : w12.cell? ⟨w9.heap.size + 2, 0, none⟩ = some (.int .i64 0) := cell_of_heap EB2.out.fn rfl
  have a2 : w12.frozen? ⟨w9.heap.size + 2, 0, none⟩ = false := frozen_of_heap EB2.out.fn
  have r13 : Fr (only [w9.heap.size + 2]) w12 (w12.setCell ⟨w9.heap.size + 2, 0, none⟩ (.int .i64 2)) := (Fr.refl _ w12).setCell _ _ (.inl (by simp))
  have EB3 : Hid (EchoAt (w12.setCell ⟨w9.heap.size + 2, 0, none⟩ (.int .i64 2)) (w9.heap.size + 1) 2 1) := Lib.hid ⟨r13.heap EB2.out.code (by simp), by
    have := heap_setCell (o := 0) (v := .int .i64 2) EB2.out.fn
    simpa using this⟩
  have EA3 := Lib.hid (EchoAt.mk (r13.heap EA2.out.code (by have := L10.out; simp; omega)) (r13.heap EA2.out.fn (by have := L10.out; simp; omega)))
  have M1c := Lib.hid (r13.heap M1b.out (by have := L10.out; simp; omega))
  have M2c := Lib.hid (r13.heap M2b.out (by have := L10.out; simp; omega))
  have R13 : Hid (Fr no w (w12.setCell ⟨w9.heap.size + 2, 0, none⟩ (.int .i64 2))) := Lib.hid ((RA.out.trans' R12.out (fun k hk _ => by simp at hk; have := R8.out.size; omega)).trans' r13 (fun k hk _ => by simp at hk; have := R9.out.size; omega))
  clear r13 EA2 EB2 M1b M2b R12
  go_upto_region 5 with fail
  clear m1 a1 a2
  generalize w12.setCell ⟨w9.heap.size + 2, 0, none⟩ (.int .i64 2) = w13 at *
  go_wp2_with fail
  refine (awake_ok w13).mono ?_
  rintro e w14 ⟨rfl, r14⟩
  have R14 := Lib.hid (R13.out.trans r14)
  have EA4 := Lib.hid (EA3.out.fr r14)
  have EB4 := Lib.hid (EB3.out.fr r14)
  have M1d := Lib.hid (r14.heap M1c.out (by simp))
  have M2d := Lib.hid (r14.heap M2c.out (by simp))
  have K1 := check_mod w14 ⟨[], []⟩ none 0 none 0 ⟨.inl ⟨rfl, rfl, rfl⟩, fun k hk => by simp at hk⟩ ⟨by simp, by simp, (fun f hf => by cases hf), (fun f hf => by cases hf)⟩
  rw [c_1] at K1
  dsimp only [List.length_nil] at K1
  have KH := Lib.hid K1
  clear r14 K1 EA3 EB3 M1c M2c R13
  go_wp2_with fail
  refine KH.out.mono ?_
  rintro e w15 ⟨rfl, r15⟩
  have R15 := Lib.hid (R14.out.trans r15)
  have EA5 := Lib.hid (EA4.out.fr r15)
  have EB5 := Lib.hid (EB4.out.fr r15)
  have M1e := Lib.hid (r15.heap M1d.out (by simp))
  have M2e := Lib.hid (r15.heap M2d.out (by simp))
  have K1 := check_mod w15 (echoX 0 0) none 0 _ 1 EA5.out.mod (echo_small 0 0)
  rw [c_2] at K1
  dsimp only [echoX, List.length_nil, List.length_cons, Nat.zero_add] at K1
  have KH2 := Lib.hid K1
  obtain ⟨m0, m1⟩ := cells2 M1e.out
  clear r15 K1 EA4 EB4 M1d M2d R14 KH
  go_wp2_with fail
  refine KH2.out.mono ?_
  rintro e w16 ⟨rfl, r16⟩
  have R16 := Lib.hid (R15.out.trans r16)
  have EB6 := Lib.hid (EB5.out.fr r16)
  have M2f := Lib.hid (r16.heap M2e.out (by simp))
  have K1 := check_mod w16 (echoX 2 1) none 0 _ 1 EB6.out.mod (echo_small 2 1)
  rw [c_3] at K1
  dsimp only [echoX, List.length_nil, List.length_cons, Nat.zero_add] at K1
  have KH3 := Lib.hid K1
  clear m0 m1
  obtain ⟨m0, m1⟩ := cells2 M2f.out
  clear r16 K1 EA5 EB5 M1e M2e R15 KH2
  go_wp2_with fail
  refine KH3.out.mono ?_
  rintro e w17 ⟨rfl, r17⟩
  have R17 := Lib.hid (R16.out.trans r17)
  clear r17
  go_wp2_with fail
  go_ret
  exact ⟨rfl, R17.out⟩

end Go.Proofs.Ytdngflhfhmnipaa

import Derived.Test.YtajfhgphbcmmhaaLH
import Derived.Test.YtajfhgphbcmmhaaLG
set_option linter.unusedSimpArgs false
set_option linter.unusedVariables false
set_option linter.unusedSectionVars false
set_option linter.unnecessarySimpa false
namespace Go.Proofs.Ytajfhgphbcmmhaa
open Go.RowKit

attribute [local go_sem] Program.isFuncB Program.isSliceB

variable {w w' w'' w0 : World}

theorem le_lt (x : Nat) : ∀ (n : Nat), ∀ b ∈ le x n, b < 256
  | 0, b, h => by simp [le] at h
  | n + 1, b, h => by
    simp only [le, List.mem_append, List.mem_singleton] at h
    rcases h with h | rfl
    · exact le_lt x n b h
    · omega
theorem encSt_lt (o A B C N : Int) (l : List Int) (h0 : o.toNat < 256) (hl : l.length ≤ 8) (ha : ∀ z ∈ l, z.toNat < 256) : ∀ (s : List UInt8) (st : List Nat × Nat), (∀ b ∈ st.1, b < 256) → ∀ b ∈ (s.foldl (stepE A B C N l) st).1, b < 256
  | [], st, h => h
  | c :: s, st, h => by
    rw [List.foldl_cons]
    refine encSt_lt o A B C N l h0 hl ha s _ ?_
    intro b hb
    unfold stepE at hb
    split at hb
    · simp only [List.mem_append, List.mem_cons, List.mem_map] at hb
      rcases hb with hb | rfl | ⟨z, hz, rfl⟩
      · exact h b hb
      · omega
      · exact ha z hz
    · simp only [List.mem_append] at hb
      rcases hb with hb | hb
      · exact h b hb
      · exact le_lt _ _ b hb
theorem encE_lt (i : Ix) : ∀ b ∈ encE i, b < 256 := by
  unfold encE
  split
  · rename_i h
    have hf := (fine_iff _ _ _ _ _ _ _ _).1 h
    unfold enc encSt
    refine encSt_lt i.o i.A i.B i.C i.N i.l (by have := hf.op; omega) (by have := hf.few; omega) (fun z hz => ?_) _ _ (fun b hb => by simp at hb; have := hf.op; omega)
    have := hf.all
    rw [List.any_append] at this
    simp only [Bool.or_eq_true, not_or, List.any_eq_true, not_exists, not_and] at this
    have h2 := this.2 z hz
    unfold out1 at h2
    simp at h2
    omega
  · intro b hb; cases hb

/-- an instruction's bytes are just these -/
theorem put_is (w : World) (i : Ix) (u wv : Value) (want : List Nat) (hu : Reads w u 1 i.l.length (ints i.l)) (hl : i.l.length ≤ 1000) (hw : Reads w wv 1 want.length (u8s want)) (h0 : ckOf i = 0) (he : encE i = want) :
    Calls Try.prog 31 #[insV i.o i.A i.B i.C i.N u, wv] w fun e w' => e = .returned (.bool true) ∧ Fr no w w' := by
  obtain ⟨wa, wc, rfl⟩ := hw.shape
  obtain ⟨ua, uc, rfl⟩ := hu.shape
  have r0 := (Fr.refl no w).alloc (.cells #[.int .i64 i.o, .int .i64 i.A, .int .i64 i.B, .int .i64 i.C, .int .i64 i.N, .slice ua i.l.length uc] 35)
  have R0 := Lib.hid r0
  have HI0 := Lib.hid (insObj w i.o i.A i.B i.C i.N (.slice ua i.l.length uc))
  have HP := Lib.hid (put_any (w.alloc (.cells #[.int .i64 i.o, .int .i64 i.A, .int .i64 i.B, .int .i64 i.C, .int .i64 i.N, .slice ua i.l.length uc] 35)) i _ (hu.fr r0 (by simp)) (by omega))
  have HLN := Lib.hid (fun w1 (r : Fr no w w1) => length_ok w1 i _ (hu.fr r (by simp)) (by omega))
  have HSB := Lib.hid (fun w1 (v : Value) (r : Fr no w w1) (h : Reads w1 v 1 (encE i).length (u8s (encE i))) => samebytes_ok w1 v _ (encE i) want h (hw.fr r (by simp)) (encE_lt i) (by rw [← he]; exact encE_lt i))
  have HE := Lib.hid he
  have HLW : Hid ((encE i).length = want.length) := Lib.hid (by rw [he])
  rw [h0] at HP
  clear r0 hu hw h0 he
  obtain ⟨io, iA, iB, iC, iN, il⟩ := i
  dsimp only at HP HLN HI0 R0 ⊢
  generalize encE ⟨io, iA, iB, iC, iN, il⟩ = en at *
  unfold insV at HP HLN ⊢
  go_enter Try.func31, Try.ntmps31
  obtain ⟨c0, c1, c2, c3, c4, c5⟩ := cells6 HI0.out
  go_wp2_with fail
  refine HP.out.mono ?_
  rintro e w2 ⟨v, rfl, hv, r2⟩
  have R2 := Lib.hid (R0.out.trans r2)
  have HI2 := Lib.hid (r2.heap HI0.out (by simp))
  have HS2 := Lib.hid (HSB.out w2 v (R0.out.trans r2) (owns_reads hv))
  have HL2 := Lib.hid (fun w3 r => HLN.out w3 (R2.out.trans r))
  obtain ⟨va, vc, rfl⟩ := owns_shape hv
  clear r2 hv c0 c1 c2 c3 c4 c5
  obtain ⟨c0, c1, c2, c3, c4, c5⟩ := cells6 HI2.out
  go_wp2_with fail
  refine HS2.out.mono ?_
  rintro e w3 ⟨rfl, rfl⟩
  rw [show decide (en = want) = true from decide_eq_true HE.out]
  have HL3 := Lib.hid (HL2.out _ (Fr.refl no w2))
  rw [HLW.out] at HL3
  go_wp2_with fail
  refine HL3.out.mono ?_
  rintro e w4 ⟨rfl, r4⟩
  have R4 := Lib.hid (R2.out.trans r4)
  clear r4 c0 c1 c2 c3 c4 c5
  go_wp2_with fail
  go_ret
  exact ⟨rfl, R4.out⟩

theorem load_ins (w : World) (b : Nat) (cs : Array Value) (h : w.heap[b]? = some (.cells cs 35 (0, 0))) (hcs : cs.size = 6) : (loadVar 35 ⟨b, 0, none⟩).run Try.prog w = .ok (.agg cs) w :=
  run_loadVar_row w _ _ _ cs (0, 0) _ h Try.underlying35 rfl (by rw [Try.infoIns, hcs])

set_option maxRecDepth 100000 in
set_option maxHeartbeats 4000000 in
/-- that is what is wrong with the first instruction of bytes -/
theorem fails_yes (w : World) (bv : Value) (bs : List Nat) (er fa : Int) (hb : Bytes w bv bs) (hg : getR bs 0 = failG er fa) :
    Calls Try.prog 32 #[bv, .int .i64 er, .int .i64 fa] w fun e w' => e = .returned (.bool true) ∧ Fr no w w' := by
  have HG := Lib.hid (get_any w bv bs 0 hb)
  rw [hg] at HG
  have HSI := Lib.hid (fun w1 u (h : Reads w1 u 1 0 (ints [])) => sameins_ok w1 0 0 0 0 0 0 0 0 0 0 u (.slice none 0 0) [] [] h (.inl ⟨rfl, rfl, rfl⟩) (by simp))
  clear hb hg
  unfold insV at HSI
  go_enter Try.func32, Try.ntmps32
  go_wp2_with fail
  refine HG.out.mono ?_
  rintro e w2 ⟨u, rfl, hu, r2⟩
  obtain ⟨ua, uc, rfl⟩ := owns_shape hu
  unfold resV failG
  dsimp only [failG] at hu ⊢
  have HU := Lib.hid (owns_reads hu)
  have R2 := Lib.hid r2
  clear hu r2
  have HW0 := Lib.hid (RW.start w2 zeroIns 0 0)
  unfold zeroIns at HW0
  have HW1 := Lib.hid (HW0.out.set1 #[.int .i64 0, .int .i64 0, .int .i64 0, .int .i64 0, .int .i64 0, .slice ua 0 uc])
  have HW2 := Lib.hid (HW1.out.set2 er fa)
  go_upto_region 2 with (first
    | (refine wpList_store_row rfl 35 (.tmp 7) (.tmp 13) rfl w2.heap.size #[.int .i64 0, .int .i64 0, .int .i64 0, .int .i64 0, .int .i64 0, .slice ua 0 uc] rfl rfl _ _ HW0.out.ins (by rw [Try.infoIns]; rfl) rfl (by simp [Value.oneCell']) ?_; rw [act_put_none])
    | (refine wpList_store_row rfl 42 (.tmp 9) (.tmp 15) rfl (w2.heap.size + 1) #[.int .i64 er, .int .i64 fa] rfl rfl _ _ HW1.out.fault (by rw [Try.infoFault]; rfl) rfl (by simp [Value.oneCell']) ?_; rw [act_put_none]))
  clear HW0 HW1
  generalize World.setRow _ (w2.heap.size + 1) #[.int .i64 er, .int .i64 fa] = w3 at *
  have HU3 := Lib.hid (HU.out.fr HW2.out.fr (by simp))
  have R3 := Lib.hid (R2.out.trans HW2.out.fr)
  have HS3 := Lib.hid (HSI.out w3 _ HU3.out)
  obtain ⟨c0, c1, c2, c3, c4, c5⟩ := cells6 HW2.out.ins
  have d0 : w3.cell? ⟨w2.heap.size + 1, 0, none⟩ = some (.int .i64 er) := cell_of_heap HW2.out.fault rfl
  have d1 : w3.cell? ⟨w2.heap.size + 1, 1, none⟩ = some (.int .i64 fa) := cell_of_heap HW2.out.fault rfl
  go_wp2_with fail
  refine HS3.out.mono ?_
  rintro e w4 ⟨rfl, r4⟩
  have R4 := Lib.hid (R3.out.trans r4)
  clear r4 c0 c1 c2 c3 c4 c5 d0 d1
  go_wp2_with fail
  go_ret
  exact ⟨by simp, R4.out⟩

end Go.Proofs.Ytajfhgphbcmmhaa

namespace Go.Proofs.Ytajfhgphbcmmhaa
open Go.RowKit

attribute [local go_sem] Program.isFuncB Program.isSliceB

variable {w w' w'' w0 : World}

/-- a literal of bytes -/
theorem bytes_lit (w : World) (bs : List Nat) (cs : Array Value) (hcs : (u8s bs).toArray = cs) (hl : bs.length ≤ 1000) (hb : ∀ b ∈ bs, b < 256) : Bytes (w.alloc (.cells cs 5)) (.slice (some ⟨w.heap.size, 0, none⟩) bs.length bs.length) bs := by
  subst hcs
  have h := owns_reads (owns_row w (u8s bs) 5 (by rw [u8s_len]; omega))
  rw [u8s_len] at h
  exact ⟨h, hb, by omega, fun k hk => by cases hk; simp⟩

theorem getR_awake : getR [0, 3, 0, 1, 2] 1 = ⟨⟨3, 0, 1, 2, 0, []⟩, 5, 0, 0⟩ := by kernel_rfl
theorem enc_add : ckOf ⟨3, 0, 1, 2, 0, []⟩ = 0 ∧ encE ⟨3, 0, 1, 2, 0, []⟩ = [3, 0, 1, 2] := ⟨by kernel_rfl, by kernel_rfl⟩
theorem enc_nop : ckOf ⟨0, 0, 0, 0, 0, []⟩ = 0 ∧ encE ⟨0, 0, 0, 0, 0, []⟩ = [0] := ⟨by kernel_rfl, by kernel_rfl⟩

set_option maxRecDepth 100000 in
set_option maxHeartbeats 4000000 in
/-- some of the chapter's examples -/
theorem awake_ok (w : World) : Calls Try.prog 10 #[] w fun e w' => e = .returned (.bool true) ∧ Fr no w w' := by
  have HB := Lib.hid (bytes_lit w [0, 3, 0, 1, 2] #[.int .u8 0, .int .u8 3, .int .u8 0, .int .u8 1, .int .u8 2] rfl (by decide) (by decide))
  have R0 := Lib.hid ((Fr.refl no w).alloc (.cells #[.int .u8 0, .int .u8 3, .int .u8 0, .int .u8 1, .int .u8 2] 5))
  have HG := Lib.hid (get_any _ _ _ 1 HB.out)
  rw [getR_awake] at HG
  have HIS := Lib.hid (fun w1 i u wv want => put_is w1 i u wv want)
  unfold insV at HIS
  have HSI := Lib.hid (fun w1 u (h : Reads w1 u 1 0 (ints [])) => sameins_ok w1 3 0 1 2 0 3 0 1 2 0 u (.slice none 0 0) [] [] h (.inl ⟨rfl, rfl, rfl⟩) (by simp))
  unfold insV at HSI
  clear HB
  go_enter Try.func10, Try.ntmps10
  go_wp2_with fail
  refine HG.out.mono ?_
  rintro e w2 ⟨u, rfl, hu, r2⟩
  obtain ⟨ua, uc, rfl⟩ := owns_shape hu
  unfold resV
  dsimp only at hu ⊢
  have HU := Lib.hid (owns_reads hu)
  have R2 := Lib.hid (R0.out.trans r2)
  clear hu r2
  have HW0 := Lib.hid (RW.start w2 zeroIns 0 0)
  unfold zeroIns at HW0
  have HW1 := Lib.hid (HW0.out.set1 #[.int .i64 3, .int .i64 0, .int .i64 1, .int .i64 2, .int .i64 0, .slice ua 0 uc])
  have HW2 := Lib.hid (HW1.out.set2 0 0)
  go_upto_region 2 with (first
    | (refine wpList_store_row rfl 35 (.tmp 1) (.tmp 8) rfl w2.heap.size #[.int .i64 3, .int .i64 0, .int .i64 1, .int .i64 2, .int .i64 0, .slice ua 0 uc] rfl rfl _ _ HW0.out.ins (by rw [Try.infoIns]; rfl) rfl (by simp [Value.oneCell']) ?_; rw [act_put_none])
    | (refine wpList_store_row rfl 42 (.tmp 3) (.tmp 10) rfl (w2.heap.size + 1) #[.int .i64 0, .int .i64 0] rfl rfl _ _ HW1.out.fault (by rw [Try.infoFault]; rfl) rfl (by simp [Value.oneCell']) ?_; rw [act_put_none]))
  clear HW0 HW1
  generalize World.setRow _ (w2.heap.size + 1) #[.int .i64 0, .int .i64 0] = w3 at *
  have HU3 := Lib.hid (HU.out.fr HW2.out.fr (by simp))
  have R3 := Lib.hid (R2.out.trans HW2.out.fr)
  have HX0 := Lib.hid (heap_new w3 (.cells #[.int .i64 0, .int .i64 0, .int .i64 0, .int .i64 0, .int .i64 0, .slice none 0 0] 35))
  go_upto_region 3 with (refine wpList_store_row rfl 35 (.tmp 4) (.tmp 11) rfl w3.heap.size #[.int .i64 3, .int .i64 0, .int .i64 1, .int .i64 2, .int .i64 0, .slice none 0 0] rfl rfl _ _ HX0.out (by rw [Try.infoIns]; rfl) rfl (by simp [Value.oneCell']) ?_; rw [act_put_none])
  have HX1 := Lib.hid (setRow_heap _ w3.heap.size _ #[.int .i64 3, .int .i64 0, .int .i64 1, .int .i64 2, .int .i64 0, .slice none 0 0] _ _ HX0.out)
  have ra := (Fr.refl no w3).alloc (.cells #[.int .i64 0, .int .i64 0, .int .i64 0, .int .i64 0, .int .i64 0, .slice none 0 0] 35)
  have rb := ra.trans' (fr_setRow (g := w3.heap.size) (cs := #[.int .i64 3, .int .i64 0, .int .i64 1, .int .i64 2, .int .i64 0, .slice none 0 0]) (Fr.refl (only [w3.heap.size]) _) (.inl (by simp))) (fun k hk _ => by simp at hk; omega)
  have HN4 := Lib.hid rb
  clear ra rb HX0
  generalize World.setRow _ w3.heap.size #[.int .i64 3, .int .i64 0, .int .i64 1, .int .i64 2, .int .i64 0, .slice none 0 0] = w4 at *
  have R4 := Lib.hid (R3.out.trans HN4.out)
  have HU4 := Lib.hid (HU3.out.fr HN4.out (by simp))
  have HA4 := Lib.hid (HN4.out.heap HW2.out.ins (by simp))
  have HF4 := Lib.hid (HN4.out.heap HW2.out.fault (by simp))
  clear HN4 HU3 R3
  have HBA := Lib.hid (bytes_lit w4 [3, 0, 1, 2] #[.int .u8 3, .int .u8 0, .int .u8 1, .int .u8 2] rfl (by decide) (by decide))
  have r5 := (Fr.refl no w4).alloc (.cells #[.int .u8 3, .int .u8 0, .int .u8 1, .int .u8 2] 5)
  have R5 := Lib.hid r5
  clear r5
  have HC1 := Lib.hid (HIS.out _ ⟨3, 0, 1, 2, 0, []⟩ (.slice none 0 0) _ [3, 0, 1, 2] (.inl ⟨rfl, rfl, rfl⟩) (by simp) HBA.out.reads enc_add.1 enc_add.2)
  obtain ⟨x0, x1, x2, x3, x4, x5⟩ := cells6 HX1.out
  go_wp2_with fail
  refine HC1.out.mono ?_
  rintro e w6 ⟨rfl, r6⟩
  have R6 := Lib.hid (R5.out.trans r6)
  clear r6
  have HBB := Lib.hid (bytes_lit w6 [0] #[.int .u8 0] rfl (by decide) (by decide))
  have r7 := (Fr.refl no w6).alloc (.cells #[.int .u8 0] 5)
  have R7 := Lib.hid (R6.out.trans r7)
  clear r7
  have HC2 := Lib.hid (HIS.out _ ⟨0, 0, 0, 0, 0, []⟩ (.slice none 0 0) _ [0] (.inl ⟨rfl, rfl, rfl⟩) (by simp) HBB.out.reads enc_nop.1 enc_nop.2)
  go_wp2_with fail
  refine HC2.out.mono ?_
  rintro e w8 ⟨rfl, r8⟩
  have R8 := Lib.hid (R7.out.trans r8)
  clear r8 x0 x1 x2 x3 x4 x5
  have HA8 := Lib.hid (R8.out.heap HA4.out (by simp))
  have HF8 := Lib.hid (R8.out.heap HF4.out (by simp))
  have HX8 := Lib.hid (R8.out.heap HX1.out (by simp))
  have HU8 := Lib.hid (HU4.out.fr R8.out (by simp))
  have HC3 := Lib.hid (HSI.out w8 _ HU8.out)
  obtain ⟨x0, x1, x2, x3, x4, x5⟩ := cells6 HX8.out
  obtain ⟨y0, y1, y2, y3, y4, y5⟩ := cells6 HA8.out
  have d0 : w8.cell? ⟨w2.heap.size + 1, 0, none⟩ = some (.int .i64 0) := cell_of_heap HF8.out rfl
  have d1 : w8.cell? ⟨w2.heap.size + 1, 1, none⟩ = some (.int .i64 0) := cell_of_heap HF8.out rfl
  go_wp2_with fail
  refine HC3.out.mono ?_
  rintro e w9 ⟨rfl, r9⟩
  have R9 := Lib.hid ((R4.out.trans R8.out).trans r9)
  clear r9 x0 x1 x2 x3 x4 x5 y0 y1 y2 y3 y4 y5 d0 d1
  go_wp2_with fail
  go_ret
  exact ⟨by simp, R9.out⟩

end Go.Proofs.Ytajfhgphbcmmhaa

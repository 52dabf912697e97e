/- FlowKnown's walk. -/
import Derived.Test.YtgofiaodncemiaaFj
set_option linter.unusedSimpArgs false
set_option linter.unusedVariables false
set_option linter.unusedSectionVars false
set_option linter.unnecessarySimpa false
namespace Go.Proofs.Ytgofiaodncemiaa
open Go.RowKit Go.Flow

attribute [local go_sem] Program.isFuncB Program.isSliceB

variable {w w' w'' w0 : World}

def wantBs : List Bk := [⟨0, 2, [1]⟩, ⟨2, 4, [0]⟩, ⟨4, 5, []⟩, ⟨5, 6, []⟩]
theorem six_bks : (blks (fis sixL)).map bkT = wantBs.map bkT := by kernel_rfl
theorem six_bl : (blks (fis sixL)).length = 4 := by kernel_rfl
theorem six_bn : ∀ b ∈ blks (fis sixL), b.nx.length ≤ 100000 := by
  intro b hb
  have h : bkT b ∈ (blks (fis sixL)).map bkT := List.mem_map_of_mem hb
  rw [six_bks] at h
  simp [wantBs, bkT] at h
  rcases h with ⟨_, _, h⟩ | ⟨_, _, h⟩ | ⟨_, _, h⟩ | ⟨_, _, h⟩ <;> rw [h] <;> simp
def wantV (b : Nat) : List Value := [.slice (some ⟨b, 0, none⟩) 1 1, .slice (some ⟨b + 1, 0, none⟩) 1 1, .slice none 0 0, .slice none 0 0]
def wantBW (w : World) : World := ((w.alloc (.cells #[.int .i64 1] 3)).alloc (.cells #[.int .i64 0] 3)).alloc
  (.cells #[.int .i64 0, .int .i64 2, .slice (some ⟨w.heap.size, 0, none⟩) 1 1, .int .i64 2, .int .i64 4, .slice (some ⟨w.heap.size + 1, 0, none⟩) 1 1, .int .i64 4, .int .i64 5, .slice none 0 0, .int .i64 5, .int .i64 6, .slice none 0 0] 39)
theorem wantB_ok (w : World) : BlkIn (wantBW w) (.slice (some ⟨w.heap.size + 1 + 1, 0, none⟩) 4 4) wantBs ∧ Fr no w (wantBW w) := by
  have h0 : (wantBW w).heap[w.heap.size]? = some (.cells #[.int .i64 1] 3 (0, 0)) := hkeep (hkeep (heap_here rfl) _) _
  have h1 : (wantBW w).heap[w.heap.size + 1]? = some (.cells #[.int .i64 0] 3 (0, 0)) := hkeep (heap_here (by simp)) _
  have h2 : (wantBW w).heap[w.heap.size + 1 + 1]? = some (.cells (bCells wantBs (wantV w.heap.size)).toArray 39 (0, 0)) := heap_here (by simp)
  refine ⟨⟨wantV w.heap.size, rfl, ?_, fun k v b hv hb => ?_⟩, (((Fr.refl no w).alloc _).alloc _).alloc _⟩
  · refine .inr ⟨_, 4, rfl, Nat.le_refl _, by unfold maxLen; omega, rfl, fun j u hu => ?_⟩
    rw [Addr.add_lit, Nat.zero_add]
    exact cell_of_heap h2 (by simpa using hu)
  · have hk : k < 4 := by have := (List.getElem?_eq_some_iff.1 hb).1; simpa [wantBs] using this
    have h : k = 0 ∨ k = 1 ∨ k = 2 ∨ k = 3 := by omega
    rcases h with rfl | rfl | rfl | rfl <;> (simp [wantV, wantBs] at hv hb; subst hv; subst hb)
    · exact reads_num h0
    · exact reads_num h1
    · exact .inl ⟨rfl, rfl, rfl⟩
    · exact .inl ⟨rfl, rfl, rfl⟩
theorem ck_nil : flowCk [] = 10 := by kernel_rfl
theorem ck_nop : flowCk [lit 0 0] = 10 := by kernel_rfl
theorem ck_jmp1 : flowCk [lit 25 1] = 13 := by kernel_rfl
theorem ck_jmp0 : flowCk [lit 25 0] = 0 := by kernel_rfl
/-- Check of one instruction that was typed in -/
theorem check_one (w : World) (o N ck : Int) (hN : rng N) (h : flowCk [lit o N] = ck) :
    Calls Try.prog 13 #[.slice (some ⟨w.heap.size, 0, none⟩) 1 1] (w.alloc (.cells #[.int .i64 o, .int .i64 0, .int .i64 0, .int .i64 0, .int .i64 N, .slice none 0 0] 42)) fun e w' => e = .returned (.int .i64 ck) ∧ Fr no (w.alloc (.cells #[.int .i64 o, .int .i64 0, .int .i64 0, .int .i64 0, .int .i64 N, .slice none 0 0] 42)) w' := by
  have hc : CodeIn (w.alloc (.cells #[.int .i64 o, .int .i64 0, .int .i64 0, .int .i64 0, .int .i64 N, .slice none 0 0] 42)) (some ⟨w.heap.size, 0, none⟩) [lit o N] := codeIn_lit (heap_new w _) (by intro i hi; simp at hi; subst hi; rfl)
  have := fcheck_ok _ _ 1 [lit o N] hc (by simp) (by intro i hi; simp at hi; subst hi; simp [lit]) (by intro i hi; simp at hi; subst hi; exact hN)
  rw [h] at this
  exact this

set_option maxRecDepth 100000 in
set_option maxHeartbeats 8000000 in
theorem known10_ok (w : World) : Calls Try.prog 4 #[] w fun e w' => e = .returned (.bool true) ∧ Fr no w w' := by
  go_enter Try.func4, Try.ntmps4
  go_wp2_with fail
  refine (six_ok w).mono ?_
  rintro e w1 ⟨rfl, hc1, r1⟩
  have HBL : Hid (Calls Try.prog 11 #[.slice (some ⟨w.heap.size, 0, none⟩) 6 6] w1 (BlkPost w1 0 (blks (fis sixL)))) := Lib.hid (by
    have := fblocks_ok w1 _ 6 sixL hc1 (by decide) six_few six_rng
    rw [six_ck] at this
    exact this)
  have R1 := Lib.hid r1
  clear r1 hc1
  go_wp2_with fail
  refine HBL.out.mono ?_
  rintro e w2 ⟨u, rfl, -, hg, r2⟩
  have HB2 := Lib.hid (hg rfl).blk
  obtain ⟨ua, uc, rfl⟩ := HB2.out.shape
  have R2 := Lib.hid (R1.out.trans r2)
  clear r2 hg HBL R1
  rw [six_bl] at HB2 ⊢
  go_upto_region 3 with fail
  have HW := Lib.hid (wantB_ok w2).1
  have HB3 := Lib.hid (HB2.out.fr (wantB_ok w2).2)
  have R3 := Lib.hid (R2.out.trans (wantB_ok w2).2)
  obtain ⟨b0, hb0⟩ : ∃ b, b = w2.heap.size + 1 + 1 := ⟨_, rfl⟩
  rw [← hb0] at HW ⊢
  clear hb0 HB2 R2
  change Code.wp _ _ _ _ (wantBW w2)
  generalize wantBW w2 = w3 at *
  go_wp2_with fail
  have CN : Hid (Calls Try.prog 13 #[.slice none 0 0] w3 fun e w' => e = .returned (.int .i64 10) ∧ Fr no w3 w') := Lib.hid (by
    have := fcheck_ok w3 none 0 [] (fun k hk => by simp at hk) (by simp) (by simp) (by simp)
    rw [ck_nil] at this
    exact this)
  refine CN.out.mono ?_
  rintro e w4 ⟨rfl, r4⟩
  have HW4 := Lib.hid (HW.out.fr r4)
  have HB4 := Lib.hid (HB3.out.fr r4)
  have R4 := Lib.hid (R3.out.trans r4)
  clear r4 HW HB3 R3 CN
  go_wp2_with fail
  refine (check_one w4 0 0 10 (by unfold rng; omega) ck_nop).mono ?_
  rintro e w5 ⟨rfl, r5'⟩
  have r5 := ((Fr.refl no w4).alloc _).trans r5'
  have HW5 := Lib.hid (HW4.out.fr r5)
  have HB5 := Lib.hid (HB4.out.fr r5)
  have R5 := Lib.hid (R4.out.trans r5)
  clear r5 r5' HW4 HB4 R4
  go_wp2_with fail
  refine (check_one w5 25 1 13 (by unfold rng; omega) ck_jmp1).mono ?_
  rintro e w6 ⟨rfl, r6'⟩
  have r6 := ((Fr.refl no w5).alloc _).trans r6'
  have HW6 := Lib.hid (HW5.out.fr r6)
  have HB6 := Lib.hid (HB5.out.fr r6)
  have R6 := Lib.hid (R5.out.trans r6)
  clear r6 r6' HW5 HB5 R5
  go_wp2_with fail
  refine (check_one w6 25 0 0 (by unfold rng; omega) ck_jmp0).mono ?_
  rintro e w7 ⟨rfl, r7'⟩
  have r7 := ((Fr.refl no w6).alloc _).trans r7'
  have HW7 := Lib.hid (HW6.out.fr r7)
  have HB7 := Lib.hid (HB6.out.fr r7)
  have R7 := Lib.hid (R6.out.trans r7)
  clear r7 r7' HW6 HB6 R6
  go_wp2_with fail
  refine (awake10_ok w7).mono ?_
  rintro e w8 ⟨rfl, r8⟩
  have SB : Hid (Calls Try.prog 14 #[.slice ua 4 uc, .slice (some ⟨b0, 0, none⟩) 4 4] w8 fun e w' => e = .returned (.bool true) ∧ Fr no w8 w') := Lib.hid (by
    have h1 := HB7.out.fr r8
    have h2 := HW7.out.fr r8
    have := sameblocks_ok w8 ua (some ⟨b0, 0, none⟩) uc 4 (blks (fis sixL)) wantBs (by rw [six_bl]; exact h1) h2 (by rw [six_bl]; decide) six_bn
    rw [decide_eq_true six_bks, six_bl] at this
    exact this)
  have R8 := Lib.hid (R7.out.trans r8)
  clear r8 HW7 HB7 R7
  have e0 : ((0 : Int) == 0) = true := rfl
  go_wp2_with fail
  refine SB.out.mono ?_
  rintro e w9 ⟨rfl, r9⟩
  have R9 := Lib.hid (R8.out.trans r9)
  clear r9
  go_wp2_with fail
  go_ret
  exact ⟨rfl, R9.out⟩

end Go.Proofs.Ytgofiaodncemiaa

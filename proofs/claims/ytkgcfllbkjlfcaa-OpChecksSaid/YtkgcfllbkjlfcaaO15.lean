import Derived.Test.YtkgcfllbkjlfcaaO14
namespace Go.Proofs.Ytkgcfllbkjlfcaa
open Go.RowKit

attribute [local go_sem] Program.isFuncB Program.isSliceB

variable {w w' w'' w0 : World}

/-- is N as a letter says? -/
def numOk (c N area : Int) : Bool :=
  if c = 107 then decide (1 ≤ N ∧ N ≤ 6) else if c = 109 then decide (1 ≤ N ∧ N ≤ 7) else if c = 122 then decide (N = 1 ∨ N = 2 ∨ N = 4 ∨ N = 8)
  else if c = 102 then decide (0 ≤ N ∧ N ≤ area) else if c = 100 then decide (0 ≤ N ∧ N ≤ 8192) else if c = 116 then decide (0 ≤ N ∧ N ≤ 4095) else if c = 99 then decide (0 ≤ N ∧ N ≤ 63) else true

def checkOf (o A B C N : Int) (l : List Int) (regs area : Int) : Int :=
  if ¬ (0 ≤ o ∧ o < 33) then 16
  else if regs < 0 ∨ 64 < regs ∨ area < 0 ∨ 4096 < area ∨ bareB o A B C N l.length = false then 2
  else if 8 < l.length then 3
  else if ((fieldsOf [A, B, C] (sh o)).1 ++ l).any (out1 regs) = true then 5
  else if (sh o).any (fun c => !numOk c.toNat N area) = true then 5
  else 0

theorem numOk_b (c N area : Int) (h : c ≠ 122) : numOk c N area = (!(boundsOf c area).2.2 || decide ((boundsOf c area).1 ≤ N ∧ N ≤ (boundsOf c area).2.1)) := by
  unfold numOk boundsOf
  repeat' split
  all_goals first | (simp; done) | (exfalso; omega)

set_option maxRecDepth 100000 in
set_option maxHeartbeats 4000000 in
theorem check_ok (w : World) (o A B C N regs area : Int) (u : Value) (l : List Int) (hu : Reads w u 1 l.length (ints l)) (hl : l.length ≤ 100000) :
    Calls Try.prog 15 #[insV o A B C N u, .int .i64 regs, .int .i64 area] w fun e w' => e = .returned (.int .i64 (checkOf o A B C N l regs area)) ∧ Fr no w w' := by
  obtain ⟨ua, uc, rfl⟩ := hu.shape
  have HI := Lib.hid (fun w => is_all w o)
  have HU := Lib.hid hu
  have HB := Lib.hid (fun w => bare_ok w o A B C N ua uc l.length)
  have HF := Lib.hid (fun w => fields_ok w o A B C N (.slice ua l.length uc))
  have HSH := Lib.hid (fun w => shape_all w o)
  have HOB := Lib.hid (insObj w o A B C N (.slice ua l.length uc))
  have R0 : Hid (Fr no w ((w.alloc (.cells #[.int .i64 o, .int .i64 A, .int .i64 B, .int .i64 C, .int .i64 N, .slice ua l.length uc] 30)).alloc (.cells #[.int .i64 regs] 3))) := Lib.hid (((Fr.refl no w).alloc _).alloc _)
  clear hu
  by_cases his : 0 ≤ o ∧ o < 33
  case neg =>
    have hd : Hid (decide (0 ≤ o ∧ o < 33) = false) := Lib.hid (decide_eq_false his)
    have HR : Hid (checkOf o A B C N l regs area = 16) := Lib.hid (by unfold checkOf; rw [if_pos his])
    rw [hd.out] at HI
    rw [HR.out]
    unfold insV at *
    clear his
    go_enter Try.func15, Try.ntmps15
    go_wp2_with fail
    refine (HI.out _).mono ?_
    rintro e w' ⟨rfl, rfl⟩
    go_wp2_with fail
    go_ret
    exact ⟨rfl, R0.out⟩
  have hd : Hid (decide (0 ≤ o ∧ o < 33) = true) := Lib.hid (decide_eq_true his)
  rw [hd.out] at HI
  have HIS := Lib.hid his
  clear his
  by_cases hra : regs < 0 ∨ 64 < regs ∨ area < 0 ∨ 4096 < area
  case pos =>
    have HR : Hid (checkOf o A B C N l regs area = 2) := Lib.hid (by
      unfold checkOf
      rw [if_neg (fun h => h HIS.out), if_pos (by rcases hra with h | h | h | h; exact .inl h; exact .inr (.inl h); exact .inr (.inr (.inl h)); exact .inr (.inr (.inr (.inl h))))])
    rw [HR.out]
    unfold insV at *
    by_cases h1 : regs < 0
    · clear hra
      go_enter Try.func15, Try.ntmps15
      go_wp2_with fail
      refine (HI.out _).mono ?_
      rintro e w' ⟨rfl, rfl⟩
      go_wp2_with fail
      go_ret
      exact ⟨rfl, R0.out⟩
    by_cases h2 : 64 < regs
    · clear hra
      go_enter Try.func15, Try.ntmps15
      go_wp2_with fail
      refine (HI.out _).mono ?_
      rintro e w' ⟨rfl, rfl⟩
      go_wp2_with fail
      go_ret
      exact ⟨rfl, R0.out⟩
    by_cases h3 : area < 0
    · clear hra
      go_enter Try.func15, Try.ntmps15
      go_wp2_with fail
      refine (HI.out _).mono ?_
      rintro e w' ⟨rfl, rfl⟩
      go_wp2_with fail
      go_ret
      exact ⟨rfl, R0.out⟩
    · have h4 : 4096 < area := by omega
      clear hra
      go_enter Try.func15, Try.ntmps15
      go_wp2_with fail
      refine (HI.out _).mono ?_
      rintro e w' ⟨rfl, rfl⟩
      go_wp2_with fail
      go_ret
      exact ⟨rfl, R0.out⟩
  have g1 : ¬ regs < 0 := by omega
  have g2 : ¬ 64 < regs := by omega
  have g3 : ¬ area < 0 := by omega
  have g4 : ¬ 4096 < area := by omega
  have HRA := Lib.hid hra
  clear hra
  have hfew := fields_few o A B C
  unfold sh at hfew
  have HFEW := Lib.hid hfew
  clear hfew
  have HCO := Lib.hid (show checkOf o A B C N l regs area = if bareB o A B C N l.length = false then 2 else if 8 < l.length then 3 else if ((fieldsOf [A, B, C] (shapeI o).data.toList).1 ++ l).any (out1 regs) = true then 5 else if (shapeI o).data.toList.any (fun c => !numOk c.toNat N area) = true then 5 else 0 from by
    unfold checkOf
    rw [if_neg (fun h => h HIS.out)]
    by_cases hb : bareB o A B C N l.length = false
    · rw [if_pos (.inr (.inr (.inr (.inr hb)))), if_pos hb]
    · rw [if_neg (by rintro (h | h | h | h | h) <;> first | exact HRA.out (.inl h) | exact HRA.out (.inr (.inl h)) | exact HRA.out (.inr (.inr (.inl h))) | exact HRA.out (.inr (.inr (.inr h))) | exact hb h), if_neg hb]; rfl)
  generalize checkOf o A B C N l regs area = res at *
  have hok := shape_ok o
  generalize fieldsOf [A, B, C] (shapeI o).data.toList = f at *
  generalize shapeI o = s at *
  generalize bareB o A B C N l.length = bb at *
  have HOK := Lib.hid hok
  clear hok
  have HRG : Hid (((w.alloc (.cells #[.int .i64 o, .int .i64 A, .int .i64 B, .int .i64 C, .int .i64 N, .slice ua l.length uc] 30)).alloc (.cells #[.int .i64 regs] 3)).heap[w.heap.size + 1]? = some (.cells #[.int .i64 regs] 3 (0, 0))) := Lib.hid (by
    have := heap_new (w.alloc (.cells #[.int .i64 o, .int .i64 A, .int .i64 B, .int .i64 C, .int .i64 N, .slice ua l.length uc] 30)) (.cells #[.int .i64 regs] 3)
    simpa using this)
  have HOB0 := Lib.hid (((Fr.refl no (w.alloc (.cells #[.int .i64 o, .int .i64 A, .int .i64 B, .int .i64 C, .int .i64 N, .slice ua l.length uc] 30))).alloc (.cells #[.int .i64 regs] 3)).heap HOB.out (by simp))
  unfold insV at *
  go_enter Try.func15, Try.ntmps15
  go_wp2_with fail
  refine (HI.out _).mono ?_
  rintro e w' ⟨rfl, rfl⟩
  go_wp2_with fail
  refine (HB.out _).mono ?_
  rintro e w1 ⟨rfl, r1⟩
  have hob1 := r1.heap HOB0.out (by simp)
  have R1 := Lib.hid (R0.out.trans r1)
  have HRG1 := Lib.hid (r1.heap HRG.out (by simp))
  have HOB1 := Lib.hid hob1
  have c0 : w1.cell? ⟨w.heap.size, 0, none⟩ = some (.int .i64 o) := cell_of_heap hob1 rfl
  have c1 : w1.cell? ⟨w.heap.size, 1, none⟩ = some (.int .i64 A) := cell_of_heap hob1 rfl
  have c2 : w1.cell? ⟨w.heap.size, 2, none⟩ = some (.int .i64 B) := cell_of_heap hob1 rfl
  have c3 : w1.cell? ⟨w.heap.size, 3, none⟩ = some (.int .i64 C) := cell_of_heap hob1 rfl
  have c4 : w1.cell? ⟨w.heap.size, 4, none⟩ = some (.int .i64 N) := cell_of_heap hob1 rfl
  have c5 : w1.cell? ⟨w.heap.size, 5, none⟩ = some (.slice ua l.length uc) := cell_of_heap hob1 rfl
  clear r1 hob1
  cases bb with
  | false =>
    go_wp2_with fail
    go_ret
    exact ⟨by rw [HCO.out]; rfl, R1.out⟩
  | true =>
  have HCO2 : Hid (res = if 8 < l.length then 3 else if (f.1 ++ l).any (out1 regs) = true then 5 else if s.data.toList.any (fun c => !numOk c.toNat N area) = true then 5 else 0) := Lib.hid (by rw [HCO.out, if_neg (by simp)])
  clear HCO
  by_cases hlen : 8 < l.length
  · have hlen' : (8 : Int) < l.length := by omega
    go_wp2_with fail
    go_ret
    exact ⟨by rw [HCO2.out, if_pos hlen]; rfl, R1.out⟩
  have hlen' : ¬ (8 : Int) < l.length := by omega
  go_wp2_with fail
  refine (HF.out _).mono ?_
  rintro e w2 ⟨x, y, rfl, r2, hx, -, -⟩
  obtain ⟨xa, xc, rfl⟩ := owns_shape hx
  have hob2 := r2.heap HOB1.out (by simp)
  have R2 := Lib.hid (R1.out.trans r2)
  have HRG2 := Lib.hid (r2.heap HRG1.out (by simp))
  have HOB2 := Lib.hid hob2
  have HX := Lib.hid (owns_reads hx)
  clear c0 c1 c2 c3 c4 c5
  have c5 : w2.cell? ⟨w.heap.size, 5, none⟩ = some (.slice ua l.length uc) := cell_of_heap hob2 rfl
  clear r2 hob2 hx
  go_wp2_with fail
  have r3 : Fr no w2 (w2.alloc (.cells #[.slice xa f.1.length xc, .slice ua l.length uc] 28)) := (Fr.refl no w2).alloc _
  refine (concat2 _ w2.heap.size _ _ f.1 l (heap_new w2 _) (HX.out.fr r3 (by simp)) ((HU.out.fr R2.out (by simp)).fr r3 (by simp)) (by have := HFEW.out.1; omega) hl).mono ?_
  rintro e w4 ⟨v, rfl, hv, r4⟩
  have R4 := Lib.hid ((R2.out.trans r3).trans r4)
  have HRG4 := Lib.hid ((r3.trans r4).heap HRG2.out (by simp))
  have HOB4 := Lib.hid ((r3.trans r4).heap HOB2.out (by simp))
  have HV := Lib.hid (owns_reads hv)
  clear r3 r4 hv c5
  go_wp2_with fail
  refine (anyOut _ regs (w.heap.size + 1) v (f.1 ++ l) HV.out (by have := HFEW.out.1; simp; omega) (cell_of_heap HRG4.out rfl)).mono ?_
  rintro e w' ⟨rfl, rfl⟩
  cases hany : (f.1 ++ l).any (out1 regs) with
  | true =>
    go_wp2_with fail
    go_ret
    exact ⟨by rw [HCO2.out, if_neg hlen, if_pos hany]; rfl, R4.out⟩
  | false =>
  have HCO3 : Hid (res = if s.data.toList.any (fun c => !numOk c.toNat N area) = true then 5 else 0) := Lib.hid (by rw [HCO2.out, if_neg hlen, if_neg (by rw [hany]; simp)])
  have d0 : w4.cell? ⟨w.heap.size, 0, none⟩ = some (.int .i64 o) := cell_of_heap HOB4.out rfl
  clear HCO2 hany
  go_wp2_with fail
  refine (HSH.out _).mono ?_
  rintro e w5 ⟨rfl, r5⟩
  have R5 := Lib.hid (R4.out.trans r5)
  have HOB5 := Lib.hid (r5.heap HOB4.out (by simp))
  clear r5 d0
  go_wp2_with fail
  have hit : (w5.iter s 0).heap[w5.heap.size]? = some (.stringIter s 0) := heap_new w5 _
  have r6 : Fr no w5 (w5.iter s 0) := (Fr.refl no w5).alloc _
  have hne : w.heap.size ≠ w5.heap.size := by
    have := (Array.getElem?_eq_some_iff.1 HOB5.out).1
    omega
  have HOB6 := Lib.hid (r6.heap HOB5.out (by simp))
  have R6 := Lib.hid (R5.out.trans r6)
  have hlt6 : w.heap.size ≤ w5.heap.size := R5.out.size
  have HNE := Lib.hid hne
  have HIT := Lib.hid hit
  generalize w5.iter s 0 = w6 at *
  generalize w5.heap.size = itb at *
  clear r6 hne hit
  have HLT6 := Lib.hid hlt6
  clear hlt6
  go_loopw [11] (fun _ wr => ∃ k : Nat, k ≤ s.size ∧ Hid (wr.heap[itb]? = some (.stringIter s k)) ∧ Hid (Fr (only [itb]) w6 wr) ∧ Hid ((s.data.toList.take k).any (fun c => !numOk c.toNat N area) = false)) (fun _ wr => itLeft wr itb)
  case atStart => exact ⟨0, by omega, HIT, Lib.hid (Fr.refl _ _), Lib.hid (by simp)⟩
  case round =>
    obtain ⟨k, hk, hiter, hfr, hno⟩ := hrel
    have hob := hfr.out.heap HOB6.out (by simp; exact HNE.out)
    have d4 : wr.cell? ⟨w.heap.size, 4, none⟩ = some (.int .i64 N) := cell_of_heap hob rfl
    by_cases hks : k < s.size
    · have hnext : ∀ ty, (Instr.next (.pointer (some ⟨itb, 0, none⟩)) true ty).run Try.prog wr = .ok (.tuple #[.bool true, .int .i64 k, .int .i32 (s[k]'hks).toNat]) (wr.iterAt itb s (k + 1)) := fun ty =>
        Lib.run_next_ascii_at wr itb s k ty hiter.out hks (HOK.out.ascii k hks)
      have r7 : Fr (only [itb]) wr (wr.iterAt itb s (k + 1)) := fr_iterAt (Fr.refl _ _) (by simp)
      have e4 := r7.cell d4 (by simp; exact HNE.out)
      have HI7 := Lib.hid (Lib.iterAt_heap _ _ _ _ (k + 1) hiter.out)
      have R7 := Lib.hid (hfr.out.trans r7)
      have hsn : (s.data.toList.take (k + 1)).any (fun c => !numOk c.toNat N area) = !numOk (s[k]'hks).toNat N area := by
        rw [btake_succ s k hks, List.any_append, hno.out]; simp
      have HSN := Lib.hid hsn
      have hmem : numOk (s[k]'hks).toNat N area = false → res = 5 := fun h => by
        rw [HCO3.out, if_pos]
        rw [List.any_eq_true]
        refine ⟨s[k]'hks, ?_, by rw [h]; rfl⟩
        have : s.data.toList[k]'(by rw [blen]; exact hks) = s[k]'hks := rfl
        rw [← this]; exact List.getElem_mem _
      have HMEM := Lib.hid hmem
      have MK := Lib.hid hiter.out
      clear hob d4 hsn hmem r7
      generalize wr.iterAt itb s (k + 1) = w7 at *
      generalize hc : ((s[k]'hks).toNat : Int) = c at *
      have BD := Lib.hid (fun w => bounds_ok w c area)
      have HC := Lib.hid hc
      clear hc
      by_cases h122 : c = 122
      · subst h122
        rw [show boundsOf 122 area = (1, 8, true) from rfl] at BD
        dsimp only at BD
        by_cases q1 : N < 1
        · have HQ : Hid (numOk 122 N area = false) := Lib.hid (by simp [numOk]; omega)
          go_wp2_with fail
          refine (BD.out _).mono ?_
          rintro e w' ⟨rfl, rfl⟩
          go_wp2_with fail
          go_ret
          exact ⟨by rw [HMEM.out (HC.out ▸ HQ.out)]; rfl, (R6.out.trans' R7.out (fun k hk _ => by simp at hk; rw [hk]; exact HLT6.out))⟩
        by_cases q2 : 8 < N
        · have HQ : Hid (numOk 122 N area = false) := Lib.hid (by simp [numOk]; omega)
          go_wp2_with fail
          refine (BD.out _).mono ?_
          rintro e w' ⟨rfl, rfl⟩
          go_wp2_with fail
          go_ret
          exact ⟨by rw [HMEM.out (HC.out ▸ HQ.out)]; rfl, (R6.out.trans' R7.out (fun k hk _ => by simp at hk; rw [hk]; exact HLT6.out))⟩
        obtain rfl | rfl | rfl | rfl | rfl | rfl | rfl | rfl : N = 1 ∨ N = 2 ∨ N = 3 ∨ N = 4 ∨ N = 5 ∨ N = 6 ∨ N = 7 ∨ N = 8 := by omega
        · have HQ : Hid (numOk 122 1 area = true) := Lib.hid rfl
          go_wp2_with fail
          refine (BD.out _).mono ?_
          rintro e w' ⟨rfl, rfl⟩
          go_wp2_with fail
          go_roundw
          case rel => exact ⟨k + 1, by omega, HI7, R7, Lib.hid (by rw [HSN.out, HQ.out]; rfl)⟩
          case measure => rw [itLeft_at HI7.out, itLeft_at MK.out]; omega
        · have HQ : Hid (numOk 122 2 area = true) := Lib.hid rfl
          go_wp2_with fail
          refine (BD.out _).mono ?_
          rintro e w' ⟨rfl, rfl⟩
          go_wp2_with fail
          go_roundw
          case rel => exact ⟨k + 1, by omega, HI7, R7, Lib.hid (by rw [HSN.out, HQ.out]; rfl)⟩
          case measure => rw [itLeft_at HI7.out, itLeft_at MK.out]; omega
        · have HQ : Hid (numOk 122 3 area = false) := Lib.hid rfl
          go_wp2_with fail
          refine (BD.out _).mono ?_
          rintro e w' ⟨rfl, rfl⟩
          go_wp2_with fail
          go_ret
          exact ⟨by rw [HMEM.out (HC.out ▸ HQ.out)]; rfl, (R6.out.trans' R7.out (fun k hk _ => by simp at hk; rw [hk]; exact HLT6.out))⟩
        · have HQ : Hid (numOk 122 4 area = true) := Lib.hid rfl
          go_wp2_with fail
          refine (BD.out _).mono ?_
          rintro e w' ⟨rfl, rfl⟩
          go_wp2_with fail
          go_roundw
          case rel => exact ⟨k + 1, by omega, HI7, R7, Lib.hid (by rw [HSN.out, HQ.out]; rfl)⟩
          case measure => rw [itLeft_at HI7.out, itLeft_at MK.out]; omega
        · have HQ : Hid (numOk 122 5 area = false) := Lib.hid rfl
          go_wp2_with fail
          refine (BD.out _).mono ?_
          rintro e w' ⟨rfl, rfl⟩
          go_wp2_with fail
          go_ret
          exact ⟨by rw [HMEM.out (HC.out ▸ HQ.out)]; rfl, (R6.out.trans' R7.out (fun k hk _ => by simp at hk; rw [hk]; exact HLT6.out))⟩
        · have HQ : Hid (numOk 122 6 area = false) := Lib.hid rfl
          go_wp2_with fail
          refine (BD.out _).mono ?_
          rintro e w' ⟨rfl, rfl⟩
          go_wp2_with fail
          go_ret
          exact ⟨by rw [HMEM.out (HC.out ▸ HQ.out)]; rfl, (R6.out.trans' R7.out (fun k hk _ => by simp at hk; rw [hk]; exact HLT6.out))⟩
        · have HQ : Hid (numOk 122 7 area = false) := Lib.hid rfl
          go_wp2_with fail
          refine (BD.out _).mono ?_
          rintro e w' ⟨rfl, rfl⟩
          go_wp2_with fail
          go_ret
          exact ⟨by rw [HMEM.out (HC.out ▸ HQ.out)]; rfl, (R6.out.trans' R7.out (fun k hk _ => by simp at hk; rw [hk]; exact HLT6.out))⟩
        · have HQ : Hid (numOk 122 8 area = true) := Lib.hid rfl
          go_wp2_with fail
          refine (BD.out _).mono ?_
          rintro e w' ⟨rfl, rfl⟩
          go_wp2_with fail
          go_roundw
          case rel => exact ⟨k + 1, by omega, HI7, R7, Lib.hid (by rw [HSN.out, HQ.out]; rfl)⟩
          case measure => rw [itLeft_at HI7.out, itLeft_at MK.out]; omega
      · have hnb := numOk_b c N area h122
        have h122' : (c == 122) = false := by rw [beq_eq_false_iff_ne]; exact h122
        generalize boundsOf c area = bd at *
        obtain ⟨lo, hi, has⟩ := bd
        dsimp only at hnb
        have HNB := Lib.hid hnb
        clear hnb
        cases has with
        | false =>
          have HQ : Hid (numOk c N area = true) := Lib.hid (by rw [HNB.out]; rfl)
          go_wp2_with fail
          refine (BD.out _).mono ?_
          rintro e w' ⟨rfl, rfl⟩
          go_wp2_with fail
          go_roundw
          case rel => exact ⟨k + 1, by omega, HI7, R7, Lib.hid (by rw [HSN.out, HQ.out]; rfl)⟩
          case measure => rw [itLeft_at HI7.out, itLeft_at MK.out]; omega
        | true =>
          by_cases q1 : N < lo
          · have HQ : Hid (numOk c N area = false) := Lib.hid (by rw [HNB.out]; simp; omega)
            go_wp2_with fail
            refine (BD.out _).mono ?_
            rintro e w' ⟨rfl, rfl⟩
            go_wp2_with fail
            go_ret
            exact ⟨by rw [HMEM.out (HC.out ▸ HQ.out)]; rfl, (R6.out.trans' R7.out (fun k hk _ => by simp at hk; rw [hk]; exact HLT6.out))⟩
          by_cases q2 : hi < N
          · have HQ : Hid (numOk c N area = false) := Lib.hid (by rw [HNB.out]; simp; omega)
            go_wp2_with fail
            refine (BD.out _).mono ?_
            rintro e w' ⟨rfl, rfl⟩
            go_wp2_with fail
            go_ret
            exact ⟨by rw [HMEM.out (HC.out ▸ HQ.out)]; rfl, (R6.out.trans' R7.out (fun k hk _ => by simp at hk; rw [hk]; exact HLT6.out))⟩
          · have HQ : Hid (numOk c N area = true) := Lib.hid (by rw [HNB.out]; simp; omega)
            go_wp2_with fail
            refine (BD.out _).mono ?_
            rintro e w' ⟨rfl, rfl⟩
            go_wp2_with fail
            go_roundw
            case rel => exact ⟨k + 1, by omega, HI7, R7, Lib.hid (by rw [HSN.out, HQ.out]; rfl)⟩
            case measure => rw [itLeft_at HI7.out, itLeft_at MK.out]; omega
    · obtain rfl : k = s.size := by omega
      have hnext : ∀ ty, (Instr.next (.pointer (some ⟨itb, 0, none⟩)) true ty).run Try.prog wr = .ok (.tuple #[.bool false]) wr := fun ty =>
        Lib.run_next_end_at wr itb s s.size ty hiter.out (by omega)
      have HZ : Hid (res = 0) := Lib.hid (by
        have h1 := hno.out
        rw [← blen, List.take_length] at h1
        rw [HCO3.out, if_neg (by rw [h1]; simp)])
      clear hob d4
      go_wp2_with fail
      go_ret
      exact ⟨by rw [HZ.out]; rfl, (R6.out.trans' hfr.out (fun k hk _ => by simp at hk; rw [hk]; exact HLT6.out))⟩

end Go.Proofs.Ytkgcfllbkjlfcaa

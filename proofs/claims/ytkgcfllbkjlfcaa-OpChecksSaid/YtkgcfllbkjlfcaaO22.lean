import Derived.Test.YtkgcfllbkjlfcaaO21
import Derived.Test.YtkgcfllbkjlfcaaLap
namespace Go.Proofs.Ytkgcfllbkjlfcaa
open Go.RowKit

attribute [local go_sem] Program.isFuncB Program.isSliceB

variable {w w' w'' w0 : World}

theorem regs_wr (o A B C : Int) : regsOf [A, B, C] [119, 114] (sh o) = (fieldsOf [A, B, C] (sh o)).1 := by
  unfold regsOf; rw [(regs_fields A B C (sh o)).1]
theorem take_any_succ {α : Type} (p : α → Bool) (L : List α) (i : Nat) (h : i < L.length) (h0 : (L.take i).any p = false) : (L.take (i + 1)).any p = p L[i] := by
  rw [List.take_succ_eq_append_getElem h, List.any_append, h0]; simp

set_option maxRecDepth 100000 in
set_option maxHeartbeats 4000000 in
theorem refcheck_ok (w : World) (o A B C N regs area : Int) (u : Value) (l : List Int) (hu : Reads w u 1 l.length (ints l)) (hl : l.length ≤ 100000) :
    Calls Try.prog 24 #[insV o A B C N u, .int .i64 regs, .int .i64 area] w fun e w' => e = .returned (.int .i64 (checkOf o A B C N l regs area)) ∧ Fr no w w' := by
  obtain ⟨ua, uc, rfl⟩ := hu.shape
  have HI := Lib.hid (fun w => refis_all w o)
  have HU := Lib.hid hu
  have HB := Lib.hid (fun w => refbare_ok w o A B C N ua uc l.length)
  have hF := fun w => refregs_ok w o A B C N (.slice ua l.length uc) ⟨#[119, 114]⟩ (by decide)
  rw [show (⟨#[119, 114]⟩ : ByteArray).data.toList = [119, 114] from rfl, regs_wr] at hF
  have HF := Lib.hid hF
  clear hF
  have HSH := Lib.hid (fun w => refshape_all w o)
  have HOB := Lib.hid (insObj w o A B C N (.slice ua l.length uc))
  have R0 : Hid (Fr no w (w.alloc (.cells #[.int .i64 o, .int .i64 A, .int .i64 B, .int .i64 C, .int .i64 N, .slice ua l.length uc] 30))) := Lib.hid ((Fr.refl no w).alloc _)
  clear hu
  by_cases his : 0 ≤ o ∧ o < 33
  case neg =>
    have hd : Hid (decide (0 ≤ o ∧ o < 33) = false) := Lib.hid (decide_eq_false his)
    have HR : Hid (checkOf o A B C N l regs area = 16) := Lib.hid (by unfold checkOf; rw [if_pos his])
    rw [hd.out] at HI
    rw [HR.out]
    unfold insV at *
    clear his
    go_enter Try.func24, Try.ntmps24
    go_wp2_with fail
    refine (HI.out _).mono ?_
    rintro e w' ⟨rfl, rfl⟩
    go_wp2_with fail
    go_ret
    exact ⟨rfl, R0.out⟩
  have hd : Hid (decide (0 ≤ o ∧ o < 33) = true) := Lib.hid (decide_eq_true his)
  rw [hd.out] at HI
  have HIS := Lib.hid his
  clear his
  by_cases hra : regs < 0 ∨ 64 < regs ∨ area < 0 ∨ 4096 < area
  case pos =>
    have HR : Hid (checkOf o A B C N l regs area = 2) := Lib.hid (by
      unfold checkOf
      rw [if_neg (fun h => h HIS.out), if_pos (by rcases hra with h | h | h | h; exact .inl h; exact .inr (.inl h); exact .inr (.inr (.inl h)); exact .inr (.inr (.inr (.inl h))))])
    rw [HR.out]
    unfold insV at *
    have hcases : regs < 0 ∨ (¬ regs < 0 ∧ 64 < regs) ∨ (¬ regs < 0 ∧ ¬ 64 < regs ∧ area < 0) ∨ (¬ regs < 0 ∧ ¬ 64 < regs ∧ ¬ area < 0 ∧ 4096 < area) := by omega
    clear hra
    rcases hcases with h1 | ⟨h1, h2⟩ | ⟨h1, h2, h3⟩ | ⟨h1, h2, h3, h4⟩
    all_goals
      go_enter Try.func24, Try.ntmps24
      go_wp2_with fail
      refine (HI.out _).mono ?_
      rintro e w' ⟨rfl, rfl⟩
      go_wp2_with fail
      go_ret
      exact ⟨rfl, R0.out⟩
  have g1 : ¬ regs < 0 := by omega
  have g2 : ¬ 64 < regs := by omega
  have g3 : ¬ area < 0 := by omega
  have g4 : ¬ 4096 < area := by omega
  have HRA := Lib.hid hra
  clear hra
  have hfew := fields_few o A B C
  unfold sh at hfew HF
  have HFEW := Lib.hid hfew
  clear hfew
  have HCO := Lib.hid (show checkOf o A B C N l regs area = if bareB o A B C N l.length = false then 2 else if 8 < l.length then 3 else if ((fieldsOf [A, B, C] (shapeI o).data.toList).1 ++ l).any (out1 regs) = true then 5 else if (shapeI o).data.toList.any (fun c => !numOk c.toNat N area) = true then 5 else 0 from by
    unfold checkOf
    rw [if_neg (fun h => h HIS.out)]
    by_cases hb : bareB o A B C N l.length = false
    · rw [if_pos (.inr (.inr (.inr (.inr hb)))), if_pos hb]
    · rw [if_neg (by rintro (h | h | h | h | h) <;> first | exact HRA.out (.inl h) | exact HRA.out (.inr (.inl h)) | exact HRA.out (.inr (.inr (.inl h))) | exact HRA.out (.inr (.inr (.inr h))) | exact hb h), if_neg hb]; rfl)
  generalize checkOf o A B C N l regs area = res at *
  have hok := shape_ok o
  generalize fieldsOf [A, B, C] (shapeI o).data.toList = f at *
  generalize shapeI o = s at *
  generalize bareB o A B C N l.length = bb at *
  have HOK := Lib.hid hok
  have hsz := hok.size
  clear hok
  unfold insV at *
  go_enter Try.func24, Try.ntmps24
  go_wp2_with fail
  refine (HI.out _).mono ?_
  rintro e w' ⟨rfl, rfl⟩
  go_wp2_with fail
  refine (HB.out _).mono ?_
  rintro e w1 ⟨rfl, r1⟩
  have hob1 := r1.heap HOB.out (by simp)
  have R1 := Lib.hid (R0.out.trans r1)
  have HOB1 := Lib.hid hob1
  have c0 : w1.cell? ⟨w.heap.size, 0, none⟩ = some (.int .i64 o) := cell_of_heap hob1 rfl
  have c1 : w1.cell? ⟨w.heap.size, 1, none⟩ = some (.int .i64 A) := cell_of_heap hob1 rfl
  have c2 : w1.cell? ⟨w.heap.size, 2, none⟩ = some (.int .i64 B) := cell_of_heap hob1 rfl
  have c3 : w1.cell? ⟨w.heap.size, 3, none⟩ = some (.int .i64 C) := cell_of_heap hob1 rfl
  have c4 : w1.cell? ⟨w.heap.size, 4, none⟩ = some (.int .i64 N) := cell_of_heap hob1 rfl
  have c5 : w1.cell? ⟨w.heap.size, 5, none⟩ = some (.slice ua l.length uc) := cell_of_heap hob1 rfl
  clear r1 hob1
  cases bb with
  | false =>
    go_wp2_with fail
    go_ret
    exact ⟨by rw [HCO.out]; rfl, R1.out⟩
  | true =>
  have HCO2 : Hid (res = if 8 < l.length then 3 else if (f.1 ++ l).any (out1 regs) = true then 5 else if s.data.toList.any (fun c => !numOk c.toNat N area) = true then 5 else 0) := Lib.hid (by rw [HCO.out, if_neg (by simp)])
  clear HCO
  by_cases hlen : 8 < l.length
  · have hlen' : (8 : Int) < l.length := by omega
    go_wp2_with fail
    go_ret
    exact ⟨by rw [HCO2.out, if_pos hlen]; rfl, R1.out⟩
  have hlen' : ¬ (8 : Int) < l.length := by omega
  go_wp2_with fail
  have HOB1d := Lib.hid (((Fr.refl no w1).drew).heap HOB1.out (by simp))
  have R1d := Lib.hid (R1.out.drew)
  have c0 : w1.drew.cell? ⟨w.heap.size, 0, none⟩ = some (.int .i64 o) := cell_of_heap HOB1d.out rfl
  have c1 : w1.drew.cell? ⟨w.heap.size, 1, none⟩ = some (.int .i64 A) := cell_of_heap HOB1d.out rfl
  have c2 : w1.drew.cell? ⟨w.heap.size, 2, none⟩ = some (.int .i64 B) := cell_of_heap HOB1d.out rfl
  have c3 : w1.drew.cell? ⟨w.heap.size, 3, none⟩ = some (.int .i64 C) := cell_of_heap HOB1d.out rfl
  have c4 : w1.drew.cell? ⟨w.heap.size, 4, none⟩ = some (.int .i64 N) := cell_of_heap HOB1d.out rfl
  have c5 : w1.drew.cell? ⟨w.heap.size, 5, none⟩ = some (.slice ua l.length uc) := cell_of_heap HOB1d.out rfl
  refine Lex.region [1, 4] [6] (by kernel_rfl) (by kernel_rfl) ?_
  refine Lex.opens (fun w' => w'.cell? ⟨w.heap.size, 0, none⟩ = some (.int .i64 o) ∧ w'.cell? ⟨w.heap.size, 1, none⟩ = some (.int .i64 A) ∧ w'.cell? ⟨w.heap.size, 2, none⟩ = some (.int .i64 B) ∧ w'.cell? ⟨w.heap.size, 3, none⟩ = some (.int .i64 C) ∧ w'.cell? ⟨w.heap.size, 4, none⟩ = some (.int .i64 N) ∧ w'.cell? ⟨w.heap.size, 5, none⟩ = some (.slice ua l.length uc)) (⟨c0, c1, c2, c3, c4, c5⟩) ?_
  clear c0 c1 c2 c3 c4 c5
  repeat (first
    | (refine Lex.skips (by rfl) ?_; (try simp only [Act.put, List.setIfInBounds_toArray, List.set_cons_zero, List.set_cons_succ]))
    | (refine Lex.quiet (v := ?_) (by rfl) (by rfl) ?_ ?_; rotate_left; (focus (intro w' hS'; go_simp; try rfl)); (try simp only [Act.put, List.setIfInBounds_toArray, List.set_cons_zero, List.set_cons_succ])))
  refine Lex.loud (by rfl) (by rfl) ?_
  intro K' hK'
  go_simp
  refine (HF.out _).mono ?_
  rintro e w2 ⟨x, rfl, r2, hx⟩
  obtain ⟨xa, xc, rfl⟩ := owns_shape hx
  have hob2 := r2.heap HOB1d.out (by simp)
  have R2 := Lib.hid (R1d.out.trans r2)
  have HOB2 := Lib.hid hob2
  have HX := Lib.hid hx
  have HZ2 := Lib.hid r2.size
  have c0 : w2.cell? ⟨w.heap.size, 0, none⟩ = some (.int .i64 o) := cell_of_heap hob2 rfl
  have c1 : w2.cell? ⟨w.heap.size, 1, none⟩ = some (.int .i64 A) := cell_of_heap hob2 rfl
  have c2 : w2.cell? ⟨w.heap.size, 2, none⟩ = some (.int .i64 B) := cell_of_heap hob2 rfl
  have c3 : w2.cell? ⟨w.heap.size, 3, none⟩ = some (.int .i64 C) := cell_of_heap hob2 rfl
  have c4 : w2.cell? ⟨w.heap.size, 4, none⟩ = some (.int .i64 N) := cell_of_heap hob2 rfl
  have c5 : w2.cell? ⟨w.heap.size, 5, none⟩ = some (.slice ua l.length uc) := cell_of_heap hob2 rfl
  clear r2 hob2 hx
  refine hK' _ _ (⟨c0, c1, c2, c3, c4, c5⟩) ?_
  clear hK'
  try simp only [Act.put, List.setIfInBounds_toArray, List.set_cons_zero, List.set_cons_succ]
  clear c0 c1 c2 c3 c4 c5
  repeat (first
    | (refine Lex.skips (by rfl) ?_; (try simp only [Act.put, List.setIfInBounds_toArray, List.set_cons_zero, List.set_cons_succ]))
    | (refine Lex.quiet (v := ?_) (by rfl) (by rfl) ?_ ?_; rotate_left; (focus (intro w' hS'; go_simp; try rfl)); (try simp only [Act.put, List.setIfInBounds_toArray, List.set_cons_zero, List.set_cons_succ])))
  refine Lex.loud (by rfl) (by rfl) ?_
  intro K' hK'
  refine wp_append_at (.tmp 39) (.tmp 41) 28 rfl w1.drew.heap.size 3 (.int .i64 0) 1 8 Try.underlying28 Try.infoInt rfl (by decide) _ f.1.length _ rfl HX.out l.length _ (HU.out.fr R2.out (by simp)) (ints_one' l) (by have := HFEW.out.1; unfold maxLen; omega) (by have := HFEW.out.1; omega) HZ2.out ?_
  intro ga gc w4 ho hg hb
  have HV : Hid (Reads w4 (.slice ga (f.1 ++ l).length gc) 1 (f.1 ++ l).length (ints (f.1 ++ l))) := Lib.hid (by have := owns_reads ho; rw [List.length_append, show ints (f.1 ++ l) = ints f.1 ++ ints l from by simp [ints]]; exact this)
  have r4 : Fr (fun k => (Value.slice xa f.1.length xc).ownBlock = some k) w2 w4 := (Fr.refl _ w2).grown hg (fun k hk => .inl hk)
  have hxl : ∀ k, (Value.slice xa f.1.length xc).ownBlock = some k → w.heap.size < k := fun k hk => by
    have := (HX.out.lt k hk).1
    have := (Array.getElem?_eq_some_iff.1 HOB1d.out).1
    omega
  have R4 := Lib.hid (R2.out.trans' r4 (fun k hk _ => by have := hxl k hk; omega))
  have hob4 := r4.heap HOB2.out (fun hk => by have := hxl _ hk; omega)
  have HOB4 := Lib.hid hob4
  have c0 : w4.cell? ⟨w.heap.size, 0, none⟩ = some (.int .i64 o) := cell_of_heap hob4 rfl
  have c1 : w4.cell? ⟨w.heap.size, 1, none⟩ = some (.int .i64 A) := cell_of_heap hob4 rfl
  have c2 : w4.cell? ⟨w.heap.size, 2, none⟩ = some (.int .i64 B) := cell_of_heap hob4 rfl
  have c3 : w4.cell? ⟨w.heap.size, 3, none⟩ = some (.int .i64 C) := cell_of_heap hob4 rfl
  have c4 : w4.cell? ⟨w.heap.size, 4, none⟩ = some (.int .i64 N) := cell_of_heap hob4 rfl
  have c5 : w4.cell? ⟨w.heap.size, 5, none⟩ = some (.slice ua l.length uc) := cell_of_heap hob4 rfl
  clear ho hg hb r4 hxl hob4
  refine hK' _ _ (⟨c0, c1, c2, c3, c4, c5⟩) ?_
  clear hK'
  try simp only [Act.put, List.setIfInBounds_toArray, List.set_cons_zero, List.set_cons_succ]
  clear c0 c1 c2 c3 c4 c5
  repeat (first
    | (refine Lex.skips (by rfl) ?_; (try simp only [Act.put, List.setIfInBounds_toArray, List.set_cons_zero, List.set_cons_succ]))
    | (refine Lex.quiet (v := ?_) (by rfl) (by rfl) ?_ ?_; rotate_left; (focus (intro w' hS'; go_simp; try rfl)); (try simp only [Act.put, List.setIfInBounds_toArray, List.set_cons_zero, List.set_cons_succ])))
  refine Lex.done ?_
  refine Lex.ends ?_
  have hLL : (f.1 ++ l).length = f.1.length + l.length := by simp
  have HLL := Lib.hid hLL
  have HL8 : Hid ((f.1 ++ l).length ≤ 100) := Lib.hid (by have := HFEW.out.1; rw [HLL.out]; omega)
  rw [← hLL]
  clear hLL
  generalize f.1 ++ l = L at *
  have hL8 := HL8.out
  go_wp2_with fail
  go_loop [8] (fun x => ∃ i : Nat, x = .int .i64 i ∧ i ≤ L.length ∧ Hid ((L.take i).any (out1 regs) = false)) (fun x => (L.length - intOf x).toNat)
  case atStart => exact ⟨0, rfl, by omega, Lib.hid (by simp)⟩
  case round =>
    obtain ⟨i, rfl, hi, hno⟩ := hrel
    by_cases hlt : i < L.length
    · have hlt' : (i : Int) < L.length := by omega
      obtain ⟨b, o1, rfl, ci⟩ := reads_int HV.out hlt
      have HSN := Lib.hid (take_any_succ (out1 regs) L i hlt hno.out)
      have HYES : Hid (out1 regs L[i] = true → res = 5) := Lib.hid (fun h => by
        rw [HCO2.out, if_neg hlen, if_pos]
        rw [List.any_eq_true]
        exact ⟨L[i], List.getElem_mem _, h⟩)
      generalize L[i] = n at *
      have hcs : n < 0 ∨ (¬ n < 0 ∧ regs ≤ n) ∨ (¬ n < 0 ∧ ¬ regs ≤ n) := by omega
      rcases hcs with h1 | ⟨h1, h2⟩ | ⟨h1, h2⟩
      · have HQ : Hid (out1 regs n = true) := Lib.hid (by simp [out1]; omega)
        go_wp2_with fail
        go_ret
        exact ⟨by rw [HYES.out HQ.out]; rfl, R4.out⟩
      · have HQ : Hid (out1 regs n = true) := Lib.hid (by simp [out1]; omega)
        go_wp2_with fail
        go_ret
        exact ⟨by rw [HYES.out HQ.out]; rfl, R4.out⟩
      · have HQ : Hid (out1 regs n = false) := Lib.hid (by simp [out1]; omega)
        go_wp2_with fail
        go_round
        case rel => exact ⟨i + 1, by go_num, by omega, Lib.hid (by rw [HSN.out, HQ.out])⟩
        case measure => first | (simp [intOf]; done) | (simp [intOf]; omega)
    · obtain rfl : i = L.length := by omega
      have hany : L.any (out1 regs) = false := by have := hno.out; rwa [List.take_length] at this
      have HCO3 : Hid (res = if s.data.toList.any (fun c => !numOk c.toNat N area) = true then 5 else 0) := Lib.hid (by rw [HCO2.out, if_neg hlen, if_neg (by rw [hany]; simp)])
      have d0 : w4.cell? ⟨w.heap.size, 0, none⟩ = some (.int .i64 o) := cell_of_heap HOB4.out rfl
      clear HCO2 hany hno
      go_wp2_with fail
      refine (HSH.out _).mono ?_
      rintro e w' ⟨rfl, rfl⟩
      clear d0
      go_wp2_with fail
      go_loopw [10] (fun x wr => ∃ k q : Nat, x = .int .i64 k ∧ k ≤ s.size ∧ Hid (wr = w4.drewN q) ∧ Hid ((s.data.toList.take k).any (fun c => !numOk c.toNat N area) = false)) (fun x _ => (s.size - intOf x).toNat)
      case atStart => exact ⟨0, 0, rfl, by omega, Lib.hid rfl, Lib.hid (by simp)⟩
      case round =>
        obtain ⟨k, q, rfl, hk, hwr, hno⟩ := hrel
        by_cases hks : k < s.size
        · have hks' : (k : Int) < s.size := by omega
          have d4 : wr.cell? ⟨w.heap.size, 4, none⟩ = some (.int .i64 N) := by
            rw [hwr.out]; exact ((Fr.refl no w4).drewN q).cell (cell_of_heap HOB4.out rfl) (by simp)
          have hsn : (s.data.toList.take (k + 1)).any (fun c => !numOk c.toNat N area) = !numOk (s[k]'hks).toNat N area := by
            rw [btake_succ s k hks, List.any_append, hno.out]; simp
          have HSN := Lib.hid hsn
          have HMEM : Hid (numOk (s[k]'hks).toNat N area = false → res = 5) := Lib.hid (fun h => by
            rw [HCO3.out, if_pos]
            rw [List.any_eq_true]
            refine ⟨s[k]'hks, ?_, by rw [h]; rfl⟩
            have : s.data.toList[k]'(by rw [blen]; exact hks) = s[k]'hks := rfl
            rw [← this]; exact List.getElem_mem _)
          have HNUM := Lib.hid (fun w => (number_ok w ((s[k]'hks).toNat : Int) N area).mono (fun e w' (h : e = _ ∧ w = w') => (⟨h.1, h.2.symm⟩ : e = _ ∧ w' = w)))
          clear hsn
          generalize numOk (s[k]'hks).toNat N area = ok at *
          cases ok with
          | true =>
            go_wp2_with fail
            go_quiet ((go_at_call 44; exact Calls.quiet_of_same (HNUM.out _)))
            go_wp2_with fail
            go_roundw
            case rel => exact ⟨k + 1, q + nq, by go_num, by omega, Lib.hid (by rw [hwr.out, World.drewN_drewN]), Lib.hid (by rw [HSN.out]; rfl)⟩
            case measure => first | (simp [intOf]; done) | (simp [intOf]; omega)
          | false =>
            have HM5 : Hid (res = 5) := Lib.hid (HMEM.out rfl)
            go_wp2_with fail
            go_quiet ((go_at_call 44; exact Calls.quiet_of_same (HNUM.out _)))
            go_wp2_with fail
            go_ret
            exact ⟨by rw [HM5.out]; rfl, by have := hwr.out; rw [this]; exact (R4.out.drewN q).drewN nq⟩
        · obtain rfl : k = s.size := by omega
          have HZ : Hid (res = 0) := Lib.hid (by
            have h1 := hno.out
            rw [← blen, List.take_length] at h1
            rw [HCO3.out, if_neg (by rw [h1]; simp)])
          go_wp2_with fail
          go_ret
          exact ⟨by rw [HZ.out]; rfl, by have := hwr.out; rw [this]; exact R4.out.drewN q⟩

end Go.Proofs.Ytkgcfllbkjlfcaa

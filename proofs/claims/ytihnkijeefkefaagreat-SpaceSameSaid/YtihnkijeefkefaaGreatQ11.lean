import Derived.Test.YtihnkijeefkefaaGreatQ10
set_option linter.unusedSimpArgs false
set_option linter.unusedVariables false
set_option linter.unusedSectionVars false
set_option linter.unnecessarySimpa false
set_option maxRecDepth 100000
/- The program's space: registers, places, fuel, bytes. -/
namespace Go.Proofs.YtihnkijeefkefaaGreat
open Go.RowKit

attribute [local go_sem] Program.isFuncB Program.isSliceB

variable {w w' w'' w0 : World} {O R : Nat → Prop} {p : Nat} {s : Zp} {z : Pz}

theorem ask_0 (h : s.e.1 = 0) : s.ask = 0 := by simp [Zp.ask, h]
theorem ask_9 (h : ¬ s.e.1 = 0) : s.ask = 9 := by simp [Zp.ask, h]
theorem rg_cases (s : Zp) (r : Int) : (s.rg r = false) ∨ (s.rg r = true ∧ ∃ k : Nat, r = k) := by
  by_cases h : 0 ≤ r ∧ r < (fnOf s.m s.f).r
  · exact .inr ⟨by simp [Zp.rg, isRg, h], r.toNat, by omega⟩
  · exact .inl (by simp only [Zp.rg, isRg, decide_eq_false_iff_not]; exact h)
theorem shas_ok (w : World) (r : Int) (h : SpAt w O R p s z) : Calls Tryz.prog 63 #[.pointer (some ⟨p, 0, none⟩), .int .i64 r] w fun e w' => e = .returned (.bool (s.rg r)) ∧ Fr no w w' := by
  obtain ⟨b, ob, hfa, -, hr, -⟩ := h.fn h.ok.fi
  have c5 : w.cell? ⟨p, 5, none⟩ = some (.slice z.fa s.m.f.length z.fc) := cell_of_heap h.obj rfl
  rw [hfa] at c5
  have c13 : w.cell? ⟨p, 13, none⟩ = some (.int .i64 s.f) := cell_of_heap h.obj rfl
  have hlt : (s.f : Int) < s.m.f.length := by have := h.ok.fi; omega
  have HD : Hid (s.rg r = decide (0 ≤ r ∧ r < (fnOf s.m s.f).r)) := Lib.hid rfl
  generalize (fnOf s.m s.f).r = n at *
  generalize s.f = f at *
  generalize s.m.f.length = fl at *
  clear h hfa
  by_cases h0 : r ≥ 0
  · have HQ : Hid (s.rg r = decide (r < n)) := Lib.hid (by rw [HD.out]; rw [decide_eq_decide]; omega)
    clear HD
    go_enter Tryz.func63, Tryz.ntmps63
    go_wp2_with fail
    go_quiet (fail)
    go_wp2_with fail
    go_ret
    exact ⟨by rw [HQ.out]; rfl, (Fr.refl _ _).drewN _⟩
  · have HQ : Hid (s.rg r = false) := Lib.hid (by rw [HD.out]; exact decide_eq_false (fun h => h0 h.1))
    have hge : binOp .geq 3 (.int .i64 r) (.int .i64 0) = pure (.bool false) := by rw [binOp_geq, decide_eq_false h0]
    clear HD
    go_enter Tryz.func63, Tryz.ntmps63
    go_wp2_with fail
    go_quiet (fail)
    go_wp2_with fail
    go_ret
    exact ⟨by rw [HQ.out]; rfl, (Fr.refl _ _).drewN _⟩

/-- the first steps of a call: why nothing can be done -/
theorem getS_9 (h : ¬ s.e.1 = 0) (r : Int) : s.getS r = (0, 9) := by simp [Zp.getS, h]
theorem getS_5 (h : s.e.1 = 0) {r : Int} (hr : s.rg r = false) : s.getS r = (0, 5) := by simp [Zp.getS, h, hr]
theorem getS_0 (h : s.e.1 = 0) {k : Nat} (hr : s.rg k = true) : s.getS k = (rd8 s.b (s.at_ + 8 * k), 0) := by simp [Zp.getS, h, hr]
theorem setS_9 (h : ¬ s.e.1 = 0) (r : Int) (v : Nat) : s.setS r v = (s, 9) := by simp [Zp.setS, h]
theorem setS_5 (h : s.e.1 = 0) {r : Int} (hr : s.rg r = false) (v : Nat) : s.setS r v = (s, 5) := by simp [Zp.setS, h, hr]
theorem setS_0 (h : s.e.1 = 0) {k : Nat} (hr : s.rg k = true) (v : Nat) : s.setS k v = (s.putR k v, 0) := by simp [Zp.setS, h, hr]
theorem sget_ok (w : World) (r : Int) (h : SpAt w O R p s z) : Calls Tryz.prog 21 #[.pointer (some ⟨p, 0, none⟩), .int .i64 r] w fun e w' => e = .returned (.tuple #[.int .u64 (s.getS r).1, .int .i64 (s.getS r).2]) ∧ Fr no w w' := by
  have HA := Lib.hid (sasked_ok w h)
  by_cases he : s.e.1 = 0
  case neg =>
    have HQ := Lib.hid (getS_9 he r)
    have HE := Lib.hid (ask_9 he)
    clear h he
    go_enter Tryz.func21, Tryz.ntmps21
    go_wp2_with fail
    refine HA.out.mono ?_
    rintro e w1 ⟨rfl, r1⟩
    rw [HE.out]
    have R1 := Lib.hid r1
    clear r1
    go_wp2_with fail
    go_ret2
    exact ⟨by rw [HQ.out]; rfl, R1.out⟩
  have HE := Lib.hid (ask_0 he)
  have HH := Lib.hid (fun w' (r' : Fr no w w') => shas_ok w' r (h.fr r'))
  rcases rg_cases s r with hr | ⟨hr, k, rfl⟩
  · have HQ := Lib.hid (getS_5 he hr)
    have HR := Lib.hid hr
    clear h he hr
    go_enter Tryz.func21, Tryz.ntmps21
    go_wp2_with fail
    refine HA.out.mono ?_
    rintro e w1 ⟨rfl, r1⟩
    rw [HE.out]
    have R1 := Lib.hid r1
    clear r1
    go_wp2_with fail
    refine (HH.out _ R1.out).mono ?_
    rintro e w2 ⟨rfl, r2⟩
    rw [HR.out]
    have R2 := Lib.hid (R1.out.trans r2)
    clear r2
    go_wp2_with fail
    go_ret2
    exact ⟨by rw [HQ.out]; rfl, R2.out⟩
  · have hin := h.ok.inR he hr
    have hbl := h.ok.bl
    have HQ := Lib.hid (getS_0 he hr)
    have HR := Lib.hid hr
    have HS := Lib.hid (fun w => slot_ok w s.at_ k (by have := h.ok.al; omega) (by omega))
    have HL := Lib.hid (fun w' (r' : Fr no w w') => load_in w' (s.at_ + 8 * k) 8 (h.fr r').mem (by omega) (.inr rfl) hbl (by unfold inB; exact decide_eq_true (by simp at hin; omega)))
    have C := Lib.hid (fun w' (r' : Fr no w w') => (⟨cell_of_heap (h.fr r').obj rfl, cell_of_heap (h.fr r').obj rfl⟩ : w'.cell? ⟨p, 8, none⟩ = some (.pointer (some ⟨z.q, 0, none⟩)) ∧ w'.cell? ⟨p, 12, none⟩ = some (.int .u64 s.at_)))
    clear h he hr hin
    go_enter Tryz.func21, Tryz.ntmps21
    go_wp2_with fail
    refine HA.out.mono ?_
    rintro e w1 ⟨rfl, r1⟩
    rw [HE.out]
    have R1 := Lib.hid r1
    clear r1
    go_wp2_with fail
    refine (HH.out _ R1.out).mono ?_
    rintro e w2 ⟨rfl, r2⟩
    rw [HR.out]
    have R2 := Lib.hid (R1.out.trans r2)
    clear r2
    go_wp2_with fail
    have R3 := Lib.hid (R2.out.trans (Fr.refl no w2).drew)
    refine Lex.region [9, 10] [13, 1, 1] (by kernel_rfl) (by kernel_rfl) ?_
    refine Lex.opens (fun w' => w'.cell? ⟨p, 8, none⟩ = some (.pointer (some ⟨z.q, 0, none⟩)) ∧ w'.cell? ⟨p, 12, none⟩ = some (.int .u64 s.at_)) ((C.out _ R3.out)) ?_
    repeat (first
      | (refine Lex.skips (by rfl) ?_; (try simp only [Act.put, List.setIfInBounds_toArray, List.set_cons_zero, List.set_cons_succ]))
      | (refine Lex.quiet (v := ?_) (by rfl) (by rfl) ?_ ?_; rotate_left; (focus (intro w' hS'; go_simp; try rfl)); (try simp only [Act.put, List.setIfInBounds_toArray, List.set_cons_zero, List.set_cons_succ])))
    refine Lex.loud (by rfl) (by rfl) ?_
    intro K' hK'
    go_simp
    refine (HS.out _).mono ?_
    rintro e w3 ⟨rfl, rfl⟩
    refine hK' _ _ ((C.out _ R3.out)) ?_
    clear hK'
    try simp only [Act.put, List.setIfInBounds_toArray, List.set_cons_zero, List.set_cons_succ]
    repeat (first
      | (refine Lex.skips (by rfl) ?_; (try simp only [Act.put, List.setIfInBounds_toArray, List.set_cons_zero, List.set_cons_succ]))
      | (refine Lex.quiet (v := ?_) (by rfl) (by rfl) ?_ ?_; rotate_left; (focus (intro w' hS'; go_simp; try rfl)); (try simp only [Act.put, List.setIfInBounds_toArray, List.set_cons_zero, List.set_cons_succ])))
    refine Lex.loud (by rfl) (by rfl) ?_
    intro K' hK'
    go_simp
    refine (HL.out _ R3.out).mono ?_
    rintro e w4 ⟨rfl, r4⟩
    have R4 := Lib.hid (R3.out.trans r4)
    clear r4
    refine hK' _ _ ((C.out _ R4.out)) ?_
    clear hK'
    try simp only [Act.put, List.setIfInBounds_toArray, List.set_cons_zero, List.set_cons_succ]
    repeat (first
      | (refine Lex.skips (by rfl) ?_; (try simp only [Act.put, List.setIfInBounds_toArray, List.set_cons_zero, List.set_cons_succ]))
      | (refine Lex.quiet (v := ?_) (by rfl) (by rfl) ?_ ?_; rotate_left; (focus (intro w' hS'; go_simp; try rfl)); (try simp only [Act.put, List.setIfInBounds_toArray, List.set_cons_zero, List.set_cons_succ])))
    refine Lex.done ?_
    refine Lex.opens (fun _ => True) (trivial) ?_
    repeat (first
      | (refine Lex.skips (by rfl) ?_; (try simp only [Act.put, List.setIfInBounds_toArray, List.set_cons_zero, List.set_cons_succ]))
      | (refine Lex.quiet (v := ?_) (by rfl) (by rfl) ?_ ?_; rotate_left; (focus (intro w' hS'; go_simp; try rfl)); (try simp only [Act.put, List.setIfInBounds_toArray, List.set_cons_zero, List.set_cons_succ])))
    refine Lex.done ?_
    refine Lex.opens (fun _ => True) (trivial) ?_
    repeat (first
      | (refine Lex.skips (by rfl) ?_; (try simp only [Act.put, List.setIfInBounds_toArray, List.set_cons_zero, List.set_cons_succ]))
      | (refine Lex.quiet (v := ?_) (by rfl) (by rfl) ?_ ?_; rotate_left; (focus (intro w' hS'; go_simp; try rfl)); (try simp only [Act.put, List.setIfInBounds_toArray, List.set_cons_zero, List.set_cons_succ])))
    refine Lex.done ?_
    refine Lex.ends ?_
    go_wp2_with fail
    go_ret2
    exact ⟨by rw [HQ.out]; rfl, R4.out⟩
theorem sset_ok (w : World) (r : Int) (v : Nat) (hv : v < 18446744073709551616) (h : SpAt w O R p s z) : Calls Tryz.prog 25 #[.pointer (some ⟨p, 0, none⟩), .int .i64 r, .int .u64 v] w fun e w' => e = .returned (.int .i64 (s.setS r v).2) ∧ SpAt w' O R p (s.setS r v).1 z ∧ Fr O w w' := by
  have HN := Lib.hid (snone_ok w h)
  have c16 : w.cell? ⟨p, 16, none⟩ = some (.int .i64 s.e.1) := cell_of_heap h.obj rfl
  have H := Lib.hid h
  by_cases he : s.e.1 = 0
  case neg =>
    have HQ := Lib.hid (setS_9 he r v)
    have hb : (s.e.1 != 0) = true := by simpa using he
    clear h he
    go_enter Tryz.func25, Tryz.ntmps25
    go_wp2_with fail
    refine HN.out.mono ?_
    rintro e w' ⟨rfl, rfl⟩
    go_wp2_with fail
    go_ret
    rw [HQ.out]
    exact ⟨rfl, H.out, Fr.refl _ _⟩
  have HH := Lib.hid (shas_ok w r h)
  rcases rg_cases s r with hr | ⟨hr, k, rfl⟩
  · have HQ := Lib.hid (setS_5 he hr v)
    have HR := Lib.hid hr
    rw [he] at c16
    clear h he hr
    go_enter Tryz.func25, Tryz.ntmps25
    go_wp2_with fail
    refine HN.out.mono ?_
    rintro e w' ⟨rfl, rfl⟩
    go_wp2_with fail
    refine HH.out.mono ?_
    rintro e w2 ⟨rfl, r2⟩
    rw [HR.out]
    have R2 := Lib.hid r2
    clear r2
    go_wp2_with fail
    go_ret
    rw [HQ.out]
    exact ⟨rfl, H.out.fr R2.out, R2.out.to⟩
  · have hin := h.ok.inR he hr
    have hbl := h.ok.bl
    have HQ := Lib.hid (setS_0 he hr v)
    have HR := Lib.hid hr
    have HS := Lib.hid (fun w => slot_ok w s.at_ k (by have := h.ok.al; omega) (by omega))
    have HL := Lib.hid (fun w' (r' : Fr no w w') => store_in w' (s.at_ + 8 * k) v 8 rfl (h.fr r').mem (by omega) hbl hv (by unfold inB; exact decide_eq_true (by simp at hin; omega)))
    have C := Lib.hid (fun w' (r' : Fr no w w') => (⟨cell_of_heap (h.fr r').obj rfl, cell_of_heap (h.fr r').obj rfl⟩ : w'.cell? ⟨p, 8, none⟩ = some (.pointer (some ⟨z.q, 0, none⟩)) ∧ w'.cell? ⟨p, 12, none⟩ = some (.int .u64 s.at_)))
    have HOK : Hid ((s.putR k v).Ok) := Lib.hid (h.ok.putR (by simp at hin; omega))
    rw [he] at c16
    clear h he hr hin
    go_enter Tryz.func25, Tryz.ntmps25
    go_wp2_with fail
    refine HN.out.mono ?_
    rintro e w' ⟨rfl, rfl⟩
    go_wp2_with fail
    refine HH.out.mono ?_
    rintro e w2 ⟨rfl, r2⟩
    rw [HR.out]
    have R2 := Lib.hid r2
    clear r2
    go_wp2_with fail
    have R3 := Lib.hid (R2.out.trans (Fr.refl no w2).drew)
    refine Lex.region [9, 11] [12, 1] (by kernel_rfl) (by kernel_rfl) ?_
    refine Lex.opens (fun w' => w'.cell? ⟨p, 8, none⟩ = some (.pointer (some ⟨z.q, 0, none⟩)) ∧ w'.cell? ⟨p, 12, none⟩ = some (.int .u64 s.at_)) ((C.out _ R3.out)) ?_
    repeat (first
      | (refine Lex.skips (by rfl) ?_; (try simp only [Act.put, List.setIfInBounds_toArray, List.set_cons_zero, List.set_cons_succ]))
      | (refine Lex.quiet (v := ?_) (by rfl) (by rfl) ?_ ?_; rotate_left; (focus (intro w' hS'; go_simp; try rfl)); (try simp only [Act.put, List.setIfInBounds_toArray, List.set_cons_zero, List.set_cons_succ])))
    refine Lex.loud (by rfl) (by rfl) ?_
    intro K' hK'
    go_simp
    refine (HS.out _).mono ?_
    rintro e w3 ⟨rfl, rfl⟩
    refine hK' _ _ ((C.out _ R3.out)) ?_
    clear hK'
    try simp only [Act.put, List.setIfInBounds_toArray, List.set_cons_zero, List.set_cons_succ]
    repeat (first
      | (refine Lex.skips (by rfl) ?_; (try simp only [Act.put, List.setIfInBounds_toArray, List.set_cons_zero, List.set_cons_succ]))
      | (refine Lex.quiet (v := ?_) (by rfl) (by rfl) ?_ ?_; rotate_left; (focus (intro w' hS'; go_simp; try rfl)); (try simp only [Act.put, List.setIfInBounds_toArray, List.set_cons_zero, List.set_cons_succ])))
    refine Lex.loud (by rfl) (by rfl) ?_
    intro K' hK'
    go_simp
    refine (HL.out _ R3.out).mono ?_
    rintro e w4 ⟨rfl, hm, r4⟩
    have HSP := Lib.hid ((H.out.fr R3.out).turnB r4 hm HOK.out)
    have R4 := Lib.hid ((R3.out.to (T := O)).trans (r4.mono (fun i hi _ => by simp at hi; subst hi; exact H.out.og)))
    have HC4 : Hid (w4.cell? ⟨p, 8, none⟩ = some (.pointer (some ⟨z.q, 0, none⟩)) ∧ w4.cell? ⟨p, 12, none⟩ = some (.int .u64 s.at_)) := Lib.hid ⟨cell_of_heap HSP.out.obj rfl, cell_of_heap HSP.out.obj rfl⟩
    clear r4 hm
    refine hK' _ _ (HC4.out) ?_
    clear hK'
    try simp only [Act.put, List.setIfInBounds_toArray, List.set_cons_zero, List.set_cons_succ]
    repeat (first
      | (refine Lex.skips (by rfl) ?_; (try simp only [Act.put, List.setIfInBounds_toArray, List.set_cons_zero, List.set_cons_succ]))
      | (refine Lex.quiet (v := ?_) (by rfl) (by rfl) ?_ ?_; rotate_left; (focus (intro w' hS'; go_simp; try rfl)); (try simp only [Act.put, List.setIfInBounds_toArray, List.set_cons_zero, List.set_cons_succ])))
    refine Lex.done ?_
    refine Lex.opens (fun _ => True) (trivial) ?_
    repeat (first
      | (refine Lex.skips (by rfl) ?_; (try simp only [Act.put, List.setIfInBounds_toArray, List.set_cons_zero, List.set_cons_succ]))
      | (refine Lex.quiet (v := ?_) (by rfl) (by rfl) ?_ ?_; rotate_left; (focus (intro w' hS'; go_simp; try rfl)); (try simp only [Act.put, List.setIfInBounds_toArray, List.set_cons_zero, List.set_cons_succ])))
    refine Lex.done ?_
    refine Lex.ends ?_
    go_wp2_with fail
    go_ret
    rw [HQ.out]
    exact ⟨rfl, HSP.out, R4.out⟩

end Go.Proofs.YtihnkijeefkefaaGreat

import Derived.Test.YtihnkijeefkefaaGreatR1
set_option linter.unusedSimpArgs false
set_option linter.unusedVariables false
set_option linter.unusedSectionVars false
set_option linter.unnecessarySimpa false
set_option maxRecDepth 100000
/- The document's space: what it answers. -/
namespace Go.Proofs.YtihnkijeefkefaaGreat
open Go.RowKit

attribute [local go_sem] Program.isFuncB Program.isSliceB

variable {w w' w'' w0 : World} {O R : Nat → Prop} {p : Nat} {s s' : Zp} {z : Rz}

theorem rreg_ok (w : World) (r : Int) (h : RSpAt w O R p s z) : Calls Tryz.prog 140 #[.pointer (some ⟨p, 0, none⟩), .int .i64 r] w fun e w' => e = .returned (.bool (s.rg r)) ∧ Fr no w w' := by
  obtain ⟨b, ob, hfa, -, hr, -⟩ := h.fn h.ok.fi
  have c5 : w.cell? ⟨p, 1, none⟩ = some (.slice z.fa s.m.f.length z.fc) := cell_of_heap h.obj rfl
  rw [hfa] at c5
  have c13 : w.cell? ⟨p, 5, none⟩ = some (.int .i64 s.f) := cell_of_heap h.obj rfl
  have hlt : (s.f : Int) < s.m.f.length := by have := h.ok.fi; omega
  have HD : Hid (s.rg r = decide (0 ≤ r ∧ r < (fnOf s.m s.f).r)) := Lib.hid rfl
  generalize (fnOf s.m s.f).r = n at *
  generalize s.f = f at *
  generalize s.m.f.length = fl at *
  clear h hfa
  by_cases h0 : r ≥ 0
  · have HQ : Hid (s.rg r = decide (r < n)) := Lib.hid (by rw [HD.out]; rw [decide_eq_decide]; omega)
    clear HD
    go_enter Tryz.func140, Tryz.ntmps140
    go_wp2_with fail
    go_quiet (fail)
    go_wp2_with fail
    go_ret
    exact ⟨by rw [HQ.out]; rfl, (Fr.refl _ _).drewN _⟩
  · have HQ : Hid (s.rg r = false) := Lib.hid (by rw [HD.out]; exact decide_eq_false (fun h => h0 h.1))
    have hge : binOp .geq 3 (.int .i64 r) (.int .i64 0) = pure (.bool false) := by rw [binOp_geq, decide_eq_false h0]
    clear HD
    go_enter Tryz.func140, Tryz.ntmps140
    go_wp2_with fail
    go_quiet (fail)
    go_wp2_with fail
    go_ret
    exact ⟨by rw [HQ.out]; rfl, (Fr.refl _ _).drewN _⟩
set_option maxHeartbeats 1000000 in
theorem rget_ok (w : World) (r : Int) (h : RSpAt w O R p s z) : Calls Tryz.prog 82 #[.pointer (some ⟨p, 0, none⟩), .int .i64 r] w fun e w' => e = .returned (.tuple #[.int .u64 (s.getS r).1, .int .i64 (s.getS r).2]) ∧ Fr no w w' := by
  have c9 : w.cell? ⟨p, 9, none⟩ = some (.int .i64 s.e.1) := cell_of_heap h.obj rfl
  have H := Lib.hid h
  by_cases he : s.e.1 = 0
  case neg =>
    have HQ := Lib.hid (getS_9 he r)
    have hb : (s.e.1 != 0) = true := by simpa using he
    clear h he
    go_enter Tryz.func82, Tryz.ntmps82
    go_wp2_with fail
    go_ret2
    exact ⟨by rw [HQ.out]; rfl, Fr.refl _ _⟩
  rw [he] at c9
  have HH := Lib.hid (rreg_ok w r h)
  rcases rg_cases s r with hr | ⟨hr, k, rfl⟩
  · have HQ := Lib.hid (getS_5 he hr)
    have HR := Lib.hid hr
    clear h he hr
    go_enter Tryz.func82, Tryz.ntmps82
    go_wp2_with fail
    refine HH.out.mono ?_
    rintro e w2 ⟨rfl, r2⟩
    rw [HR.out]
    have R2 := Lib.hid r2
    clear r2
    go_wp2_with fail
    go_ret2
    exact ⟨by rw [HQ.out]; rfl, R2.out⟩
  · have hin := h.ok.inR he hr
    have hbl := h.ok.bl
    have HR := Lib.hid hr
    have HS := Lib.hid (fun w => refslot_ok w s.at_ k (by have := h.ok.al; omega) (by omega))
    have C := Lib.hid (fun w' (r' : Fr no w w') => (⟨cell_of_heap (h.fr r').obj rfl, cell_of_heap (h.fr r').obj rfl⟩ : w'.cell? ⟨p, 2, none⟩ = some (.pointer (some ⟨z.q, 0, none⟩)) ∧ w'.cell? ⟨p, 6, none⟩ = some (.int .u64 s.at_)))
    have HQ := Lib.hid (getS_0 he hr)
    have HL := Lib.hid (fun w' (r' : Fr no w w') => rload_in w' (s.at_ + 8 * k) 8 rfl (h.fr r').mem (by omega) hbl (by unfold inB; exact decide_eq_true (by simp at hin; omega)))
    clear h he hr hin
    go_enter Tryz.func82, Tryz.ntmps82
    go_wp2_with fail
    refine HH.out.mono ?_
    rintro e w2 ⟨rfl, r2⟩
    rw [HR.out]
    have R2 := Lib.hid r2
    clear r2
    go_wp2_with fail
    have R3 := Lib.hid (R2.out.trans (Fr.refl no w2).drew)
    refine Lex.region [9, 10] [13, 1, 1] (by kernel_rfl) (by kernel_rfl) ?_
    refine Lex.opens (fun w' => w'.cell? ⟨p, 2, none⟩ = some (.pointer (some ⟨z.q, 0, none⟩)) ∧ w'.cell? ⟨p, 6, none⟩ = some (.int .u64 s.at_)) ((C.out _ R3.out)) ?_
    repeat (first
      | (refine Lex.skips (by rfl) ?_; (try simp only [Act.put, List.setIfInBounds_toArray, List.set_cons_zero, List.set_cons_succ]))
      | (refine Lex.quiet (v := ?_) (by rfl) (by rfl) ?_ ?_; rotate_left; (focus (intro w' hS'; go_simp; try rfl)); (try simp only [Act.put, List.setIfInBounds_toArray, List.set_cons_zero, List.set_cons_succ])))
    refine Lex.loud (by rfl) (by rfl) ?_
    intro K' hK'
    go_simp
    refine (HS.out _).mono ?_
    rintro e w3 ⟨rfl, rfl⟩
    refine hK' _ _ ((C.out _ R3.out)) ?_
    clear hK'
    try simp only [Act.put, List.setIfInBounds_toArray, List.set_cons_zero, List.set_cons_succ]
    repeat (first
      | (refine Lex.skips (by rfl) ?_; (try simp only [Act.put, List.setIfInBounds_toArray, List.set_cons_zero, List.set_cons_succ]))
      | (refine Lex.quiet (v := ?_) (by rfl) (by rfl) ?_ ?_; rotate_left; (focus (intro w' hS'; go_simp; try rfl)); (try simp only [Act.put, List.setIfInBounds_toArray, List.set_cons_zero, List.set_cons_succ])))
    refine Lex.loud (by rfl) (by rfl) ?_
    intro K' hK'
    go_simp
    refine (HL.out _ R3.out).mono ?_
    rintro e w4 ⟨rfl, r4⟩
    have R4 := Lib.hid (R3.out.trans r4)
    clear r4
    refine hK' _ _ ((C.out _ R4.out)) ?_
    clear hK'
    try simp only [Act.put, List.setIfInBounds_toArray, List.set_cons_zero, List.set_cons_succ]
    repeat (first
      | (refine Lex.skips (by rfl) ?_; (try simp only [Act.put, List.setIfInBounds_toArray, List.set_cons_zero, List.set_cons_succ]))
      | (refine Lex.quiet (v := ?_) (by rfl) (by rfl) ?_ ?_; rotate_left; (focus (intro w' hS'; go_simp; try rfl)); (try simp only [Act.put, List.setIfInBounds_toArray, List.set_cons_zero, List.set_cons_succ])))
    refine Lex.done ?_
    refine Lex.opens (fun _ => True) (trivial) ?_
    repeat (first
      | (refine Lex.skips (by rfl) ?_; (try simp only [Act.put, List.setIfInBounds_toArray, List.set_cons_zero, List.set_cons_succ]))
      | (refine Lex.quiet (v := ?_) (by rfl) (by rfl) ?_ ?_; rotate_left; (focus (intro w' hS'; go_simp; try rfl)); (try simp only [Act.put, List.setIfInBounds_toArray, List.set_cons_zero, List.set_cons_succ])))
    refine Lex.done ?_
    refine Lex.opens (fun _ => True) (trivial) ?_
    repeat (first
      | (refine Lex.skips (by rfl) ?_; (try simp only [Act.put, List.setIfInBounds_toArray, List.set_cons_zero, List.set_cons_succ]))
      | (refine Lex.quiet (v := ?_) (by rfl) (by rfl) ?_ ?_; rotate_left; (focus (intro w' hS'; go_simp; try rfl)); (try simp only [Act.put, List.setIfInBounds_toArray, List.set_cons_zero, List.set_cons_succ])))
    refine Lex.done ?_
    refine Lex.ends ?_
    go_wp2_with fail
    go_ret2
    exact ⟨by rw [HQ.out]; rfl, R4.out⟩
set_option maxHeartbeats 1000000 in
theorem rset_ok (w : World) (r : Int) (v : Nat) (hv : v < 18446744073709551616) (h : RSpAt w O R p s z) : Calls Tryz.prog 81 #[.pointer (some ⟨p, 0, none⟩), .int .i64 r, .int .u64 v] w fun e w' => e = .returned (.int .i64 (s.setS r v).2) ∧ RSpAt w' O R p (s.setS r v).1 z ∧ Fr O w w' := by
  have c9 : w.cell? ⟨p, 9, none⟩ = some (.int .i64 s.e.1) := cell_of_heap h.obj rfl
  have H := Lib.hid h
  by_cases he : s.e.1 = 0
  case neg =>
    have HQ := Lib.hid (setS_9 he r v)
    have hb : (s.e.1 != 0) = true := by simpa using he
    clear h he
    go_enter Tryz.func81, Tryz.ntmps81
    go_wp2_with fail
    go_ret
    rw [HQ.out]
    exact ⟨rfl, H.out, Fr.refl _ _⟩
  rw [he] at c9
  have HH := Lib.hid (rreg_ok w r h)
  rcases rg_cases s r with hr | ⟨hr, k, rfl⟩
  · have HQ := Lib.hid (setS_5 he hr v)
    have HR := Lib.hid hr
    clear h he hr
    go_enter Tryz.func81, Tryz.ntmps81
    go_wp2_with fail
    refine HH.out.mono ?_
    rintro e w2 ⟨rfl, r2⟩
    rw [HR.out]
    have R2 := Lib.hid r2
    clear r2
    go_wp2_with fail
    go_ret
    rw [HQ.out]
    exact ⟨rfl, H.out.fr R2.out, R2.out.to⟩
  · have hin := h.ok.inR he hr
    have hbl := h.ok.bl
    have HR := Lib.hid hr
    have HS := Lib.hid (fun w => refslot_ok w s.at_ k (by have := h.ok.al; omega) (by omega))
    have C := Lib.hid (fun w' (r' : Fr no w w') => (⟨cell_of_heap (h.fr r').obj rfl, cell_of_heap (h.fr r').obj rfl⟩ : w'.cell? ⟨p, 2, none⟩ = some (.pointer (some ⟨z.q, 0, none⟩)) ∧ w'.cell? ⟨p, 6, none⟩ = some (.int .u64 s.at_)))
    have HQ := Lib.hid (setS_0 he hr v)
    have HL := Lib.hid (fun w' (r' : Fr no w w') => rstore_in w' (s.at_ + 8 * k) 8 v rfl (h.fr r').mem (by omega) hbl hv (by unfold inB; exact decide_eq_true (by simp at hin; omega)))
    have HOK : Hid ((s.putR k v).Ok) := Lib.hid (h.ok.putR (by simp at hin; omega))
    clear h he hr hin
    go_enter Tryz.func81, Tryz.ntmps81
    go_wp2_with fail
    refine HH.out.mono ?_
    rintro e w2 ⟨rfl, r2⟩
    rw [HR.out]
    have R2 := Lib.hid r2
    clear r2
    go_wp2_with fail
    have R3 := Lib.hid (R2.out.trans (Fr.refl no w2).drew)
    refine Lex.region [9, 11] [12, 1] (by kernel_rfl) (by kernel_rfl) ?_
    refine Lex.opens (fun w' => w'.cell? ⟨p, 2, none⟩ = some (.pointer (some ⟨z.q, 0, none⟩)) ∧ w'.cell? ⟨p, 6, none⟩ = some (.int .u64 s.at_)) ((C.out _ R3.out)) ?_
    repeat (first
      | (refine Lex.skips (by rfl) ?_; (try simp only [Act.put, List.setIfInBounds_toArray, List.set_cons_zero, List.set_cons_succ]))
      | (refine Lex.quiet (v := ?_) (by rfl) (by rfl) ?_ ?_; rotate_left; (focus (intro w' hS'; go_simp; try rfl)); (try simp only [Act.put, List.setIfInBounds_toArray, List.set_cons_zero, List.set_cons_succ])))
    refine Lex.loud (by rfl) (by rfl) ?_
    intro K' hK'
    go_simp
    refine (HS.out _).mono ?_
    rintro e w3 ⟨rfl, rfl⟩
    refine hK' _ _ ((C.out _ R3.out)) ?_
    clear hK'
    try simp only [Act.put, List.setIfInBounds_toArray, List.set_cons_zero, List.set_cons_succ]
    repeat (first
      | (refine Lex.skips (by rfl) ?_; (try simp only [Act.put, List.setIfInBounds_toArray, List.set_cons_zero, List.set_cons_succ]))
      | (refine Lex.quiet (v := ?_) (by rfl) (by rfl) ?_ ?_; rotate_left; (focus (intro w' hS'; go_simp; try rfl)); (try simp only [Act.put, List.setIfInBounds_toArray, List.set_cons_zero, List.set_cons_succ])))
    refine Lex.loud (by rfl) (by rfl) ?_
    intro K' hK'
    go_simp
    refine (HL.out _ R3.out).mono ?_
    rintro e w4 ⟨rfl, hm, r4⟩
    have HSP := Lib.hid ((H.out.fr R3.out).turnB r4 hm HOK.out)
    have R4 := Lib.hid ((R3.out.to (T := O)).trans (r4.mono (fun i hi _ => by simp at hi; subst hi; exact H.out.og)))
    have HC4 : Hid (w4.cell? ⟨p, 2, none⟩ = some (.pointer (some ⟨z.q, 0, none⟩)) ∧ w4.cell? ⟨p, 6, none⟩ = some (.int .u64 s.at_)) := Lib.hid ⟨cell_of_heap HSP.out.obj rfl, cell_of_heap HSP.out.obj rfl⟩
    clear r4 hm
    refine hK' _ _ (HC4.out) ?_
    clear hK'
    try simp only [Act.put, List.setIfInBounds_toArray, List.set_cons_zero, List.set_cons_succ]
    repeat (first
      | (refine Lex.skips (by rfl) ?_; (try simp only [Act.put, List.setIfInBounds_toArray, List.set_cons_zero, List.set_cons_succ]))
      | (refine Lex.quiet (v := ?_) (by rfl) (by rfl) ?_ ?_; rotate_left; (focus (intro w' hS'; go_simp; try rfl)); (try simp only [Act.put, List.setIfInBounds_toArray, List.set_cons_zero, List.set_cons_succ])))
    refine Lex.done ?_
    refine Lex.opens (fun _ => True) (trivial) ?_
    repeat (first
      | (refine Lex.skips (by rfl) ?_; (try simp only [Act.put, List.setIfInBounds_toArray, List.set_cons_zero, List.set_cons_succ]))
      | (refine Lex.quiet (v := ?_) (by rfl) (by rfl) ?_ ?_; rotate_left; (focus (intro w' hS'; go_simp; try rfl)); (try simp only [Act.put, List.setIfInBounds_toArray, List.set_cons_zero, List.set_cons_succ])))
    refine Lex.done ?_
    refine Lex.ends ?_
    go_wp2_with fail
    go_ret
    rw [HQ.out]
    exact ⟨rfl, HSP.out, R4.out⟩
set_option maxHeartbeats 1000000 in
theorem rgo_ok (w : World) (n : Int) (h : RSpAt w O R p s z) : Calls Tryz.prog 83 #[.pointer (some ⟨p, 0, none⟩), .int .i64 n] w fun e w' => e = .returned (.int .i64 (s.goS n).2) ∧ RSpTo w w' O R p (s.goS n).1 := by
  have c9 : w.cell? ⟨p, 9, none⟩ = some (.int .i64 s.e.1) := cell_of_heap h.obj rfl
  have H := Lib.hid h
  by_cases he : s.e.1 = 0
  case neg =>
    have HQ := Lib.hid (goS_9 he n)
    have hb : (s.e.1 != 0) = true := by simpa using he
    clear h he
    go_enter Tryz.func83, Tryz.ntmps83
    go_wp2_with fail
    go_ret
    rw [HQ.out]
    exact ⟨rfl, H.out.to (Fr.refl _ _)⟩
  rw [he] at c9
  have HP := Lib.hid (fun w => srefplace_ok w n)
  cases hn : isPl n
  · have HQ := Lib.hid (goS_5 he hn)
    rw [hn] at HP
    clear h he hn
    go_enter Tryz.func83, Tryz.ntmps83
    go_wp2_with fail
    refine (HP.out _).mono ?_
    rintro e w' ⟨rfl, rfl⟩
    go_wp2_with fail
    go_ret
    rw [HQ.out]
    exact ⟨rfl, H.out.to (Fr.refl _ _)⟩
  · have HQ := Lib.hid (goS_0 he hn)
    have HOK : Hid ((s.goS n).1.Ok) := Lib.hid (h.ok.goS n)
    rw [HQ.out] at HOK
    rw [hn] at HP
    have c7 : w.cell? ⟨p, 7, none⟩ = some (.int .i64 s.pc) := cell_of_heap h.obj rfl
    have f7 : w.frozen? ⟨p, 7, none⟩ = false := frozen_of_heap h.obj
    have HS := Lib.hid (h.goS n HOK.out)
    clear h he hn
    go_enter Tryz.func83, Tryz.ntmps83
    go_wp2_with fail
    refine (HP.out _).mono ?_
    rintro e w' ⟨rfl, rfl⟩
    go_wp2_with fail
    go_ret
    rw [HQ.out]
    exact ⟨rfl, HS.out.1.to HS.out.2⟩
set_option maxHeartbeats 1000000 in
theorem rburn_ok (w : World) (n : Int) (hn63 : -9223372036854775808 ≤ n) (h : RSpAt w O R p s z) : Calls Tryz.prog 84 #[.pointer (some ⟨p, 0, none⟩), .int .i64 n] w fun e w' => e = .returned (.int .i64 (s.burnS n).2) ∧ RSpTo w w' O R p (s.burnS n).1 := by
  have c9 : w.cell? ⟨p, 9, none⟩ = some (.int .i64 s.e.1) := cell_of_heap h.obj rfl
  have H := Lib.hid h
  by_cases he : s.e.1 = 0
  case neg =>
    have HQ := Lib.hid (burnS_9 he n)
    have hb : (s.e.1 != 0) = true := by simpa using he
    clear h he
    go_enter Tryz.func84, Tryz.ntmps84
    go_wp2_with fail
    go_ret
    rw [HQ.out]
    exact ⟨rfl, H.out.to (Fr.refl _ _)⟩
  rw [he] at c9
  have h0 := h.ok.f0
  have h1 := h.ok.f1
  have c4 : w.cell? ⟨p, 4, none⟩ = some (.int .i64 s.fuel) := cell_of_heap h.obj rfl
  by_cases hn : n < 0 ∨ s.fuel < n
  · have HQ := Lib.hid (burnS_2 he hn)
    clear h he
    by_cases hn0 : n < 0
    · clear hn
      go_enter Tryz.func84, Tryz.ntmps84
      go_wp2_with fail
      go_ret
      rw [HQ.out]
      exact ⟨rfl, H.out.to (Fr.refl _ _)⟩
    have hn1 : n > s.fuel := by omega
    clear hn
    go_enter Tryz.func84, Tryz.ntmps84
    go_wp2_with fail
    go_ret
    rw [HQ.out]
    exact ⟨rfl, H.out.to (Fr.refl _ _)⟩
  · have HQ := Lib.hid (burnS_0 he hn)
    have hn0 : ¬ n < 0 := fun h => hn (.inl h)
    have hn1 : ¬ n > s.fuel := fun h => hn (.inr h)
    have hw : IntKind.i64.wrap (s.fuel - n) = s.fuel - n := by rw [IntKind.wrap_i64]; omega
    have f4 : w.frozen? ⟨p, 4, none⟩ = false := frozen_of_heap h.obj
    have HOK : Hid ((s.burnS n).1.Ok) := Lib.hid (h.ok.burnS n)
    rw [HQ.out] at HOK
    have HS := Lib.hid (h.fuelS (s.fuel - n) HOK.out)
    clear h he hn h0 h1
    go_enter Tryz.func84, Tryz.ntmps84
    go_wp2_with fail
    go_ret
    rw [HQ.out]
    exact ⟨rfl, HS.out.1.to HS.out.2⟩
theorem chk_nil0 (k c : Int) : chkO [] (k, c) = if mayE (k, c) = false then 2 else 0 := by unfold chkO; cases mayE (k, c) <;> simp [scanD]
set_option maxHeartbeats 1000000 in
theorem rstop_ok (w : World) (k c : Int) (h : RSpAt w O R p s z) : Calls Tryz.prog 88 #[.pointer (some ⟨p, 0, none⟩), .agg #[.int .i64 k, .int .i64 c]] w fun e w' => e = .returned (.int .i64 (s.stopS (k, c)).2) ∧ RSpTo w w' O R p (s.stopS (k, c)).1 := by
  have r0 := (Fr.refl no w).alloc (.cells #[.int .i64 k, .int .i64 c] 43)
  have hb0 := heap_new w (.cells #[.int .i64 k, .int .i64 c] 43)
  have d0 := cell_of_heap (o := 0) hb0 rfl
  have d1 := cell_of_heap (o := 1) hb0 rfl
  have HB := Lib.hid hb0
  have H := Lib.hid (h.fr r0)
  have c9 : (w.alloc (.cells #[.int .i64 k, .int .i64 c] 43)).cell? ⟨p, 9, none⟩ = some (.int .i64 s.e.1) := cell_of_heap H.out.obj rfl
  have R0 := Lib.hid r0
  clear r0 hb0
  by_cases he : s.e.1 = 0
  case neg =>
    have HQ := Lib.hid (stopS_9 he (k, c))
    have hb : (s.e.1 != 0) = true := by simpa using he
    clear h he
    go_enter Tryz.func88, Tryz.ntmps88
    go_wp2_with fail
    go_ret
    rw [HQ.out]
    exact ⟨rfl, H.out.to R0.out.to⟩
  rw [he] at c9
  have HC := Lib.hid (fun w => orefcheck_ok w (.slice none 0 0) [] k c (.inl ⟨rfl, rfl, rfl⟩) (by simp))
  rw [chk_nil0] at HC
  cases hm : mayE (k, c)
  · have HQ := Lib.hid (stopS_2 he hm)
    rw [hm, if_pos rfl] at HC
    clear h he hm
    go_enter Tryz.func88, Tryz.ntmps88
    go_wp2_with fail
    refine (HC.out _).mono ?_
    rintro e w2 ⟨rfl, r2⟩
    have R2 := Lib.hid (R0.out.trans r2)
    have H2 := Lib.hid (H.out.fr r2)
    clear r2
    go_wp2_with fail
    go_ret
    rw [HQ.out]
    exact ⟨rfl, H2.out.to R2.out.to⟩
  · have HQ := Lib.hid (stopS_0 he hm)
    have HOK : Hid ((s.stopS (k, c)).1.Ok) := Lib.hid (h.ok.stopS (k, c))
    rw [HQ.out] at HOK
    rw [hm, if_neg (by decide)] at HC
    clear h he hm
    go_enter Tryz.func88, Tryz.ntmps88
    go_wp2_with fail
    refine (HC.out _).mono ?_
    rintro e w2 ⟨rfl, r2⟩
    have R2 := Lib.hid (R0.out.trans r2)
    have H2 := Lib.hid (H.out.fr r2)
    have hb2 := r2.heap HB.out (by simp)
    have e0 : w2.cell? ⟨w.heap.size, 0, none⟩ = some (.int .i64 k) := cell_of_heap hb2 rfl
    have e1 : w2.cell? ⟨w.heap.size, 1, none⟩ = some (.int .i64 c) := cell_of_heap hb2 rfl
    clear r2 hb2 d0 d1
    have HT := Lib.hid (there_of (o := 9) (n := 2) H2.out.obj (show 9 + 2 ≤ 11 from by decide))
    have HS := Lib.hid (H2.out.endS (k, c) HOK.out)
    go_wp2_with ((refine wpList_store_mid (op := ⟨none, .store 43 (.tmp 18) (.tmp 16), _, _, _, _⟩) rfl 43 (.tmp 18) (.tmp 16) rfl p 9 #[.int .i64 k, .int .i64 c] rfl rfl HT.out (by rw [Tryz.infoEnd]; rfl) (by simp [Value.oneCell']) ?_; rw [act_put_none]))
    go_ret
    rw [HQ.out]
    exact ⟨rfl, (HS.out.1.to HS.out.2).pre R2.out⟩
set_option maxHeartbeats 1000000 in
theorem rgetb_ok (w : World) (hd : s.ds.length < 100000) (h : RSpAt w O R p s z) : Calls Tryz.prog 89 #[.pointer (some ⟨p, 0, none⟩)] w fun e w' => e = .returned (.tuple #[.int .i64 (s.getbS).2.1, .int .i64 (s.getbS).2.2]) ∧ RSpTo w w' O R p (s.getbS).1 := by
  have c9 : w.cell? ⟨p, 9, none⟩ = some (.int .i64 s.e.1) := cell_of_heap h.obj rfl
  have H := Lib.hid h
  by_cases he : s.e.1 = 0
  case neg =>
    have HQ := Lib.hid (getbS_9 he)
    have hb : (s.e.1 != 0) = true := by simpa using he
    clear h he
    go_enter Tryz.func89, Tryz.ntmps89
    go_wp2_with fail
    go_ret2
    rw [HQ.out]
    exact ⟨rfl, H.out.to (Fr.refl _ _)⟩
  rw [he] at c9
  have c3 : w.cell? ⟨p, 3, none⟩ = some (.pointer (some ⟨z.t, 0, none⟩)) := cell_of_heap h.obj rfl
  have HQ := Lib.hid (getbS_0 he)
  have HG := Lib.hid (trefget_ok w h.tape hd h.ok.il h.rb)
  clear h he hd
  go_enter Tryz.func89, Tryz.ntmps89
  go_wp2_with fail
  refine HG.out.mono ?_
  rintro e w2 ⟨lv', rfl, ht, r2, hn⟩
  have HT := Lib.hid (H.out.tapeS ht r2 hn)
  clear ht r2 hn
  go_wp2_with fail
  go_ret2
  rw [HQ.out]
  exact ⟨rfl, HT.out⟩
set_option maxHeartbeats 1000000 in
theorem rputb_ok (w : World) (n : Int) (hn : -9223372036854775808 ≤ n ∧ n < 9223372036854775808) (hd : s.ds.length < 100000) (h : RSpAt w O R p s z) : Calls Tryz.prog 90 #[.pointer (some ⟨p, 0, none⟩), .int .i64 n] w fun e w' => e = .returned (.int .i64 (s.putbS n).2) ∧ RSpTo w w' O R p (s.putbS n).1 := by
  have c9 : w.cell? ⟨p, 9, none⟩ = some (.int .i64 s.e.1) := cell_of_heap h.obj rfl
  have H := Lib.hid h
  by_cases he : s.e.1 = 0
  case neg =>
    have HQ := Lib.hid (putbS_9 he n)
    have hb : (s.e.1 != 0) = true := by simpa using he
    clear h he
    go_enter Tryz.func90, Tryz.ntmps90
    go_wp2_with fail
    go_ret
    rw [HQ.out]
    exact ⟨rfl, H.out.to (Fr.refl _ _)⟩
  rw [he] at c9
  have c3 : w.cell? ⟨p, 3, none⟩ = some (.pointer (some ⟨z.t, 0, none⟩)) := cell_of_heap h.obj rfl
  have HQ := Lib.hid (putbS_0 he n)
  have HG := Lib.hid (trefput_ok w n h.tape hd h.rb hn)
  clear h he hd hn
  go_enter Tryz.func90, Tryz.ntmps90
  go_wp2_with fail
  refine HG.out.mono ?_
  rintro e w2 ⟨lv', rfl, ht, r2, hn⟩
  have HT := Lib.hid (H.out.tapeS ht r2 hn)
  clear ht r2 hn
  go_wp2_with fail
  go_ret
  rw [HQ.out]
  exact ⟨rfl, HT.out⟩

end Go.Proofs.YtihnkijeefkefaaGreat

/- slices.MaxFunc over measures (law24). -/
import Derived.Test.YtjpkmaacalelcaaDoorY6
import Derived.Deep.CutBlock
set_option linter.unusedSimpArgs false
set_option linter.unusedVariables false
set_option linter.unusedSectionVars false
set_option linter.unnecessarySimpa false
namespace Go.Proofs.YtjpkmaacalelcaaDoor
open Go.RowKit Go.Ty Go.Deep

attribute [local go_sem] Program.isFuncB Program.isSliceB

variable {w w' w'' w0 : World}

theorem fr_setRow {S : Nat → Prop} {g : Nat} {cs : Array Value} (h : Fr S w w') (hS : S g ∨ w.heap.size ≤ g) : Fr S w (w'.setRow g cs) :=
  ⟨h.os, h.tape, h.output, by simp [World.setRow, h.size], fun k hk hs => by
    have : g ≠ k := fun e => by rcases hS with m | m; exact hs (e ▸ m); omega
    rw [show (w'.setRow g cs).heap[k]? = w'.heap[k]? from by simp [World.setRow, Array.getElem?_modify, this]]
    exact h.block k hk hs⟩
/-- measures, as they read -/
def MsIn (w : World) (a : Option Addr) (l : List (Nat × Nat)) : Prop := ∀ k (h : k < l.length), ∃ b o, a = some ⟨b, o, none⟩ ∧ At w b (o + k * 2) [.int .i64 l[k].1, .int .i64 l[k].2]
theorem MsIn.fr {a : Option Addr} {l : List (Nat × Nat)} (h : MsIn w a l) (r : Fr no w w') : MsIn w' a l := fun k hk => by
  obtain ⟨b, o, h1, h2⟩ := h k hk
  exact ⟨b, o, h1, h2.fr r⟩
def bestM (m : Nat × Nat) (l : List (Nat × Nat)) : Nat × Nat := l.foldl (fun m y => if m.2 < y.2 then y else m) m
theorem bestM_snoc (m : Nat × Nat) (l : List (Nat × Nat)) (y : Nat × Nat) : bestM m (l ++ [y]) = if (bestM m l).2 < y.2 then y else bestM m l := by unfold bestM; rw [List.foldl_append]; rfl
theorem bestM_in (m : Nat × Nat) (l : List (Nat × Nat)) : bestM m l = m ∨ bestM m l ∈ l := by
  induction l generalizing m with
  | nil => exact .inl rfl
  | cons y l ih =>
    unfold bestM
    rw [List.foldl_cons]
    rcases ih (if m.2 < y.2 then y else m) with h | h
    · unfold bestM at h
      rw [h]
      split
      · exact .inr (by simp)
      · exact .inl rfl
    · exact .inr (List.mem_cons_of_mem _ h)
theorem infoMeas : (Tryd.prog.info? 60).map (·.size) = some 2 := by kernel_rfl
theorem load_meas (w : World) (b : Nat) (u v : Value) (h : w.heap[b]? = some (.cells #[u, v] 60 (0, 0))) : (loadVar 60 ⟨b, 0, none⟩).run Tryd.prog w = .ok (.agg #[u, v]) w :=
  run_loadVar_row w b _ _ #[u, v] _ _ h Tryd.underlying60 rfl (by rw [infoMeas]; rfl)

set_option maxHeartbeats 4000000 in
theorem maxfunc_ok (w : World) (a : Option Addr) (c : Nat) (x : Nat × Nat) (l : List (Nat × Nat)) (hl : MsIn w a (x :: l)) (hlen : l.length ≤ 1000) (hb : ∀ p ∈ x :: l, p.1 ≤ 100000 ∧ p.2 ≤ 100000) :
    Calls Tryd.prog 67 #[.slice a (l.length + 1) c, .func (.func 68) #[] #[]] w
      fun e w' => e = .returned (.agg #[.int .i64 (bestM x l).1, .int .i64 (bestM x l).2]) ∧ Fr no w w' := by
  have HL := Lib.hid hl
  have HB := Lib.hid hb
  obtain ⟨b0, o0, rfl, h0⟩ := hl 0 (by simp)
  have d0 : w.cell? ⟨b0, o0, none⟩ = some (.int .i64 x.1) := by have := h0 0 _ rfl; simpa using this
  have d1 : w.cell? ⟨b0, o0 + 1, none⟩ = some (.int .i64 x.2) := by have := h0 1 _ rfl; simpa using this
  have h1 : ¬ ((l.length : Int) + 1 < 1) := by omega
  have h2 : (0 : Int) < (l.length : Int) + 1 := by omega
  clear hl hb
  go_enter Tryd.func67, Tryd.ntmps67
  change At w b0 (o0 + 0 * 2) [.int .i64 x.1, .int .i64 x.2] at h0
  have h00 := Lib.hid ((h0.fr ((Fr.refl no w).alloc (.cells #[.int .i64 0, .int .i64 0] 60))))
  rw [show o0 + 0 * 2 = o0 by omega] at h00
  clear d0 d1 h0
  go_wp2_with (refine wpList_load_in rfl 60 (.tmp 12) rfl b0 o0 rfl [.int .i64 x.1, .int .i64 x.2] _ h00.out Tryd.underlying60 rfl (by rw [infoMeas]; rfl) ?_; simp only [Act.put, List.setIfInBounds_toArray, List.set_cons_zero, List.set_cons_succ])
  have q1 := (Fr.refl no w).alloc (.cells #[.int .i64 0, .int .i64 0] 60)
  have q2 := (Fr.refl no (w.alloc (.cells #[.int .i64 0, .int .i64 0] 60))).alloc (.cells #[.int .i64 x.1, .int .i64 x.2] 60)
  have HR0 := Lib.hid (q2.heap (heap_new w (.cells #[.int .i64 0, .int .i64 0] 60)) (by simp))
  have HM0 : Hid (((w.alloc (.cells #[.int .i64 0, .int .i64 0] 60)).alloc (.cells #[.int .i64 x.1, .int .i64 x.2] 60)).heap[w.heap.size + 1]? = some (.cells #[.int .i64 (bestM x (l.take 0)).1, .int .i64 (bestM x (l.take 0)).2] 60 (0, 0))) := Lib.hid (by
    have := heap_new (w.alloc (.cells #[.int .i64 0, .int .i64 0] 60)) (.cells #[.int .i64 x.1, .int .i64 x.2] 60)
    rw [World.size_alloc] at this
    exact this)
  have F0 := Lib.hid (q1.trans q2)
  clear q1 q2
  generalize (w.alloc (.cells #[.int .i64 0, .int .i64 0] 60)).alloc (.cells #[.int .i64 x.1, .int .i64 x.2] 60) = w1 at *
  obtain ⟨RB, hRB⟩ : ∃ b, b = w.heap.size := ⟨_, rfl⟩
  obtain ⟨MB, hMB⟩ : ∃ b, b = w.heap.size + 1 := ⟨_, rfl⟩
  have HRM : Hid (w.heap.size ≤ RB ∧ w.heap.size ≤ MB ∧ RB ≠ MB) := Lib.hid (by omega)
  rw [← hMB] at HM0 ⊢
  rw [← hRB] at HR0 ⊢
  clear hRB hMB
  go_loopw [6] (fun y wr => ∃ i : Nat, i ≤ l.length ∧ y = .int .i64 ((i + 1 : Nat) : Int) ∧ Hid (wr.heap[RB]? = some (.cells #[.int .i64 0, .int .i64 0] 60 (0, 0))) ∧
    Hid (wr.heap[MB]? = some (.cells #[.int .i64 (bestM x (l.take i)).1, .int .i64 (bestM x (l.take i)).2] 60 (0, 0))) ∧ Hid (Fr no w wr)) (fun y _ => (l.length + 1 - intOf y).toNat)
  case atStart => exact ⟨0, by omega, rfl, HR0, HM0, F0⟩
  case round =>
    clear HR0 HM0 F0
    obtain ⟨i, hi, rfl, HR, HM, F⟩ := hrel
    by_cases hil : i = l.length
    · subst hil
      rw [List.take_length] at HM
      generalize hbm : bestM x l = bm at HM
      have HBM := Lib.hid hbm
      clear hbm
      have hz : ¬ (((l.length + 1 : Nat) : Int) < (l.length : Int) + 1) := by omega
      go_wp2_with (first
        | (refine wpList_load_row rfl 60 (.tmp 5) rfl MB rfl _ _ _ _ HM.out Tryd.underlying60 rfl (by rw [infoMeas]; rfl) ?_; simp only [Act.put, List.setIfInBounds_toArray, List.set_cons_zero, List.set_cons_succ])
        | (refine wpList_store_row rfl 60 (.tmp 4) (.tmp 32) rfl RB #[.int .i64 bm.1, .int .i64 bm.2] rfl rfl _ _ HR.out (by rw [infoMeas]; rfl) rfl (by simp [Value.oneCell']) ?_; rw [act_put_none]))
      refine bodyPost_ret (results_cell rfl rfl (load_meas _ _ _ _ (setRow_heap _ _ _ _ _ _ HR.out))) rfl ?_
      exact ⟨by rw [HBM.out], F.out.trans' (fr_setRow (g := RB) (cs := #[.int .i64 bm.1, .int .i64 bm.2]) (Fr.refl (only [RB]) wr) (.inl (by simp))) (fun k hk _ => by have := HRM.out; simp at hk; omega)⟩
    · have hlt : i < l.length := by omega
      have hz : ((i + 1 : Nat) : Int) < (l.length : Int) + 1 := by omega
      obtain ⟨b1, o1, e1, hA⟩ := (HL.out.fr F.out) (i + 1) (by simp; omega)
      cases e1
      have hAI : At wr b0 (o0 + (i + 1) * 2) [.int .i64 l[i].1, .int .i64 l[i].2] := by simpa using hA
      have AI := Lib.hid hAI
      have AM := Lib.hid (At.of_heap HM.out)
      have HS := bestM_snoc x (l.take i) l[i]
      rw [← List.take_succ_eq_append_getElem hlt] at HS
      have HS2 := Lib.hid HS
      have hb1 := HB.out l[i] (by simp)
      have hb2 := HB.out (bestM x (l.take i)) (by
        rcases bestM_in x (l.take i) with h | h
        · rw [h]; simp
        · exact List.mem_cons_of_mem _ (List.mem_of_mem_take h))
      have HC := Lib.hid (cmp_ok wr.drew l[i].1 l[i].2 (bestM x (l.take i)).1 (bestM x (l.take i)).2 ⟨hb1.1, hb1.2, hb2.1, hb2.2⟩)
      generalize bestM x (l.take i) = bm at *
      obtain ⟨bn, hbn⟩ : ∃ b, bestM x (l.take (i + 1)) = b := ⟨_, rfl⟩
      rw [hbn] at HS2
      have HBN := Lib.hid hbn
      clear hbn
      generalize l[i] = y at *
      obtain ⟨y1, y2⟩ := y
      obtain ⟨m1, m2⟩ := bm
      dsimp only at *
      clear hA hAI HS hb1 hb2 hil
      have HD := Lib.hid (HR.out)
      have HZ : Hid (wr.heap.size = wr.heap.size) := Lib.hid rfl
      go_upto_region 7 with (fail)
      refine Lex.region [6] [8] (by kernel_rfl) (by kernel_rfl) ?_
      refine Lex.opens (fun w' => At w' b0 (o0 + (i + 1) * 2) [.int .i64 y1, .int .i64 y2] ∧ At w' MB 0 [.int .i64 m1, .int .i64 m2]) (⟨AI.out.fr ((Fr.refl no wr).drew), AM.out.fr ((Fr.refl no wr).drew)⟩) ?_
      repeat (first
        | (refine Lex.skips (by rfl) ?_; (try simp only [Act.put, List.setIfInBounds_toArray, List.set_cons_zero, List.set_cons_succ]))
        | (refine Lex.into (by rfl) (by rfl) _ _ rfl _ _ rfl _ _ (fun w' h => h.1) Tryd.underlying60 rfl (by rw [infoMeas]; rfl) ?_; (try simp only [Act.put, List.setIfInBounds_toArray, List.set_cons_zero, List.set_cons_succ]))
        | (refine Lex.into (by rfl) (by rfl) _ _ rfl _ _ rfl _ _ (fun w' h => h.2) Tryd.underlying60 rfl (by rw [infoMeas]; rfl) ?_; (try simp only [Act.put, List.setIfInBounds_toArray, List.set_cons_zero, List.set_cons_succ]))
        | (refine Lex.quiet (v := ?_) (by rfl) (by rfl) ?_ ?_; rotate_left; (focus (intro w' hS'; go_simp; try rfl)); (try simp only [Act.put, List.setIfInBounds_toArray, List.set_cons_zero, List.set_cons_succ])))
      refine Lex.loud (by rfl) (by rfl) ?_
      intro K' hK'
      go_simp
      refine HC.out.mono ?_
      rintro e w2 ⟨rfl, r2⟩
      have r3 := (((Fr.refl no wr).drew).trans r2)
      have AI3 := Lib.hid (AI.out.fr r3)
      have AM3 := Lib.hid (AM.out.fr r3)
      have HR3 := Lib.hid (r3.heap HR.out (by simp))
      have HM3 := Lib.hid (r3.heap HM.out (by simp))
      have F3 := Lib.hid (F.out.trans r3)
      clear r2 r3 HC
      refine hK' _ _ (⟨AI3.out, AM3.out⟩) ?_
      clear hK'
      try simp only [Act.put, List.setIfInBounds_toArray, List.set_cons_zero, List.set_cons_succ]
      repeat (first
        | (refine Lex.skips (by rfl) ?_; (try simp only [Act.put, List.setIfInBounds_toArray, List.set_cons_zero, List.set_cons_succ]))
        | (refine Lex.quiet (v := ?_) (by rfl) (by rfl) ?_ ?_; rotate_left; (focus (intro w' hS'; go_simp; try rfl)); (try simp only [Act.put, List.setIfInBounds_toArray, List.set_cons_zero, List.set_cons_succ])))
      refine Lex.done ?_
      refine Lex.ends ?_
      by_cases hmy : m2 < y2
      · have e1 : (0 : Int) < (y2 : Int) - m2 := by omega
        have HN : Hid (bestM x (l.take (i + 1)) = (y1, y2)) := Lib.hid (by rw [HBN.out, HS2.out, if_pos hmy])
        clear hmy HS2
        go_wp2_with (first
          | (refine wpList_load_in rfl 60 (.tmp 30) rfl b0 (o0 + (i + 1) * 2) rfl [.int .i64 y1, .int .i64 y2] _ AI3.out Tryd.underlying60 rfl (by rw [infoMeas]; rfl) ?_; simp only [Act.put, List.setIfInBounds_toArray, List.set_cons_zero, List.set_cons_succ])
          | (refine wpList_store_row rfl 60 (.tmp 5) (.tmp 31) rfl MB #[.int .i64 y1, .int .i64 y2] rfl rfl _ _ HM3.out (by rw [infoMeas]; rfl) rfl (by simp [Value.oneCell']) ?_; rw [act_put_none]))
        have r4 := fr_setRow (g := MB) (cs := #[.int .i64 y1, .int .i64 y2]) (Fr.refl (only [MB]) w2) (.inl (by simp))
        have HR4 := Lib.hid (r4.heap HR3.out (by have := HRM.out; simp; omega))
        have HM4 := Lib.hid (setRow_heap w2 MB _ #[.int .i64 y1, .int .i64 y2] _ _ HM3.out)
        have F4 := Lib.hid (F3.out.trans' r4 (fun k hk _ => by have := HRM.out; simp at hk; omega))
        go_roundw
        case rel => exact ⟨i + 1, by omega, by go_num, HR4, by rw [HN.out]; exact HM4, F4⟩
        case measure => first | (simp [intOf]; done) | (simp [intOf]; omega)
      · have e1 : ¬ (0 : Int) < (y2 : Int) - m2 := by omega
        have HN : Hid (bestM x (l.take (i + 1)) = (m1, m2)) := Lib.hid (by rw [HBN.out, HS2.out, if_neg hmy])
        clear hmy HS2
        go_wp2_with fail
        go_roundw
        case rel => exact ⟨i + 1, by omega, by go_num, HR3, by rw [HN.out]; exact HM3, F3⟩
        case measure => first | (simp [intOf]; done) | (simp [intOf]; omega)

end Go.Proofs.YtjpkmaacalelcaaDoor

import Derived.Test.YtihnkijeefkefaaGreatQ7
set_option linter.unusedSimpArgs false
set_option linter.unusedVariables false
set_option linter.unusedSectionVars false
set_option linter.unnecessarySimpa false
set_option maxRecDepth 100000
/- The document's memory: New, Lay, Same. -/
namespace Go.Proofs.YtihnkijeefkefaaGreat
open Go.RowKit

attribute [local go_sem] Program.isFuncB Program.isSliceB

variable {w w' w'' w0 : World} {q g n c : Nat} {bs : List Nat}

theorem RMemAt.new {base : Nat} {v : Value} {l : List Nat} {t : Nat} (h : w.ownsRow base 5 1 v l.length (u8s l)) (h0 : 0 < l.length) (hlt : ∀ x ∈ l, x < 256) : ∃ g c, v = .slice (some ⟨g, 0, none⟩) l.length c ∧ base ≤ g ∧ g < w.heap.size ∧
    (∀ w', Fr no w w' → w'.heap[t]? = some (.cells #[v] 167 (0, 0)) → RMemAt w' t g l.length c l) := by
  rcases h.2 with ⟨rfl, hh⟩ | ⟨g, cap, cur, rfl, hb, hg, -⟩
  · omega
  · exact ⟨g, cap, rfl, hb, (Array.getElem?_eq_some_iff.1 hg).1, fun w' r ht => ⟨ht, owns_base (owns_fr h r (by simp)) (fun _ _ => Nat.zero_le _), hlt⟩⟩
theorem rnew_ok (w : World) (n : Nat) (h0 : 16 ≤ n) (hn : n ≤ 65536) :
    Calls Tryz.prog 78 #[.int .i64 n] w fun e w' => ∃ q g c, e = .returned (.tuple #[.pointer (some ⟨q, 0, none⟩), .int .i64 0]) ∧ RMemAt w' q g n c (List.replicate n 0) ∧ w.heap.size ≤ q ∧ w.heap.size ≤ g ∧ Fr no w w' := by
  have e1 : ¬ (n : Int) < 16 := by omega
  have e2 : ¬ (n : Int) > 65536 := by omega
  go_enter Tryz.func78, Tryz.ntmps78
  go_wp2_with (at_make; (refine wpList_make_any rfl (.tmp 10) (.tmp 10) 22 rfl w.heap.size 5 (.int .u8 0) 1 Tryz.underlying22 Tryz.infoU8 rfl .i64 .i64 n n n rfl rfl rfl rfl (by omega) (by unfold maxLen; omega) (Nat.le_refl _) ?_); intro w1 ho hg)
  have r1 := (Fr.refl no w).grown hg (fun k hk => by cases hk)
  have h2 : w1.ownsRow w.heap.size 5 1 (.slice (some ⟨w.heap.size, 0, none⟩) n n) (List.replicate n 0).length (u8s (List.replicate n 0)) := by
    rw [List.length_replicate]; simpa [u8s] using ho
  obtain ⟨g', c', hh, hg1, hg2, hm⟩ := RMemAt.new (t := w1.heap.size) h2 (by simp; omega) (fun x hx => by rw [List.mem_replicate] at hx; omega)
  injection hh with a1 a2 a3
  injection a1 with a1
  injection a1 with a1 a4 a5
  subst a1
  have r2 := (Fr.refl no w1).alloc (.cells #[.slice (some ⟨w.heap.size, 0, none⟩) n n] 167)
  have HM := Lib.hid (hm _ r2 (by rw [heap_new]))
  rw [List.length_replicate, ← a3] at HM
  have HSZ := Lib.hid r1.size
  have R2 := Lib.hid (r1.trans r2)
  clear h2 ho hg r1 r2 hm hg1 hg2 a2 a3
  go_wp2_with fail
  go_ret2
  exact ⟨_, rfl, _, ⟨_, HM.out⟩, HSZ.out, Nat.le_refl _, R2.out⟩

theorem rsame_ok (w : World) {q2 g2 n2 c2 : Nat} {bs2 : List Nat} (h : RMemAt w q g n c bs) (h2 : RMemAt w q2 g2 n2 c2 bs2) :
    Calls Tryz.prog 99 #[.pointer (some ⟨q, 0, none⟩), .pointer (some ⟨q2, 0, none⟩)] w fun e w' => e = .returned (.bool (decide (bs = bs2))) ∧ Fr no w w' := by
  have hlen := h.len
  have hlen2 := h2.len
  subst hlen; subst hlen2
  have HE := Lib.hid (strB_eq bs bs2 h.lt h2.lt)
  have s1 := conv_reads h.reads 9 Tryz.underlying9
  have s2 := conv_reads h2.reads 9 Tryz.underlying9
  have S1 := Lib.hid (fun w' (r : Fr no w w') => conv_reads (h.fr r).reads 9 Tryz.underlying9)
  have S2 := Lib.hid (fun w' (r : Fr no w w') => conv_reads (h2.fr r).reads 9 Tryz.underlying9)
  have c0 := cell_of_heap (o := 0) h.obj rfl
  have d0 := cell_of_heap (o := 0) h2.obj rfl
  clear h h2
  generalize strB bs = sa at *
  generalize strB bs2 = sb at *
  go_enter Tryz.func99, Tryz.ntmps99
  go_wp2_with fail
  have C0 := Lib.hid (⟨c0, d0, s1, s2⟩ : (fun w' => w'.cell? ⟨q, 0, none⟩ = some (.slice (some ⟨g, 0, none⟩) bs.length c) ∧ w'.cell? ⟨q2, 0, none⟩ = some (.slice (some ⟨g2, 0, none⟩) bs2.length c2) ∧ (convert 22 9 (.slice (some ⟨g, 0, none⟩) bs.length c)).run Tryz.prog w' = .ok (.string sa) w' ∧ (convert 22 9 (.slice (some ⟨g2, 0, none⟩) bs2.length c2)).run Tryz.prog w' = .ok (.string sb) w') w)
  have D0 := Lib.hid (⟨c0, d0, S1.out _ (Fr.refl no w).drew, S2.out _ (Fr.refl no w).drew⟩ : (fun w' => w'.cell? ⟨q, 0, none⟩ = some (.slice (some ⟨g, 0, none⟩) bs.length c) ∧ w'.cell? ⟨q2, 0, none⟩ = some (.slice (some ⟨g2, 0, none⟩) bs2.length c2) ∧ (convert 22 9 (.slice (some ⟨g, 0, none⟩) bs.length c)).run Tryz.prog w' = .ok (.string sa) w' ∧ (convert 22 9 (.slice (some ⟨g2, 0, none⟩) bs2.length c2)).run Tryz.prog w' = .ok (.string sb) w') w.drew)
  clear c0 d0 s1 s2
  refine Lex.region [] [11, 1] (by kernel_rfl) (by kernel_rfl) ?_
  refine Lex.opens (fun w' => w'.cell? ⟨q, 0, none⟩ = some (.slice (some ⟨g, 0, none⟩) bs.length c) ∧ w'.cell? ⟨q2, 0, none⟩ = some (.slice (some ⟨g2, 0, none⟩) bs2.length c2) ∧ (convert 22 9 (.slice (some ⟨g, 0, none⟩) bs.length c)).run Tryz.prog w' = .ok (.string sa) w' ∧ (convert 22 9 (.slice (some ⟨g2, 0, none⟩) bs2.length c2)).run Tryz.prog w' = .ok (.string sb) w') (D0.out) ?_
  repeat (first
    | (refine Lex.skips (by rfl) ?_; (try simp only [Act.put, List.setIfInBounds_toArray, List.set_cons_zero, List.set_cons_succ]))
    | (refine Lex.quiet (v := ?_) (by rfl) (by rfl) ?_ ?_; rotate_left; (focus (intro w' hS'; go_simp; try rfl)); (try simp only [Act.put, List.setIfInBounds_toArray, List.set_cons_zero, List.set_cons_succ])))
  refine Lex.done ?_
  refine Lex.opens (fun w' => w'.cell? ⟨q, 0, none⟩ = some (.slice (some ⟨g, 0, none⟩) bs.length c)) (D0.out.1) ?_
  repeat (first
    | (refine Lex.skips (by rfl) ?_; (try simp only [Act.put, List.setIfInBounds_toArray, List.set_cons_zero, List.set_cons_succ]))
    | (refine Lex.quiet (v := ?_) (by rfl) (by rfl) ?_ ?_; rotate_left; (focus (intro w' hS'; go_simp; try rfl)); (try simp only [Act.put, List.setIfInBounds_toArray, List.set_cons_zero, List.set_cons_succ])))
  refine Lex.done ?_
  refine Lex.ends ?_
  go_wp2_with fail
  go_ret
  exact ⟨by rw [← HE.out]; rfl, (Fr.refl no w).drew⟩
theorem rlay_ok (w : World) (a k : Nat) (v : Value) (l : List Nat) (h : RMemAt w q g n c bs) (ha : a < 18446744073709551616) (hk : k ≤ 65536) (hn : n ≤ 65536) (hin : inB n a k = true) (hl : l.length = k) (hlt : ∀ x ∈ l, x < 256) (hv : Reads w v 1 k (u8s l)) (hvg : ∀ i, v.ownBlock = some i → i ≠ g) :
    Calls Tryz.prog 79 #[.pointer (some ⟨q, 0, none⟩), .int .u64 a, v] w fun e w' => e = .returned (.int .i64 0) ∧ RMemAt w' q g n c (layB bs a l) ∧ Fr (only [g]) w w' := by
  have HF := Lib.hid (rfits_ok w a k h ha hk hn)
  rw [hin] at HF
  obtain ⟨va, vc, rfl⟩ := hv.shape
  have hak : a + k ≤ n := by simp only [inB, decide_eq_true_eq] at hin; omega
  have HLEN := Lib.hid h.len
  have HLL := Lib.hid hl
  have hwa : IntKind.i64.wrap (a : Int) = a := by rw [IntKind.wrap_i64]; omega
  have H := Lib.hid h
  have HV := Lib.hid hv
  have HVG := Lib.hid hvg
  clear hin h hv hl hvg
  go_enter Tryz.func79, Tryz.ntmps79
  go_wp2_with fail
  refine HF.out.mono ?_
  rintro e w' ⟨rfl, rfl⟩
  go_wp2_with fail
  go_loopw [7] (fun y wr => ∃ j : Nat, j ≤ k ∧ y = .int .i64 j ∧ Hid (RMemAt wr q g n c (layB bs a (l.take j))) ∧ Hid (Fr (only [g]) w wr)) (fun y _ => (k - intOf y).toNat)
  case atStart => exact ⟨0, by omega, by simp, Lib.hid (by rw [List.take_zero, layB_nil]; exact H.out), Lib.hid (Fr.refl _ _)⟩
  case round =>
    obtain ⟨j, hj, rfl, hm, hfr⟩ := hrel
    by_cases hjk : j < k
    · have hltk : (j : Int) < k := by omega
      have hjl : j < l.length := by have := HLL.out; omega
      have hll : (layB bs a (l.take j)).length = bs.length := layB_len (by rw [List.length_take]; have := HLEN.out; omega)
      have hlj : (l.take j).length = j := by rw [List.length_take]; omega
      have hs := hm.out.set (a + j) l[j] (hlt _ (List.getElem_mem hjl))
      have HSET : Hid (layB bs a (l.take (j + 1)) = (layB bs a (l.take j)).set (a + j) l[j]) := Lib.hid (by
        have := layB_set (bs := bs) (a := a) (l := l.take j) l[j] (by rw [hlj]; have := HLEN.out; omega)
        rw [hlj] at this
        rw [this, List.take_succ_eq_append_getElem hjl])
      rw [← HSET.out] at hs
      have HS := Lib.hid hs.1
      have RS := Lib.hid (hfr.out.trans hs.2)
      obtain ⟨bo, hcell⟩ : ∃ bo : Nat, wr.cell? ⟨g, a + j, none⟩ = some (.int .u8 (bo : Int)) := ⟨_, hm.out.cell (i := a + j) (by rw [hll]; have := HLEN.out; omega)⟩
      have hfz : wr.frozen? ⟨g, a + j, none⟩ = false := hm.out.row.frozenAt (a + j)
      have c0 := cell_of_heap (o := 0) hm.out.obj rfl
      obtain ⟨vb, vo, rfl, hvc⟩ := (HV.out.fr hfr.out (fun i hi e => by simp at e; exact HVG.out i hi e)).at1 (k := j) (u := .int .u8 (l[j] : Nat)) (by simp [u8s, hjl])
      clear hs hll HSET hlj
      generalize l[j] = u at *
      have hm4 : IntKind.i64.wrap ((a : Int) + (j : Int)) = ((a + j : Nat) : Int) := by rw [IntKind.wrap_i64]; omega
      have hnn : 0 ≤ (a : Int) + (j : Int) := by omega
      have hln : (a : Int) + (j : Int) < n := by omega
      have hix : ((a : Int) + (j : Int)).toNat = a + j := by omega
      go_wp2_with fail
      have C0 := Lib.hid (⟨c0, hvc⟩ : (fun w' => w'.cell? ⟨q, 0, none⟩ = some (.slice (some ⟨g, 0, none⟩) n c) ∧ w'.cell? ⟨vb, vo + j, none⟩ = some (.int .u8 u)) wr)
      have HD := Lib.hid (HS.out.fr (Fr.refl no _).drew)
      have RD := Lib.hid (RS.out.trans ((Fr.refl no _).drew.to))
      have C1 := Lib.hid (⟨cell_of_heap (o := 0) HS.out.obj rfl, ((Fr.refl (only [g]) wr).setCell ⟨g, a + j, none⟩ (.int .u8 (u : Int)) (.inl (by simp))).cell hvc (by simp only [only_iff, List.mem_singleton]; exact HVG.out vb rfl)⟩ : (fun w' => w'.cell? ⟨q, 0, none⟩ = some (.slice (some ⟨g, 0, none⟩) n c) ∧ w'.cell? ⟨vb, vo + j, none⟩ = some (.int .u8 u)) (wr.setCell ⟨g, a + j, none⟩ (.int .u8 (u : Int))))
      refine Lex.region [13] [12, 1, 1] (by kernel_rfl) (by kernel_rfl) ?_
      refine Lex.opens (fun w' => w'.cell? ⟨q, 0, none⟩ = some (.slice (some ⟨g, 0, none⟩) n c) ∧ w'.cell? ⟨vb, vo + j, none⟩ = some (.int .u8 u)) (C0.out) ?_
      repeat (first
        | (refine Lex.skips (by rfl) ?_; (try simp only [Act.put, List.setIfInBounds_toArray, List.set_cons_zero, List.set_cons_succ]))
        | (refine Lex.quiet (v := ?_) (by rfl) (by rfl) ?_ ?_; rotate_left; (focus (intro w' hS'; go_simp; try rfl)); (try simp only [Act.put, List.setIfInBounds_toArray, List.set_cons_zero, List.set_cons_succ])))
      refine Lex.done ?_
      refine Lex.opens (fun w' => w'.cell? ⟨q, 0, none⟩ = some (.slice (some ⟨g, 0, none⟩) n c) ∧ w'.cell? ⟨vb, vo + j, none⟩ = some (.int .u8 u)) (C0.out) ?_
      repeat (first
        | (refine Lex.skips (by rfl) ?_; (try simp only [Act.put, List.setIfInBounds_toArray, List.set_cons_zero, List.set_cons_succ]))
        | (refine Lex.quiet (v := ?_) (by rfl) (by rfl) ?_ ?_; rotate_left; (focus (intro w' hS'; go_simp; try rfl)); (try simp only [Act.put, List.setIfInBounds_toArray, List.set_cons_zero, List.set_cons_succ])))
      refine Lex.done ?_
      refine Lex.opens (fun w' => w'.cell? ⟨q, 0, none⟩ = some (.slice (some ⟨g, 0, none⟩) n c) ∧ w'.cell? ⟨vb, vo + j, none⟩ = some (.int .u8 u)) (C0.out) ?_
      refine Lex.loud (by rfl) (by rfl) ?_
      intro K' hK'
      go_simp
      refine hK' _ _ (C1.out) ?_
      clear hK'
      try simp only [Act.put, List.setIfInBounds_toArray, List.set_cons_zero, List.set_cons_succ]
      repeat (first
        | (refine Lex.skips (by rfl) ?_; (try simp only [Act.put, List.setIfInBounds_toArray, List.set_cons_zero, List.set_cons_succ]))
        | (refine Lex.quiet (v := ?_) (by rfl) (by rfl) ?_ ?_; rotate_left; (focus (intro w' hS'; go_simp; try rfl)); (try simp only [Act.put, List.setIfInBounds_toArray, List.set_cons_zero, List.set_cons_succ])))
      refine Lex.done ?_
      refine Lex.ends ?_
      go_wp2_with fail
      go_roundw
      case rel => exact ⟨j + 1, by omega, by go_num, HD, RD⟩
      case measure => first | (simp [intOf]; done) | (simp [intOf]; omega)
    · obtain rfl : j = k := by omega
      have HE : Hid (RMemAt wr q g n c (layB bs a l)) := Lib.hid (by have := hm.out; rw [List.take_of_length_le (by rw [HLL.out]; exact Nat.le_refl _)] at this; exact this)
      clear hm
      go_wp2_with fail
      go_ret
      exact ⟨rfl, HE.out, hfr.out⟩

end Go.Proofs.YtihnkijeefkefaaGreat

import Derived.Test.YtdklbmggljakkaaD2
set_option linter.unusedSimpArgs false
set_option linter.unusedVariables false
set_option linter.unusedSectionVars false
set_option linter.unnecessarySimpa false
namespace Go.Proofs.Ytdklbmggljakkaa
open Go.RowKit

attribute [local go_sem] Program.isFuncB Program.isSliceB

variable {w w' w'' w0 : World}

theorem clone_bytes (w : World) (v : Value) (bs : List Nat) (hb : Reads w v 1 bs.length (u8s bs)) (hl : bs.length ≤ 1000000000) :
    Calls Try.prog 38 #[v] w fun e w' => ∃ x, e = .returned x ∧ w'.ownsRow w.heap.size 5 1 x bs.length (u8s bs) ∧ Fr no w w' := by
  rcases hb with ⟨rfl, h0, -⟩ | ⟨ad, cap, rfl, h2, h3, h4, h5⟩
  · have : bs = [] := List.length_eq_zero_iff.1 h0
    subst this
    go_enter Try.func38, Try.ntmps38
    go_wp2_with fail
    go_ret
    exact ⟨_, rfl, World.ownsRow_nil _ _ _ _, Fr.refl _ _⟩
  · have hb : Reads w (.slice (some ad) bs.length cap) 1 bs.length (u8s bs) := .inr ⟨ad, cap, rfl, h2, h3, h4, h5⟩
    have r0 := (Fr.refl no w).alloc (.cells #[] 5)
    have HO := Lib.hid (owns_new w 5 1)
    have HB := Lib.hid (hb.fr r0 (by simp))
    have R0 := Lib.hid r0
    clear hb r0 h2 h3 h4 h5
    go_enter Try.func38, Try.ntmps38
    go_wp2_with (at_builtin; (refine wpList_append_at rfl (.tmp 5) _ 22 rfl w.heap.size 5 (.int .u8 0) 1 1 Try.underlying22 Try.infoU8 rfl (by decide) _ 0 _ rfl HO.out bs.length _ HB.out (u8s_one _) (by unfold maxLen; omega) (by omega) (by simp only [World.size_alloc]; omega) ?_); intro ga gc w6 ho hg hb)
    have R6 := R0.out.trans' ((Fr.refl (fun k => (Value.slice (some ⟨w.heap.size, 0, none⟩) 0 0).ownBlock = some k) _).grown hg (fun k hk => .inl hk)) (fun k hk _ => by simp [Value.ownBlock] at hk; omega)
    have HO6 : Hid (w6.ownsRow w.heap.size 5 1 (.slice ga bs.length gc) bs.length (u8s bs)) := Lib.hid (by simpa using ho)
    clear ho hg hb
    go_ret
    exact ⟨_, rfl, HO6.out, R6⟩
theorem clone_deeds (w : World) (v : Value) (l : List Dd) (hb : Reads w v 2 l.length (deedsC l)) (hl : l.length ≤ 1000000000) :
    Calls Try.prog 42 #[v] w fun e w' => ∃ x, e = .returned x ∧ w'.ownsRow w.heap.size 59 2 x l.length (deedsC l) ∧ Fr no w w' := by
  rcases hb with ⟨rfl, h0, -⟩ | ⟨ad, cap, rfl, h2, h3, h4, h5⟩
  · have : l = [] := List.length_eq_zero_iff.1 h0
    subst this
    go_enter Try.func42, Try.ntmps42
    go_wp2_with fail
    go_ret
    exact ⟨_, rfl, World.ownsRow_nil _ _ _ _, Fr.refl _ _⟩
  · have hb : Reads w (.slice (some ad) l.length cap) 2 l.length (deedsC l) := .inr ⟨ad, cap, rfl, h2, h3, h4, h5⟩
    have r0 := (Fr.refl no w).alloc (.cells #[] 59)
    have HO := Lib.hid (owns_new w 59 2)
    have HB := Lib.hid (hb.fr r0 (by simp))
    have R0 := Lib.hid r0
    clear hb r0 h2 h3 h4 h5
    go_enter Try.func42, Try.ntmps42
    go_wp2_with (at_builtin; (refine wpList_append_at rfl (.tmp 5) _ 29 rfl w.heap.size 59 (.agg #[.int .i64 0, .int .i64 0]) 2 16 Try.underlying29 Try.infoDeed3 rfl (by decide) _ 0 _ rfl HO.out l.length _ HB.out (deedsC_one _) (by unfold maxLen; omega) (by omega) (by simp only [World.size_alloc]; omega) ?_); intro ga gc w6 ho hg hb)
    have R6 := R0.out.trans' ((Fr.refl (fun k => (Value.slice (some ⟨w.heap.size, 0, none⟩) 0 0).ownBlock = some k) _).grown hg (fun k hk => .inl hk)) (fun k hk _ => by simp [Value.ownBlock] at hk; omega)
    have HO6 : Hid (w6.ownsRow w.heap.size 59 2 (.slice ga l.length gc) l.length (deedsC l)) := Lib.hid (by simpa using ho)
    clear ho hg hb
    go_ret
    exact ⟨_, rfl, HO6.out, R6⟩
theorem copydeeds_ok (w : World) (v : Value) (l : List Dd) (hb : Reads w v 2 l.length (deedsC l)) (hl : l.length ≤ 1000000000) :
    Calls Try.prog 23 #[v] w fun e w' => ∃ x, e = .returned x ∧ w'.ownsRow w.heap.size 59 2 x l.length (deedsC l) ∧ Fr no w w' := by
  obtain ⟨va, vc, rfl⟩ := hb.shape
  have r0 := (Fr.refl no w).alloc (.cells #[] 59)
  have HO := Lib.hid (owns_new w 59 2)
  have HB := Lib.hid (hb.fr r0 (by simp))
  have R0 := Lib.hid r0
  clear hb r0
  go_enter Try.func23, Try.ntmps23
  go_wp2_with (at_builtin; (refine wpList_append_at rfl (.tmp 3) _ 29 rfl w.heap.size 59 (.agg #[.int .i64 0, .int .i64 0]) 2 16 Try.underlying29 Try.infoDeed3 rfl (by decide) _ 0 _ rfl HO.out l.length _ HB.out (deedsC_one _) (by unfold maxLen; omega) (by omega) (by simp only [World.size_alloc]; omega) ?_); intro ga gc w6 ho hg hb)
  have R6 := R0.out.trans' ((Fr.refl (fun k => (Value.slice (some ⟨w.heap.size, 0, none⟩) 0 0).ownBlock = some k) _).grown hg (fun k hk => .inl hk)) (fun k hk _ => by simp [Value.ownBlock] at hk; omega)
  have HO6 : Hid (w6.ownsRow w.heap.size 59 2 (.slice ga l.length gc) l.length (deedsC l)) := Lib.hid (by simpa using ho)
  clear ho hg hb
  go_ret
  exact ⟨_, rfl, HO6.out, R6⟩

/-- a tape out of bytes -/
theorem new_ok (w : World) (v : Value) (bs : List Nat) (hb : Reads w v 1 bs.length (u8s bs)) (hk : ∀ x ∈ bs, x < 256) (hl : bs.length ≤ 1000000000) :
    Calls Try.prog 10 #[v] w fun e w' => ∃ t iv, e = .returned (.pointer (some ⟨t, 0, none⟩)) ∧ TapeAt w' w.heap.size t bs 0 [] iv (.slice none 0 0) ∧ Fr no w w' := by
  have HC := Lib.hid (clone_bytes w v bs hb hl)
  obtain ⟨va, vc, rfl⟩ := hb.shape
  clear hb
  go_enter Try.func10, Try.ntmps10
  go_wp2_with fail
  refine HC.out.mono ?_
  rintro e w1 ⟨x, rfl, hx, r1⟩
  obtain ⟨xa, xc, rfl⟩ := owns_shape hx
  have r2 := (Fr.refl no w1).alloc (.cells #[.bool true, .slice xa bs.length xc, .int .i64 0, .slice none 0 0] 45)
  have HT : Hid (TapeAt (w1.alloc (.cells #[.bool true, .slice xa bs.length xc, .int .i64 0, .slice none 0 0] 45)) w.heap.size w1.heap.size bs 0 [] (.slice xa bs.length xc) (.slice none 0 0)) :=
    Lib.hid ⟨heap_new w1 _, owns_fr hx r2 (by simp), World.ownsRow_nil _ _ _ _, Nat.zero_le _, r1.size, hk⟩
  have R2 := Lib.hid (r1.trans r2)
  clear hx r1 r2
  go_wp2_with fail
  go_ret
  exact ⟨_, _, rfl, HT.out, R2.out⟩
section
variable {base t a : Nat} {inp : List Nat} {l : List Dd} {iv lv : Value}
theorem deeds_ok (w : World) (h : TapeAt w base t inp a l iv lv) (hl : l.length ≤ 1000000000) :
    Calls Try.prog 18 #[.pointer (some ⟨t, 0, none⟩)] w fun e w' => ∃ x, e = .returned x ∧ w'.ownsRow w.heap.size 59 2 x l.length (deedsC l) ∧ Fr no w w' := by
  obtain ⟨la, lc, rfl⟩ := owns_shape h.out
  have NN := Lib.hid (none_at w t true _ _ _ h.obj)
  have CD := Lib.hid (clone_deeds w _ l (owns_reads h.out) hl)
  have c3 : w.cell? ⟨t, 3, none⟩ = some (.slice la l.length lc) := cell_of_heap h.obj rfl
  clear h
  go_enter Try.func18, Try.ntmps18
  go_wp2_with fail
  refine NN.out.mono ?_
  rintro e w' ⟨rfl, rfl⟩
  go_wp2_with fail
  refine CD.out.mono ?_
  rintro e w1 ⟨x, rfl, hx, r1⟩
  obtain ⟨xa, xc, rfl⟩ := owns_shape hx
  have HX := Lib.hid hx
  have R1 := Lib.hid r1
  clear hx r1
  go_wp2_with fail
  go_ret
  exact ⟨_, rfl, HX.out, R1.out⟩
end

/-- are two lists of deeds the same? -/
theorem samedeeds_ok (w : World) (u v : Value) (a b : List Dd) (ha : Reads w u 2 a.length (deedsC a)) (hb : Reads w v 2 b.length (deedsC b)) (hl : a.length ≤ 1000000000) (hm : b.length ≤ 1000000000) :
    Calls Try.prog 19 #[u, v] w fun e w' => e = .returned (.bool (decide (a = b))) ∧ Fr no w w' := by
  obtain ⟨ua, uc, rfl⟩ := ha.shape
  obtain ⟨va, vc, rfl⟩ := hb.shape
  by_cases hab : a.length = b.length
  case neg =>
    have HN : Hid (decide (a = b) = false) := Lib.hid (decide_eq_false (fun e => hab (by rw [e])))
    have e1 : ((a.length : Int) != (b.length : Int)) = true := by rw [bne_iff_ne]; omega
    clear hab ha hb
    go_enter Try.func19, Try.ntmps19
    go_wp2_with fail
    go_ret
    exact ⟨by rw [HN.out]; rfl, Fr.refl _ _⟩
  have HA := Lib.hid ha
  have HB := Lib.hid hb
  clear ha hb
  generalize hmm : b.length = mm at *
  obtain rfl : mm = a.length := by omega
  have HJL := Lib.hid hmm
  clear hmm hab
  go_enter Try.func19, Try.ntmps19
  go_wp2_with fail
  go_loopw [5] (fun x wr => ∃ k : Nat, k ≤ a.length ∧ x = .int .i64 k ∧ Hid (a.take k = b.take k) ∧ Hid (Fr no w wr)) (fun x _ => (a.length - intOf x).toNat)
  case atStart => exact ⟨0, by omega, rfl, Lib.hid rfl, Lib.hid (Fr.refl _ _)⟩
  case round =>
    obtain ⟨k, hk, rfl, hpre, hfr⟩ := hrel
    by_cases hks : k < a.length
    · have hks' : (k : Int) < a.length := by omega
      have hkb : k < b.length := by have := HJL.out; omega
      have rd := hfr.out.trans (Fr.refl no wr).drew
      obtain ⟨b1, o1, rfl, h1⟩ := reads_elem (HA.out.fr rd (by simp)) (by decide) hks
      obtain ⟨b2, o2, rfl, h2⟩ := reads_elem (HB.out.fr rd (by simp)) (by decide) hks
      rw [deedsC_at a k hks] at h1
      rw [deedsC_at b k hkb] at h2
      have HD : Hid ((a[k] == b[k]) = decide (a.take (k + 1) = b.take (k + 1))) := Lib.hid (by
        rw [List.take_succ_eq_append_getElem hks, List.take_succ_eq_append_getElem hkb, hpre.out]
        rw [Bool.eq_iff_iff, beq_iff_eq, decide_eq_true_eq]
        exact ⟨fun h => by rw [h], fun h => by have := List.append_inj_right' h rfl; injection this⟩)
      have HBD : Hid (decide (a.take (k + 1) = b.take (k + 1)) = false → decide (a = b) = false) := Lib.hid (fun h => decide_eq_false (fun e => by rw [e] at h; simp at h))
      have HTD : Hid (decide (a.take (k + 1) = b.take (k + 1)) = true → a.take (k + 1) = b.take (k + 1)) := Lib.hid (fun h => by simpa using h)
      have A1 := Lib.hid h1
      have A2 := Lib.hid h2
      have R1 := Lib.hid rd
      clear h1 h2 rd
      generalize a[k] = x at *
      generalize b[k] = y at *
      obtain ⟨x1, x2⟩ := x
      obtain ⟨y1, y2⟩ := y
      dsimp only at A1 A2
      have HXY : Hid (((x1, x2) == (y1, y2)) = ((x1 == y1) && (x2 == y2))) := Lib.hid rfl
      rw [HXY.out] at HD
      go_wp2_with fail
      cases e1 : (x1 == y1)
      · have e2 : (x1 != y1) = true := by rw [bne, e1]; rfl
        have HF := Lib.hid (HBD.out (by rw [← HD.out, e1]; rfl))
        refine Lex.region [] [9] (by kernel_rfl) (by kernel_rfl) ?_
        refine Lex.opens (fun w' => At w' b1 (o1 + k * 2) [.int .i64 x1, .int .i64 x2] ∧ At w' b2 (o2 + k * 2) [.int .i64 y1, .int .i64 y2]) (⟨A1.out, A2.out⟩) ?_
        repeat (first
          | (refine Lex.skips (by rfl) ?_; (try simp only [Act.put, List.setIfInBounds_toArray, List.set_cons_zero, List.set_cons_succ]))
          | (refine Lex.into (by rfl) (by rfl) _ _ rfl _ _ rfl _ _ (fun w' h => h.1) Try.underlying59 rfl (by rw [Try.infoDeed]; rfl) ?_; (try simp only [Act.put, List.setIfInBounds_toArray, List.set_cons_zero, List.set_cons_succ]))
          | (refine Lex.into (by rfl) (by rfl) _ _ rfl _ _ rfl _ _ (fun w' h => h.2) Try.underlying59 rfl (by rw [Try.infoDeed]; rfl) ?_; (try simp only [Act.put, List.setIfInBounds_toArray, List.set_cons_zero, List.set_cons_succ]))
          | (refine Lex.quiet (v := ?_) (by rfl) (by rfl) ?_ ?_; rotate_left; (focus (intro w' hS'; go_simp; try rfl)); (try simp only [Act.put, List.setIfInBounds_toArray, List.set_cons_zero, List.set_cons_succ])))
        refine Lex.done ?_
        refine Lex.ends ?_
        go_wp2_with fail
        go_ret
        exact ⟨by rw [HF.out]; rfl, R1.out⟩
      · cases e2 : (x2 == y2)
        · have HF := Lib.hid (HBD.out (by rw [← HD.out, e1, e2]; rfl))
          refine Lex.region [] [9] (by kernel_rfl) (by kernel_rfl) ?_
          refine Lex.opens (fun w' => At w' b1 (o1 + k * 2) [.int .i64 x1, .int .i64 x2] ∧ At w' b2 (o2 + k * 2) [.int .i64 y1, .int .i64 y2]) (⟨A1.out, A2.out⟩) ?_
          repeat (first
            | (refine Lex.skips (by rfl) ?_; (try simp only [Act.put, List.setIfInBounds_toArray, List.set_cons_zero, List.set_cons_succ]))
            | (refine Lex.into (by rfl) (by rfl) _ _ rfl _ _ rfl _ _ (fun w' h => h.1) Try.underlying59 rfl (by rw [Try.infoDeed]; rfl) ?_; (try simp only [Act.put, List.setIfInBounds_toArray, List.set_cons_zero, List.set_cons_succ]))
            | (refine Lex.into (by rfl) (by rfl) _ _ rfl _ _ rfl _ _ (fun w' h => h.2) Try.underlying59 rfl (by rw [Try.infoDeed]; rfl) ?_; (try simp only [Act.put, List.setIfInBounds_toArray, List.set_cons_zero, List.set_cons_succ]))
            | (refine Lex.quiet (v := ?_) (by rfl) (by rfl) ?_ ?_; rotate_left; (focus (intro w' hS'; go_simp; try rfl)); (try simp only [Act.put, List.setIfInBounds_toArray, List.set_cons_zero, List.set_cons_succ])))
          refine Lex.done ?_
          refine Lex.ends ?_
          go_wp2_with fail
          go_ret
          exact ⟨by rw [HF.out]; rfl, R1.out⟩
        · have HF := Lib.hid (HTD.out (by rw [← HD.out, e1, e2]; rfl))
          refine Lex.region [] [9] (by kernel_rfl) (by kernel_rfl) ?_
          refine Lex.opens (fun w' => At w' b1 (o1 + k * 2) [.int .i64 x1, .int .i64 x2] ∧ At w' b2 (o2 + k * 2) [.int .i64 y1, .int .i64 y2]) (⟨A1.out, A2.out⟩) ?_
          repeat (first
            | (refine Lex.skips (by rfl) ?_; (try simp only [Act.put, List.setIfInBounds_toArray, List.set_cons_zero, List.set_cons_succ]))
            | (refine Lex.into (by rfl) (by rfl) _ _ rfl _ _ rfl _ _ (fun w' h => h.1) Try.underlying59 rfl (by rw [Try.infoDeed]; rfl) ?_; (try simp only [Act.put, List.setIfInBounds_toArray, List.set_cons_zero, List.set_cons_succ]))
            | (refine Lex.into (by rfl) (by rfl) _ _ rfl _ _ rfl _ _ (fun w' h => h.2) Try.underlying59 rfl (by rw [Try.infoDeed]; rfl) ?_; (try simp only [Act.put, List.setIfInBounds_toArray, List.set_cons_zero, List.set_cons_succ]))
            | (refine Lex.quiet (v := ?_) (by rfl) (by rfl) ?_ ?_; rotate_left; (focus (intro w' hS'; go_simp; try rfl)); (try simp only [Act.put, List.setIfInBounds_toArray, List.set_cons_zero, List.set_cons_succ])))
          refine Lex.done ?_
          refine Lex.ends ?_
          go_wp2_with fail
          go_roundw
          case rel => exact ⟨k + 1, by omega, by go_num, HF, R1⟩
          case measure => first | (simp [intOf]; done) | (simp [intOf]; omega)
    · obtain rfl : k = a.length := by omega
      have HF : Hid (decide (a = b) = true) := Lib.hid (by
        have h := hpre.out
        rw [List.take_length, ← HJL.out, List.take_length] at h
        exact decide_eq_true h)
      go_wp2_with fail
      go_ret
      exact ⟨by rw [HF.out]; rfl, hfr.out⟩

end Go.Proofs.Ytdklbmggljakkaa

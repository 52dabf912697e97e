import Derived.Test.YtihnkijeefkefaaGreatQ5
set_option linter.unusedSimpArgs false
set_option linter.unusedVariables false
set_option linter.unusedSectionVars false
set_option linter.unnecessarySimpa false
set_option maxRecDepth 100000
/- More calls on the program's memory. -/
namespace Go.Proofs.YtihnkijeefkefaaGreat
open Go.RowKit

attribute [local go_sem] Program.isFuncB Program.isSliceB

variable {w w' w'' w0 : World} {q g n c : Nat} {bs : List Nat}

theorem bclone_ok (w : World) (a : Addr) (k cap : Nat) (l : List Nat) (hb : Reads w (.slice (some a) k cap) 1 k (u8s l)) (hl : l.length = k) (hk : k ≤ 1000000) :
    Calls Tryz.prog 72 #[.slice (some a) k cap] w fun e w' => ∃ x, e = .returned x ∧ w'.ownsRow w.heap.size 5 1 x k (u8s l) ∧ Fr no w w' := by
  have r0 := (Fr.refl no w).alloc (.cells #[] 5)
  have HO := Lib.hid (owns_new w 5 1)
  have HB := Lib.hid (hb.fr r0 (by simp))
  have R0 := Lib.hid r0
  clear hb r0 hl
  go_enter Tryz.func72, Tryz.ntmps72
  go_wp2_with (at_builtin; (refine wpList_append_at rfl (.tmp 5) _ 22 rfl w.heap.size 5 (.int .u8 0) 1 1 Tryz.underlying22 Tryz.infoU8 rfl (by decide) _ 0 _ rfl HO.out k _ HB.out (u8s_one _) (by unfold maxLen; omega) (by omega) (by simp only [World.size_alloc]; omega) ?_); intro ga gc w6 ho hg hb)
  have R6 := R0.out.trans' ((Fr.refl (fun k => (Value.slice (some ⟨w.heap.size, 0, none⟩) 0 0).ownBlock = some k) _).grown hg (fun k hk => .inl hk)) (fun k hk _ => by simp [Value.ownBlock] at hk; omega)
  have HO6 : Hid (w6.ownsRow w.heap.size 5 1 (.slice ga k gc) k (u8s l)) := Lib.hid (by simpa using ho)
  clear ho hg hb
  go_ret
  exact ⟨_, rfl, HO6.out, R6⟩
/-! ### Bytes -/
theorem bytesc_ok (w : World) (o k ob : Nat) (z : Value) (l : List Nat) (hv : Reads w (.slice (some ⟨g, o, none⟩) k k) 1 k (u8s l)) (hl : l.length = k) (hk : k ≤ 100000) (ho : w.heap[ob]? = some (.cells #[z] 22 (0, 0))) :
    Calls Tryz.prog 71 #[.slice (some ⟨g, o, none⟩) k k, .pointer (some ⟨ob, 0, none⟩)] w fun e w' => e = .returned (.tuple #[]) ∧ ∃ x, w'.heap[ob]? = some (.cells #[x] 22 (0, 0)) ∧ w'.ownsRow w.heap.size 5 1 x k (u8s l) ∧ Fr (only [ob]) w w' := by
  have HG := Lib.hid (bclone_ok w _ k k l hv hl (by omega))
  have HO := Lib.hid ho
  have hob : ob < w.heap.size := (Array.getElem?_eq_some_iff.1 ho).1
  clear hv ho
  go_enter Tryz.func71, Tryz.ntmps71
  go_wp2_with fail
  refine HG.out.mono ?_
  rintro e w1 ⟨x, rfl, hx, r1⟩
  have h1 := r1.heap HO.out (by simp)
  have c0 : w1.cell? ⟨ob, 0, none⟩ = some z := cell_of_heap h1 rfl
  have f0 : w1.frozen? ⟨ob, 0, none⟩ = false := frozen_of_heap h1
  obtain ⟨xa, xc, rfl⟩ := owns_shape hx
  have HS := Lib.hid (heap_setCell (o := 0) (v := .slice xa k xc) h1)
  have rs := (Fr.refl (only [ob]) w1).setCell ⟨ob, 0, none⟩ (.slice xa k xc) (.inl (by simp))
  have HX := Lib.hid (owns_fr hx rs (fun i hi e => by simp at e; subst e; have := (hx.lt _ hi).1; omega))
  have R1 := Lib.hid ((r1.to (T := only [ob])).trans rs)
  clear h1 hx r1 rs
  go_wp2_with fail
  go_end0
  exact ⟨rfl, _, HS.out, HX.out, R1.out⟩
theorem bytes_ok (w : World) (a k : Nat) (h : MemAt w q g n c bs) (ha : a < 18446744073709551616) (hk : k ≤ 65536) (hn : n ≤ 65536) (hin : inB n a k = true) :
    Calls Tryz.prog 31 #[.pointer (some ⟨q, 0, none⟩), .int .u64 a, .int .i64 k] w fun e w' => ∃ x, e = .returned (.tuple #[x, .int .i64 0]) ∧ w'.ownsRow w.heap.size 5 1 x k (u8s ((bs.drop a).take k)) ∧ Fr no w w' := by
  have hge : (k : Int) ≥ 0 := by omega
  have r1 := (Fr.refl no w).alloc (.cells #[.slice none 0 0] 22)
  have hak : a + k ≤ n := by simp only [inB, decide_eq_true_eq] at hin; omega
  have hlen := h.len
  have hl : ((bs.drop a).take k).length = k := by simp; omega
  have h1 := h.fr r1
  have hn1 := heap_new w (.cells #[.slice none 0 0] 22)
  have HA := Lib.hid (access_in1 (w.alloc (.cells #[.slice none 0 0] 22)) a k 71 (.pointer (some ⟨w.heap.size, 0, none⟩)) (.pointer none) _ h1 ha (by omega) hn hin (fun _ _ => by rfl)
    (fun o ho => bytesc_ok _ o k _ _ _ (h1.part hak ho) hl (by omega) hn1))
  have R1 := Lib.hid r1
  clear r1 h h1 hn1 hl hlen hak hin
  generalize (bs.drop a).take k = l at *
  go_enter Tryz.func31, Tryz.ntmps31
  go_wp2_with fail
  refine HA.out.mono ?_
  rintro e w2 ⟨rfl, x, hx, ho, r2⟩
  have c0 : w2.cell? ⟨w.heap.size, 0, none⟩ = some x := cell_of_heap hx rfl
  obtain ⟨xa, xc, rfl⟩ := owns_shape ho
  have HO := Lib.hid (owns_base ho (fun k hk => by have := (ho.lt k hk).1; simp at this; exact (by omega : w.heap.size ≤ k)))
  have R2 := Lib.hid (R1.out.trans' r2 (fun i hi _ => by simp at hi; omega))
  clear hx ho r2
  go_wp2_with fail
  go_ret2
  exact ⟨_, rfl, HO.out, R2.out⟩

/-! ### Lay -/
theorem layc_ok (w : World) (o a k b1 : Nat) (v : Value) (l : List Nat) (t1 : TypeId) (ho : 0 < k → o = a) (h : MemAt w q g n c bs) (hl : l.length = k) (hak : a + k ≤ n) (hn : n ≤ 65536) (hlt : ∀ x ∈ l, x < 256)
    (hv : Reads w v 1 k (u8s l)) (h1 : w.heap[b1]? = some (.cells #[v] t1 (0, 0))) :
    Calls Tryz.prog 193 #[.slice (some ⟨g, o, none⟩) k k, .pointer (some ⟨b1, 0, none⟩)] w fun e w' => e = .returned (.tuple #[]) ∧ MemAt w' q g n c (layB bs a l) ∧ Fr (only [g]) w w' := by
  obtain ⟨va, vc, rfl⟩ := hv.shape
  have c1 : w.cell? ⟨b1, 0, none⟩ = some (.slice va k vc) := cell_of_heap h1 rfl
  have H := Lib.hid h
  by_cases hk0 : k = 0
  · subst hk0
    obtain rfl : l = [] := List.length_eq_zero_iff.1 hl
    have HMM : Hid (MemAt w q g n c (layB bs a [])) := Lib.hid (by simpa [layB] using h)
    clear h h1 hv
    go_enter Tryz.func193, Tryz.ntmps193
    go_wp2_with ((refine wpList_copy_nothing (o := ⟨some 5, _, _, _, _, _⟩) rfl (.tmp 3) (.tmp 4) 22 22 rfl 5 Tryz.underlying22 Tryz.sizeU8 _ _ 0 0 0 vc rfl rfl rfl ?_))
    go_end0
    exact ⟨rfl, HMM.out, Fr.refl _ _⟩
  obtain rfl := ho (by omega)
  obtain ⟨cur, hcur, hcs, -⟩ := H.out.block
  have HCUR := Lib.hid hcur
  have HQ : ∃ ad, va = some ad ∧ ∀ j u, (u8s l)[j]? = some u → w.cell? (ad.add j) = some u := by
    rcases hv with ⟨hh, h0, -⟩ | ⟨ad, cap, hh, -, -, -, h4⟩
    · exact absurd h0 hk0
    · injection hh with e1; exact ⟨ad, e1, h4⟩
  obtain ⟨ad, rfl, had⟩ := HQ
  have HAD := Lib.hid had
  have HLL : Hid ((u8s l).length = k) := Lib.hid (by rw [u8s_len, hl])
  have HW := Lib.hid (H.out.lay hcur (a := o) (l := l) (by rw [hl]; exact hak) hlt)
  have HF : Hid (o + (u8s l).length ≤ cur.size) := Lib.hid (by rw [HLL.out]; omega)
  have HMN : Hid ((u8s l).length = Nat.min k k) := Lib.hid (by rw [HLL.out]; simp)
  have HLE := Lib.hid hl
  clear had hv hcur h h1 hl ho
  go_enter Tryz.func193, Tryz.ntmps193
  go_wp2_with ((refine wpList_copy_own (o := ⟨some 5, _, _, _, _, _⟩) rfl (.tmp 3) (.tmp 4) 22 22 rfl 5 Tryz.underlying22 Tryz.sizeU8 g o k k ad k vc rfl rfl cur _ HCUR.out (u8s l) HMN.out HAD.out HF.out (u8s_one _) ?_))
  go_end0
  refine ⟨rfl, ?_, ?_⟩
  · exact HW.out
  · exact Inv.fr_row (Fr.refl _ _) (.inl (by simp))
theorem lay_ok (w : World) (a k : Nat) (v : Value) (l : List Nat) (h : MemAt w q g n c bs) (ha : a < 18446744073709551616) (hk : k ≤ 65536) (hn : n ≤ 65536) (hin : inB n a k = true) (hl : l.length = k) (hlt : ∀ x ∈ l, x < 256) (hv : Reads w v 1 k (u8s l)) :
    Calls Tryz.prog 171 #[.pointer (some ⟨q, 0, none⟩), .int .u64 a, v] w fun e w' => e = .returned (.int .i64 0) ∧ MemAt w' q g n c (layB bs a l) ∧ Fr (only [g]) w w' := by
  obtain ⟨va, vc, rfl⟩ := hv.shape
  have r1 := (Fr.refl no w).alloc (.cells #[.slice va k vc] 22)
  have hak : a + k ≤ n := by simp only [inB, decide_eq_true_eq] at hin; omega
  have h1 := h.fr r1
  have hn1 := heap_new w (.cells #[.slice va k vc] 22)
  have HA := Lib.hid (access_in1 (w.alloc (.cells #[.slice va k vc] 22)) a k 193 (.pointer (some ⟨w.heap.size, 0, none⟩)) (.pointer none) _ h1 ha (by omega) hn hin (fun _ _ => by rfl)
    (fun o ho => layc_ok _ o a k _ _ l _ ho h1 hl hak hn hlt (hv.fr r1 (by simp)) hn1))
  have c0 : (w.alloc (.cells #[.slice va k vc] 22)).cell? ⟨w.heap.size, 0, none⟩ = some (.slice va k vc) := cell_of_heap hn1 rfl
  have R1 := Lib.hid r1
  clear r1 h h1 hn1 hak hin hv hl
  go_enter Tryz.func171, Tryz.ntmps171
  go_wp2_with fail
  refine HA.out.mono ?_
  rintro e w2 ⟨rfl, hm, r2⟩
  have HM := Lib.hid hm
  have R2 := Lib.hid ((R1.out.to (T := only [g])).trans r2)
  clear hm r2
  go_wp2_with fail
  go_ret
  exact ⟨rfl, HM.out, R2.out⟩

/-! ### Size, Same, Copy, New -/
theorem msize_ok (w : World) (h : MemAt w q g n c bs) : Calls Tryz.prog 166 #[.pointer (some ⟨q, 0, none⟩)] w fun e w' => e = .returned (.int .i64 n) ∧ w = w' := by
  have HN := Lib.hid (memnone_ok w h)
  have c0 := cell_of_heap (o := 0) h.obj rfl
  clear h
  go_enter Tryz.func166, Tryz.ntmps166
  go_wp2_with fail
  refine HN.out.mono ?_
  rintro e w' ⟨rfl, rfl⟩
  go_wp2_with fail
  go_ret
  exact ⟨rfl, rfl⟩
theorem bequal_ok (w : World) (u v : Value) (a b : List Nat) (ha : Reads w u 1 a.length (u8s a)) (hb : Reads w v 1 b.length (u8s b)) (ka : ∀ x ∈ a, x < 256) (kb : ∀ x ∈ b, x < 256) :
    Calls Tryz.prog 151 #[u, v] w fun e w' => e = .returned (.bool (decide (a = b))) ∧ w = w' := by
  have h1 := conv_reads ha
  have h2 := conv_reads hb
  have HE := Lib.hid (strB_eq a b ka kb)
  obtain ⟨ua, uc, rfl⟩ := ha.shape
  obtain ⟨va, vc, rfl⟩ := hb.shape
  clear ha hb ka kb
  go_enter Tryz.func151, Tryz.ntmps151
  go_wp2_with fail
  go_ret
  exact ⟨by rw [← HE.out]; rfl, rfl⟩
theorem msame_ok (w : World) {q2 g2 n2 c2 : Nat} {bs2 : List Nat} (h : MemAt w q g n c bs) (h2 : MemAt w q2 g2 n2 c2 bs2) :
    Calls Tryz.prog 94 #[.pointer (some ⟨q, 0, none⟩), .pointer (some ⟨q2, 0, none⟩)] w fun e w' => e = .returned (.bool (decide (bs = bs2))) ∧ Fr no w w' := by
  have HN := Lib.hid (fun w' (r : Fr no w w') => memnone_ok w' (h.fr r))
  have HN2 := Lib.hid (fun w' (r : Fr no w w') => memnone_ok w' (h2.fr r))
  have hlen := h.len
  have hlen2 := h2.len
  subst hlen; subst hlen2
  have HE := Lib.hid (fun w' (r : Fr no w w') => bequal_ok w' _ _ bs bs2 (h.fr r).reads (h2.fr r).reads h.lt h2.lt)
  have c0 := cell_of_heap (o := 0) h.obj rfl
  have d0 := cell_of_heap (o := 0) h2.obj rfl
  clear h h2
  go_enter Tryz.func94, Tryz.ntmps94
  go_wp2_with fail
  have R1 : Hid (Fr no w w.drew) := Lib.hid (Fr.refl no w).drew
  have C0 := Lib.hid (⟨c0, d0⟩ : (fun w' => w'.cell? ⟨q, 0, none⟩ = some (.slice (some ⟨g, 0, none⟩) bs.length c) ∧ w'.cell? ⟨q2, 0, none⟩ = some (.slice (some ⟨g2, 0, none⟩) bs2.length c2)) w)
  clear c0 d0
  refine Lex.region [1, 5, 17] [19, 1] (by kernel_rfl) (by kernel_rfl) ?_
  refine Lex.opens (fun w' => w'.cell? ⟨q, 0, none⟩ = some (.slice (some ⟨g, 0, none⟩) bs.length c) ∧ w'.cell? ⟨q2, 0, none⟩ = some (.slice (some ⟨g2, 0, none⟩) bs2.length c2)) (C0.out) ?_
  repeat (first
    | (refine Lex.skips (by rfl) ?_; (try simp only [Act.put, List.setIfInBounds_toArray, List.set_cons_zero, List.set_cons_succ]))
    | (refine Lex.quiet (v := ?_) (by rfl) (by rfl) ?_ ?_; rotate_left; (focus (intro w' hS'; go_simp; try rfl)); (try simp only [Act.put, List.setIfInBounds_toArray, List.set_cons_zero, List.set_cons_succ])))
  refine Lex.loud (by rfl) (by rfl) ?_
  intro K' hK'
  go_simp
  refine (HN.out _ R1.out).mono ?_
  rintro e w' ⟨rfl, rfl⟩
  refine hK' _ _ (C0.out) ?_
  clear hK'
  try simp only [Act.put, List.setIfInBounds_toArray, List.set_cons_zero, List.set_cons_succ]
  repeat (first
    | (refine Lex.skips (by rfl) ?_; (try simp only [Act.put, List.setIfInBounds_toArray, List.set_cons_zero, List.set_cons_succ]))
    | (refine Lex.quiet (v := ?_) (by rfl) (by rfl) ?_ ?_; rotate_left; (focus (intro w' hS'; go_simp; try rfl)); (try simp only [Act.put, List.setIfInBounds_toArray, List.set_cons_zero, List.set_cons_succ])))
  refine Lex.loud (by rfl) (by rfl) ?_
  intro K' hK'
  go_simp
  refine (HN2.out _ R1.out).mono ?_
  rintro e w' ⟨rfl, rfl⟩
  refine hK' _ _ (C0.out) ?_
  clear hK'
  try simp only [Act.put, List.setIfInBounds_toArray, List.set_cons_zero, List.set_cons_succ]
  repeat (first
    | (refine Lex.skips (by rfl) ?_; (try simp only [Act.put, List.setIfInBounds_toArray, List.set_cons_zero, List.set_cons_succ]))
    | (refine Lex.quiet (v := ?_) (by rfl) (by rfl) ?_ ?_; rotate_left; (focus (intro w' hS'; go_simp; try rfl)); (try simp only [Act.put, List.setIfInBounds_toArray, List.set_cons_zero, List.set_cons_succ])))
  refine Lex.loud (by rfl) (by rfl) ?_
  intro K' hK'
  go_simp
  refine (HE.out _ R1.out).mono ?_
  rintro e w' ⟨rfl, rfl⟩
  refine hK' _ _ (C0.out) ?_
  clear hK'
  try simp only [Act.put, List.setIfInBounds_toArray, List.set_cons_zero, List.set_cons_succ]
  repeat (first
    | (refine Lex.skips (by rfl) ?_; (try simp only [Act.put, List.setIfInBounds_toArray, List.set_cons_zero, List.set_cons_succ]))
    | (refine Lex.quiet (v := ?_) (by rfl) (by rfl) ?_ ?_; rotate_left; (focus (intro w' hS'; go_simp; try rfl)); (try simp only [Act.put, List.setIfInBounds_toArray, List.set_cons_zero, List.set_cons_succ])))
  refine Lex.done ?_
  refine Lex.opens (fun w' => w'.cell? ⟨q, 0, none⟩ = some (.slice (some ⟨g, 0, none⟩) bs.length c) ∧ w'.cell? ⟨q2, 0, none⟩ = some (.slice (some ⟨g2, 0, none⟩) bs2.length c2)) (C0.out) ?_
  repeat (first
    | (refine Lex.skips (by rfl) ?_; (try simp only [Act.put, List.setIfInBounds_toArray, List.set_cons_zero, List.set_cons_succ]))
    | (refine Lex.quiet (v := ?_) (by rfl) (by rfl) ?_ ?_; rotate_left; (focus (intro w' hS'; go_simp; try rfl)); (try simp only [Act.put, List.setIfInBounds_toArray, List.set_cons_zero, List.set_cons_succ])))
  refine Lex.done ?_
  refine Lex.ends ?_
  go_wp2_with fail
  go_ret
  exact ⟨rfl, R1.out⟩

theorem MemAt.new {base : Nat} {v : Value} {l : List Nat} {t : Nat} (h : w.ownsRow base 5 1 v l.length (u8s l)) (h0 : 0 < l.length) (hlt : ∀ x ∈ l, x < 256) : ∃ g c, v = .slice (some ⟨g, 0, none⟩) l.length c ∧ base ≤ g ∧ g < w.heap.size ∧
    (∀ w', Fr no w w' → w'.heap[t]? = some (.cells #[v] 176 (0, 0)) → MemAt w' t g l.length c l) := by
  rcases h.2 with ⟨rfl, hh⟩ | ⟨g, cap, cur, rfl, hb, hg, -⟩
  · omega
  · exact ⟨g, cap, rfl, hb, (Array.getElem?_eq_some_iff.1 hg).1, fun w' r ht => ⟨ht, owns_base (owns_fr h r (by simp)) (fun _ _ => Nat.zero_le _), hlt⟩⟩
theorem mcopy_ok (w : World) (h : MemAt w q g n c bs) (hn : n ≤ 65536) (h0 : 0 < n) :
    Calls Tryz.prog 106 #[.pointer (some ⟨q, 0, none⟩)] w fun e w' => ∃ q' g' c', e = .returned (.pointer (some ⟨q', 0, none⟩)) ∧ MemAt w' q' g' n c' bs ∧ w.heap.size ≤ q' ∧ w.heap.size ≤ g' ∧ Fr no w w' := by
  have HN := Lib.hid (memnone_ok w h)
  have hlen := h.len
  subst hlen
  have HC := Lib.hid (bclone_ok w _ _ _ _ h.reads rfl (by omega))
  have HLT := Lib.hid h.lt
  have c0 := cell_of_heap (o := 0) h.obj rfl
  clear h
  go_enter Tryz.func106, Tryz.ntmps106
  go_wp2_with fail
  refine HN.out.mono ?_
  rintro e w' ⟨rfl, rfl⟩
  go_wp2_with fail
  refine HC.out.mono ?_
  rintro e w1 ⟨x, rfl, hx, r1⟩
  obtain ⟨g', c', rfl, hg1, hg2, hm⟩ := MemAt.new (t := w1.heap.size) hx h0 HLT.out
  have r2 := (Fr.refl no w1).alloc (.cells #[.slice (some ⟨g', 0, none⟩) bs.length c'] 176)
  have HM := Lib.hid (hm _ r2 (heap_new _ _))
  have HSZ := Lib.hid r1.size
  have HG := Lib.hid hg1
  have R2 := Lib.hid (r1.trans r2)
  clear hx r1 r2 hm hg1 hg2
  go_wp2_with fail
  go_ret
  exact ⟨_, _, _, rfl, HM.out, HSZ.out, HG.out, R2.out⟩
theorem mnew_ok (w : World) (n : Nat) (h0 : 16 ≤ n) (hn : n ≤ 65536) :
    Calls Tryz.prog 170 #[.int .i64 n] w fun e w' => ∃ q g c, e = .returned (.tuple #[.pointer (some ⟨q, 0, none⟩), .int .i64 0]) ∧ MemAt w' q g n c (List.replicate n 0) ∧ w.heap.size ≤ q ∧ w.heap.size ≤ g ∧ Fr no w w' := by
  have e1 : ¬ (n : Int) < 16 := by omega
  have e2 : ¬ (n : Int) > 65536 := by omega
  go_enter Tryz.func170, Tryz.ntmps170
  go_wp2_with (at_make; (refine wpList_make_any rfl (.tmp 10) (.tmp 10) 22 rfl w.heap.size 5 (.int .u8 0) 1 Tryz.underlying22 Tryz.infoU8 rfl .i64 .i64 n n n rfl rfl rfl rfl (by omega) (by unfold maxLen; omega) (Nat.le_refl _) ?_); intro w1 ho hg)
  have r1 := (Fr.refl no w).grown hg (fun k hk => by cases hk)
  have h2 : w1.ownsRow w.heap.size 5 1 (.slice (some ⟨w.heap.size, 0, none⟩) n n) (List.replicate n 0).length (u8s (List.replicate n 0)) := by
    rw [List.length_replicate]; simpa [u8s] using ho
  obtain ⟨g', c', hh, hg1, hg2, hm⟩ := MemAt.new (t := w1.heap.size) h2 (by simp; omega) (fun x hx => by rw [List.mem_replicate] at hx; omega)
  injection hh with a1 a2 a3
  injection a1 with a1
  injection a1 with a1 a4 a5
  subst a1
  have r2 := (Fr.refl no w1).alloc (.cells #[.slice (some ⟨w.heap.size, 0, none⟩) n n] 176)
  have HM := Lib.hid (hm _ r2 (by rw [heap_new]))
  rw [List.length_replicate, ← a3] at HM
  have HSZ := Lib.hid r1.size
  have R2 := Lib.hid (r1.trans r2)
  clear h2 ho hg r1 r2 hm hg1 hg2 a2 a3
  go_wp2_with fail
  go_ret2
  exact ⟨_, rfl, _, ⟨_, HM.out⟩, HSZ.out, Nat.le_refl _, R2.out⟩

end Go.Proofs.YtihnkijeefkefaaGreat

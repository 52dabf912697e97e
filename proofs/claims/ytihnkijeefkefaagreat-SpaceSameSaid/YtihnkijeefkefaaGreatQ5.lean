import Derived.Test.YtihnkijeefkefaaGreatQ4
set_option linter.unusedSimpArgs false
set_option linter.unusedVariables false
set_option linter.unusedSectionVars false
set_option linter.unnecessarySimpa false
set_option maxRecDepth 100000
/- The calls on the program's memory. -/
namespace Go.Proofs.YtihnkijeefkefaaGreat
open Go.RowKit

attribute [local go_sem] Program.isFuncB Program.isSliceB

variable {w w' w'' w0 : World} {q g n c : Nat} {bs : List Nat}

theorem Tryz.sizeU8 : (Tryz.prog.info? 5).map (·.size) = some 1 := by kernel_rfl

/-- what an access reaches -/
theorem MemAt.part (h : MemAt w q g n c bs) {a k o : Nat} (hk : a + k ≤ n) (ho : 0 < k → o = a) : Reads w (.slice (some ⟨g, o, none⟩) k k) 1 k (u8s ((bs.drop a).take k)) := by
  have hl := h.len
  have hc := cap_of_reads h.reads
  have hr := h.reads
  rcases hr with ⟨hh, -⟩ | ⟨ad, cap, hv, h1, h2, h3, h4⟩
  · cases hh
  injection hv with e1 e2 e3
  injection e1 with e1
  subst e1; subst e3
  refine .inr ⟨_, k, rfl, Nat.le_refl _, by omega, by simp [u8s]; omega, fun j u hu => ?_⟩
  have hjk : j < k := by
    have := (List.getElem?_eq_some_iff.1 hu).1
    simp [u8s] at this
    omega
  rw [ho (by omega), Addr.add_lit]
  have := h4 (a + j) u (by
    rw [u8s, List.getElem?_map] at hu ⊢
    rw [List.getElem?_take_of_lt hjk, List.getElem?_drop] at hu
    exact hu)
  rw [Addr.add_lit, Nat.zero_add] at this
  exact this
def layB (bs : List Nat) (a : Nat) (l : List Nat) : List Nat := bs.take a ++ l ++ bs.drop (a + l.length)
/-- bytes are laid over -/
theorem MemAt.lay (h : MemAt w q g n c bs) {cur : Array Value} (hg : w.heap[g]? = some (.cells cur 5 (0, 0))) {a : Nat} {l : List Nat} (hk : a + l.length ≤ n) (hl : ∀ x ∈ l, x < 256) :
    MemAt (w.setRow g (cur.toList.take a ++ (u8s l ++ cur.toList.drop (a + (u8s l).length))).toArray) q g n c (layB bs a l) := by
  unfold layB
  obtain ⟨cur', hg', hs, ht⟩ := h.block
  rw [hg] at hg'
  injection hg' with hg'
  injection hg' with hg'
  subst hg'
  have hlen := h.len
  rw [u8s_len]
  have hq : (w.setRow g (cur.toList.take a ++ (u8s l ++ cur.toList.drop (a + l.length))).toArray).heap[q]? = some (.cells #[.slice (some ⟨g, 0, none⟩) n c] 176 (0, 0)) :=
    (Inv.fr_row (S := only [g]) (Fr.refl _ w) (.inl (by simp))).heap h.obj (by simp [h.ne])
  refine ⟨hq, ⟨by simp [u8s]; omega, .inr ?_⟩, ?_⟩
  · rcases h.row.2 with ⟨hh, -⟩ | ⟨g', cap, cur', hh, hb, hg2, h1, h2, h3, h4⟩
    · cases hh
    injection hh with e1 e2 e3
    injection e1 with e1
    injection e1 with e1 e4 e5
    subst e1; subst e3
    rw [hg] at hg2
    injection hg2 with hg2
    injection hg2 with hg2
    subst hg2
    refine ⟨g, c, _, rfl, hb, Inv.row_heap w g _ _ _ hg, h1, h2, ?_, ?_⟩
    · simp [u8s]; omega
    · have e : cur.toList.take n = u8s bs := by simpa using h4
      simp only [u8s, List.map_append]
      rw [show (bs.take a).map (fun x : Nat => Value.int .u8 (x : Int)) = (cur.toList.take n).take a from by rw [e, u8s, List.map_take],
        show (bs.drop (a + l.length)).map (fun x : Nat => Value.int .u8 (x : Int)) = (cur.toList.take n).drop (a + l.length) from by rw [e, u8s, List.map_drop]]
      have hcs : cur.toList.length = cur.size := by simp
      generalize cur.toList = cl at *
      generalize hml : l.map (fun x : Nat => Value.int .u8 (x : Int)) = ml
      have hmll : ml.length = l.length := by rw [← hml]; simp
      rw [List.take_take, Nat.min_eq_left (by omega), List.append_assoc]
      rw [List.take_append, List.take_of_length_le (by simp; omega)]
      congr 1
      rw [List.take_append, List.take_of_length_le (by simp; omega)]
      congr 1
      rw [List.drop_take]
      congr 1
      simp; omega
  · intro x hx
    simp only [List.mem_append] at hx
    rcases hx with (hx | hx) | hx
    · exact h.lt x (List.mem_of_mem_take hx)
    · exact hl x hx
    · exact h.lt x (List.mem_of_mem_drop hx)

/-! ### Load -/
theorem loadc_ok (w : World) (v : Value) (ob : Nat) (z : Value) (l : List Nat) (hv : Reads w v 1 l.length (u8s l)) (hn : l.length = 1 ∨ l.length = 2 ∨ l.length = 4 ∨ l.length = 8) (hb : ∀ b ∈ l, b < 256) (ho : w.heap[ob]? = some (.cells #[z] 34 (0, 0))) :
    Calls Tryz.prog 117 #[v, .pointer (some ⟨ob, 0, none⟩)] w fun e w' => e = .returned (.tuple #[]) ∧ w' = w.setCell ⟨ob, 0, none⟩ (.int .u64 (unle l)) := by
  have HG := Lib.hid (wget_ok w v l hv hn hb)
  have c0 : w.cell? ⟨ob, 0, none⟩ = some z := cell_of_heap ho rfl
  have f0 : w.frozen? ⟨ob, 0, none⟩ = false := frozen_of_heap ho
  clear hv hn hb
  go_enter Tryz.func117, Tryz.ntmps117
  go_wp2_with fail
  refine HG.out.mono ?_
  rintro e w' ⟨rfl, rfl⟩
  go_wp2_with fail
  go_end0
  exact ⟨rfl, rfl⟩
theorem load_in (w : World) (a k : Nat) (h : MemAt w q g n c bs) (ha : a < 18446744073709551616) (hk : k = 1 ∨ k = 8) (hn : n ≤ 65536) (hin : inB n a k = true) :
    Calls Tryz.prog 52 #[.pointer (some ⟨q, 0, none⟩), .int .u64 a, .int .i64 k] w fun e w' => e = .returned (.tuple #[.int .u64 (unle ((bs.drop a).take k)), .int .i64 0]) ∧ Fr no w w' := by
  have HM := Lib.hid (fun w => msized_ok w k hk)
  have r1 := (Fr.refl no w).alloc (.cells #[.int .u64 0] 34)
  have hak : a + k ≤ n := by simp only [inB, decide_eq_true_eq] at hin; omega
  have hlen := h.len
  have hl : ((bs.drop a).take k).length = k := by simp; omega
  have h1 := h.fr r1
  have hn1 := heap_new w (.cells #[.int .u64 0] 34)
  have HA := Lib.hid (access_in1 (w.alloc (.cells #[.int .u64 0] 34)) a k 117 (.pointer (some ⟨w.heap.size, 0, none⟩)) (.pointer none) (fun w' => w' = (w.alloc (.cells #[.int .u64 0] 34)).setCell ⟨w.heap.size, 0, none⟩ (.int .u64 (unle ((bs.drop a).take k)))) h1 ha (by omega) hn hin (fun _ _ => by rfl)
    (fun o ho => loadc_ok _ _ _ _ _ (by rw [hl]; exact h1.part hak ho) (by omega) (fun b hb => h1.lt b (List.mem_of_mem_drop (List.mem_of_mem_take hb))) hn1))
  have HN := Lib.hid (heap_setCell (o := 0) (v := .int .u64 (unle ((bs.drop a).take k))) hn1)
  have R2 := Lib.hid (r1.setCell ⟨w.heap.size, 0, none⟩ (.int .u64 (unle ((bs.drop a).take k))) (.inr (Nat.le_refl _)))
  clear r1 h h1 hn1 hl hlen hak hin
  generalize unle ((bs.drop a).take k) = x at *
  go_enter Tryz.func52, Tryz.ntmps52
  go_wp2_with fail
  refine (HM.out _).mono ?_
  rintro e w' ⟨rfl, rfl⟩
  go_wp2_with fail
  refine HA.out.mono ?_
  rintro e w2 ⟨rfl, rfl⟩
  generalize (w.alloc (.cells #[.int .u64 0] 34)).setCell ⟨w.heap.size, 0, none⟩ (.int .u64 x) = w2 at *
  have c0 : w2.cell? ⟨w.heap.size, 0, none⟩ = some (.int .u64 x) := cell_of_heap HN.out rfl
  go_wp2_with fail
  go_ret2
  exact ⟨rfl, R2.out⟩
/-! ### Store -/
theorem storec_ok (w : World) (o a x k b1 b2 : Nat) (t1 t2 : TypeId) (ho : 0 < k → o = a) (h : MemAt w q g n c bs) (hk : k = 8) (hak : a + 8 ≤ n) (hx : x < 18446744073709551616)
    (h1 : w.heap[b1]? = some (.cells #[.int .u64 x] t1 (0, 0))) (h2 : w.heap[b2]? = some (.cells #[.int .i64 k] t2 (0, 0))) :
    Calls Tryz.prog 74 #[.slice (some ⟨g, o, none⟩) k k, .pointer (some ⟨b1, 0, none⟩), .pointer (some ⟨b2, 0, none⟩)] w fun e w' => e = .returned (.tuple #[]) ∧ MemAt w' q g n c (wr8 bs a x) ∧ Fr (only [g]) w w' := by
  subst hk
  obtain rfl := ho (by decide)
  have HP := Lib.hid (wput_ok w x 8 hx (by decide))
  have c1 : w.cell? ⟨b1, 0, none⟩ = some (.int .u64 x) := cell_of_heap h1 rfl
  have c2 : w.cell? ⟨b2, 0, none⟩ = some (.int .i64 8) := cell_of_heap h2 rfl
  have H := Lib.hid h
  clear h h1 h2
  go_enter Tryz.func74, Tryz.ntmps74
  go_wp2_with fail
  refine HP.out.mono ?_
  rintro e w1 ⟨v, rfl, hv, r1⟩
  have H1 := Lib.hid (H.out.fr r1)
  obtain ⟨cur, hcur, hcs, -⟩ := H1.out.block
  have HCUR := Lib.hid hcur
  obtain ⟨ga, gc, rfl⟩ := owns_shape hv
  have HR := Lib.hid (owns_reads hv)
  have HQ : Hid (∃ ad, ga = some ad ∧ ∀ j u, (u8s (le x 8))[j]? = some u → w1.cell? (ad.add j) = some u) := Lib.hid (by
    rcases HR.out with ⟨hh, h0, -⟩ | ⟨ad, cap, hh, -, -, -, h4⟩
    · cases h0
    · injection hh with e1; exact ⟨ad, e1, h4⟩)
  obtain ⟨ad, rfl, had⟩ := HQ.out
  have HAD := Lib.hid had
  have HLL : Hid ((u8s (le x 8)).length = 8) := Lib.hid (by rw [u8s_len, le_len])
  have R1 := Lib.hid (r1.to (T := only [g]))
  have HW := Lib.hid (H1.out.lay hcur (a := o) (l := le x 8) (by rw [le_len]; exact hak) (le_lt x 8))
  have HF : Hid (o + (u8s (le x 8)).length ≤ cur.size) := Lib.hid (by rw [HLL.out]; omega)
  clear had hv r1 hcur HP
  go_wp2_with ((refine wpList_copy_own (o := ⟨some 14, _, _, _, _, _⟩) rfl (.tmp 12) (.tmp 13) 22 22 rfl 5 Tryz.underlying22 Tryz.sizeU8 g o 8 8 ad 8 gc rfl rfl cur _ HCUR.out (u8s (le x 8)) HLL.out HAD.out HF.out (u8s_one _) ?_))
  go_end0
  refine ⟨rfl, ?_, ?_⟩
  · have := HW.out
    unfold layB at this
    rw [le_len] at this
    exact this
  · exact R1.out.trans (Inv.fr_row (Fr.refl _ _) (.inl (by simp)))
theorem store_out (w : World) (a x k : Nat) (hk : k = 8) (h : MemAt w q g n c bs) (ha : a < 18446744073709551616) (hn : n ≤ 65536) (hin : inB n a k = false) :
    Calls Tryz.prog 33 #[.pointer (some ⟨q, 0, none⟩), .int .u64 a, .int .i64 k, .int .u64 x] w fun e w' => e = .returned (.int .i64 15) ∧ Fr no w w' := by
  have HM := Lib.hid (fun w => msized_ok w k (.inr hk))
  have HK := Lib.hid hk
  have r1 := ((Fr.refl no w).alloc (.cells #[.int .i64 k] 3)).alloc (.cells #[.int .u64 x] 34)
  have HA := Lib.hid (fun w' (r : Fr no w w') fv => access_out w' a k fv (h.fr r) ha (by omega) hn hin)
  have c0 : ((w.alloc (.cells #[.int .i64 k] 3)).alloc (.cells #[.int .u64 x] 34)).cell? ⟨w.heap.size, 0, none⟩ = some (.int .i64 k) := cell_of_heap (heap_new2 w _ _) rfl
  have R1 := Lib.hid r1
  clear r1 h hin hk
  go_enter Tryz.func33, Tryz.ntmps33
  go_wp2_with fail
  generalize hw2 : (w.alloc (.cells #[.int .i64 k] 3)).alloc (.cells #[.int .u64 x] 34) = w2 at *
  clear hw2
  have C0 := Lib.hid c0
  refine Lex.region [4, 6] [7, 1] (by kernel_rfl) (by kernel_rfl) ?_
  refine Lex.opens (fun w' => w'.cell? ⟨w.heap.size, 0, none⟩ = some (.int .i64 k)) (c0) ?_
  repeat (first
    | (refine Lex.skips (by rfl) ?_; (try simp only [Act.put, List.setIfInBounds_toArray, List.set_cons_zero, List.set_cons_succ]))
    | (refine Lex.quiet (v := ?_) (by rfl) (by rfl) ?_ ?_; rotate_left; (focus (intro w' hS'; go_simp; try rfl)); (try simp only [Act.put, List.setIfInBounds_toArray, List.set_cons_zero, List.set_cons_succ])))
  refine Lex.loud (by rfl) (by rfl) ?_
  intro K' hK'
  go_simp
  refine (HM.out _).mono ?_
  rintro e w' ⟨rfl, rfl⟩
  refine hK' _ _ (C0.out) ?_
  clear hK'
  try simp only [Act.put, List.setIfInBounds_toArray, List.set_cons_zero, List.set_cons_succ]
  repeat (first
    | (refine Lex.skips (by rfl) ?_; (try simp only [Act.put, List.setIfInBounds_toArray, List.set_cons_zero, List.set_cons_succ]))
    | (refine Lex.quiet (v := ?_) (by rfl) (by rfl) ?_ ?_; rotate_left; (focus (intro w' hS'; go_simp; try rfl)); (try simp only [Act.put, List.setIfInBounds_toArray, List.set_cons_zero, List.set_cons_succ])))
  refine Lex.loud (by rfl) (by rfl) ?_
  intro K' hK'
  go_simp
  refine (HA.out _ R1.out.drew _).mono ?_
  rintro e w' ⟨rfl, rfl⟩
  refine hK' _ _ (C0.out) ?_
  clear hK'
  try simp only [Act.put, List.setIfInBounds_toArray, List.set_cons_zero, List.set_cons_succ]
  repeat (first
    | (refine Lex.skips (by rfl) ?_; (try simp only [Act.put, List.setIfInBounds_toArray, List.set_cons_zero, List.set_cons_succ]))
    | (refine Lex.quiet (v := ?_) (by rfl) (by rfl) ?_ ?_; rotate_left; (focus (intro w' hS'; go_simp; try rfl)); (try simp only [Act.put, List.setIfInBounds_toArray, List.set_cons_zero, List.set_cons_succ])))
  refine Lex.done ?_
  refine Lex.opens (fun w' => w'.cell? ⟨w.heap.size, 0, none⟩ = some (.int .i64 k)) (C0.out) ?_
  repeat (first
    | (refine Lex.skips (by rfl) ?_; (try simp only [Act.put, List.setIfInBounds_toArray, List.set_cons_zero, List.set_cons_succ]))
    | (refine Lex.quiet (v := ?_) (by rfl) (by rfl) ?_ ?_; rotate_left; (focus (intro w' hS'; go_simp; try rfl)); (try simp only [Act.put, List.setIfInBounds_toArray, List.set_cons_zero, List.set_cons_succ])))
  refine Lex.done ?_
  refine Lex.ends ?_
  go_wp2_with fail
  go_ret
  exact ⟨rfl, R1.out.drew⟩
theorem store_in (w : World) (a x k : Nat) (hk : k = 8) (h : MemAt w q g n c bs) (ha : a < 18446744073709551616) (hn : n ≤ 65536) (hx : x < 18446744073709551616) (hin : inB n a k = true) :
    Calls Tryz.prog 33 #[.pointer (some ⟨q, 0, none⟩), .int .u64 a, .int .i64 k, .int .u64 x] w fun e w' => e = .returned (.int .i64 0) ∧ MemAt w' q g n c (wr8 bs a x) ∧ Fr (only [g]) w w' := by
  have HM := Lib.hid (fun w => msized_ok w k (.inr hk))
  have HK := Lib.hid hk
  have r1 := ((Fr.refl no w).alloc (.cells #[.int .i64 k] 3)).alloc (.cells #[.int .u64 x] 34)
  have hak : a + 8 ≤ n := by simp only [inB, decide_eq_true_eq] at hin; omega
  have hgl : g < w.heap.size := by obtain ⟨cur, hg, -⟩ := h.block; exact (Array.getElem?_eq_some_iff.1 hg).1
  have e1 := heap_new2 w (.cells #[.int .i64 k] 3) (.cells #[.int .u64 x] 34)
  have e2 := heap_new2' w (.cells #[.int .i64 k] 3) (.cells #[.int .u64 x] 34)
  have HA := Lib.hid (fun w' (r : Fr no w w') (h1 : w'.heap[w.heap.size]? = some (.cells #[.int .i64 k] 3 (0, 0))) (h2 : w'.heap[w.heap.size + 1]? = some (.cells #[.int .u64 x] 34 (0, 0))) =>
    access_in2 w' a k 74 (.pointer (some ⟨w.heap.size + 1, 0, none⟩)) (.pointer (some ⟨w.heap.size, 0, none⟩)) (fun w'' => MemAt w'' q g n c (wr8 bs a x) ∧ Fr (only [g]) w' w'') (h.fr r) ha (by have := HK.out; omega) hn hin (fun _ _ => by rfl)
      (fun o ho => storec_ok _ o a x k (w.heap.size + 1) w.heap.size _ _ ho (h.fr r) HK.out hak hx h2 h1))
  have E1 := Lib.hid e1
  have E2 := Lib.hid e2
  have c0 : ((w.alloc (.cells #[.int .i64 k] 3)).alloc (.cells #[.int .u64 x] 34)).cell? ⟨w.heap.size, 0, none⟩ = some (.int .i64 k) := cell_of_heap e1 rfl
  have R1 := Lib.hid r1
  clear r1 h hin e1 e2 hk
  go_enter Tryz.func33, Tryz.ntmps33
  go_wp2_with fail
  generalize hw2 : (w.alloc (.cells #[.int .i64 k] 3)).alloc (.cells #[.int .u64 x] 34) = w2 at *
  clear hw2
  have C0 := Lib.hid c0
  refine Lex.region [4, 6] [7, 1] (by kernel_rfl) (by kernel_rfl) ?_
  refine Lex.opens (fun w' => w'.cell? ⟨w.heap.size, 0, none⟩ = some (.int .i64 k)) (c0) ?_
  repeat (first
    | (refine Lex.skips (by rfl) ?_; (try simp only [Act.put, List.setIfInBounds_toArray, List.set_cons_zero, List.set_cons_succ]))
    | (refine Lex.quiet (v := ?_) (by rfl) (by rfl) ?_ ?_; rotate_left; (focus (intro w' hS'; go_simp; try rfl)); (try simp only [Act.put, List.setIfInBounds_toArray, List.set_cons_zero, List.set_cons_succ])))
  refine Lex.loud (by rfl) (by rfl) ?_
  intro K' hK'
  go_simp
  refine (HM.out _).mono ?_
  rintro e w' ⟨rfl, rfl⟩
  refine hK' _ _ (C0.out) ?_
  clear hK'
  try simp only [Act.put, List.setIfInBounds_toArray, List.set_cons_zero, List.set_cons_succ]
  repeat (first
    | (refine Lex.skips (by rfl) ?_; (try simp only [Act.put, List.setIfInBounds_toArray, List.set_cons_zero, List.set_cons_succ]))
    | (refine Lex.quiet (v := ?_) (by rfl) (by rfl) ?_ ?_; rotate_left; (focus (intro w' hS'; go_simp; try rfl)); (try simp only [Act.put, List.setIfInBounds_toArray, List.set_cons_zero, List.set_cons_succ])))
  refine Lex.loud (by rfl) (by rfl) ?_
  intro K' hK'
  go_simp
  refine (HA.out _ R1.out.drew E1.out E2.out).mono ?_
  rintro e w3 ⟨rfl, hm3, r3⟩
  have HM3 := Lib.hid hm3
  have R3 := Lib.hid ((R1.out.drew.to (T := only [g])).trans r3)
  have C3 := Lib.hid (r3.cell C0.out (by simp; omega))
  clear hm3 r3
  refine hK' _ _ (C3.out) ?_
  clear hK'
  try simp only [Act.put, List.setIfInBounds_toArray, List.set_cons_zero, List.set_cons_succ]
  repeat (first
    | (refine Lex.skips (by rfl) ?_; (try simp only [Act.put, List.setIfInBounds_toArray, List.set_cons_zero, List.set_cons_succ]))
    | (refine Lex.quiet (v := ?_) (by rfl) (by rfl) ?_ ?_; rotate_left; (focus (intro w' hS'; go_simp; try rfl)); (try simp only [Act.put, List.setIfInBounds_toArray, List.set_cons_zero, List.set_cons_succ])))
  refine Lex.done ?_
  refine Lex.opens (fun w' => w'.cell? ⟨w.heap.size, 0, none⟩ = some (.int .i64 k)) (C3.out) ?_
  repeat (first
    | (refine Lex.skips (by rfl) ?_; (try simp only [Act.put, List.setIfInBounds_toArray, List.set_cons_zero, List.set_cons_succ]))
    | (refine Lex.quiet (v := ?_) (by rfl) (by rfl) ?_ ?_; rotate_left; (focus (intro w' hS'; go_simp; try rfl)); (try simp only [Act.put, List.setIfInBounds_toArray, List.set_cons_zero, List.set_cons_succ])))
  refine Lex.done ?_
  refine Lex.ends ?_
  go_wp2_with fail
  go_ret
  exact ⟨rfl, HM3.out, R3.out⟩

end Go.Proofs.YtihnkijeefkefaaGreat

import Derived.Test.YtajfhgphbcmmhaaG32
import Derived.Test.YtajfhgphbcmmhaaG31
set_option linter.unusedSimpArgs false
set_option linter.unusedVariables false
set_option linter.unusedSectionVars false
set_option linter.unnecessarySimpa false
namespace Go.Proofs.Ytajfhgphbcmmhaa
open Go.RowKit

attribute [local go_sem] Program.isFuncB Program.isSliceB

variable {w w' w'' w0 : World}

theorem reads_cap {z n c : Nat} {a : Option Addr} {cs : List Value} (h : Reads w (.slice a n c) z n cs) : n ≤ c := by
  rcases h with ⟨h, h2, -⟩ | ⟨b, cap, h, h2, -⟩
  · cases h; exact Nat.le_refl _
  · cases h; exact h2
theorem reads_take {n c k : Nat} {a : Option Addr} {cs : List Value} (h : Reads w (.slice a n c) 1 n cs) (hk : k ≤ n) : Reads w (.slice a k c) 1 k (cs.take k) := by
  rcases h with ⟨h, h2, h3⟩ | ⟨b, cap, h, h2, h3, h4, h5⟩
  · cases h
    obtain rfl : k = 0 := by omega
    exact .inl ⟨rfl, rfl, by simp⟩
  · cases h
    refine .inr ⟨b, c, rfl, by omega, h3, by simp; omega, fun j u hu => ?_⟩
    rw [List.getElem?_take] at hu
    split at hu
    · exact h5 j u hu
    · cases hu

/-- no instruction's bytes begin another one's -/
theorem apart_law (x y : Ix) (hx : ckOf x = 0) (hy : ckOf y = 0) (hxN : rng x.N) (hyN : rng y.N) (n : Nat) (hn : n = min (encE x).length (encE y).length) : decide ((encE x).take n = (encE y).take n) = decide (x = y) := by
  have key : ∀ x y : Ix, ckOf x = 0 → ckOf y = 0 → rng x.N → rng y.N → (encE x).length ≤ (encE y).length → (encE y).take (encE x).length = encE x → x = y := by
    intro x y hx hy hxN hyN hl h
    have h1 := getR_enc x hx hxN (encE y) 0 ((encE y).drop (encE x).length) (by rw [List.drop_zero]; conv => lhs; rw [← List.take_append_drop (encE x).length (encE y), h])
    have h2 := getR_enc y hy hyN (encE y) 0 [] (by simp)
    rw [h1] at h2
    exact congrArg Gt.ix h2
  by_cases hxy : x = y
  · subst hxy; simp
  · rw [decide_eq_false hxy]
    refine decide_eq_false fun h => hxy ?_
    rcases Nat.le_total (encE x).length (encE y).length with hl | hl
    · rw [Nat.min_eq_left hl] at hn
      subst hn
      rw [List.take_length] at h
      exact key x y hx hy hxN hyN hl h.symm
    · rw [Nat.min_eq_right hl] at hn
      subst hn
      rw [List.take_length] at h
      exact (key y x hy hx hyN hxN hl h).symm

theorem code_two (w : World) (x y : Ix) (u v : Value) (hu : Reads w u 1 x.l.length (ints x.l)) (hv : Reads w v 1 y.l.length (ints y.l)) :
    CodeIn (w.alloc (.cells #[.int .i64 x.o, .int .i64 x.A, .int .i64 x.B, .int .i64 x.C, .int .i64 x.N, u, .int .i64 y.o, .int .i64 y.A, .int .i64 y.B, .int .i64 y.C, .int .i64 y.N, v] 35)) (some ⟨w.heap.size, 0, none⟩) [x, y] := by
  have r := (Fr.refl no w).alloc (.cells #[.int .i64 x.o, .int .i64 x.A, .int .i64 x.B, .int .i64 x.C, .int .i64 x.N, u, .int .i64 y.o, .int .i64 y.A, .int .i64 y.B, .int .i64 y.C, .int .i64 y.N, v] 35)
  intro k hk
  match k, hk with
  | 0, _ => exact ⟨_, 0, u, rfl, ⟨fun j x hj => cell_of_heap (heap_new w _) (by
      have : j < 6 := (List.getElem?_eq_some_iff.1 hj).1
      match j, this with
      | 0, _ => exact hj
      | 1, _ => exact hj
      | 2, _ => exact hj
      | 3, _ => exact hj
      | 4, _ => exact hj
      | 5, _ => exact hj), hu.fr r (by simp)⟩⟩
  | 1, _ => exact ⟨_, 0, v, rfl, ⟨fun j x hj => cell_of_heap (heap_new w _) (by
      have : j < 6 := (List.getElem?_eq_some_iff.1 hj).1
      match j, this with
      | 0, _ => exact hj
      | 1, _ => exact hj
      | 2, _ => exact hj
      | 3, _ => exact hj
      | 4, _ => exact hj
      | 5, _ => exact hj), hv.fr r (by simp)⟩⟩

set_option maxRecDepth 100000 in
set_option maxHeartbeats 16000000 in
theorem apart_ok (w : World) (x y : Ix) (u v : Value) (hu : Reads w u 1 x.l.length (ints x.l)) (hv : Reads w v 1 y.l.length (ints y.l)) (hxl : x.l.length ≤ maxLen) (hyl : y.l.length ≤ maxLen) (hxN : rng x.N) (hyN : rng y.N) :
    Calls Try.prog 4 #[insV x.o x.A x.B x.C x.N u, insV y.o y.A y.B y.C y.N v] w fun e w' => e = .returned (.bool true) ∧ Fr no w w' := by
  obtain ⟨ua, uc, rfl⟩ := hu.shape
  obtain ⟨va, vc, rfl⟩ := hv.shape
  have HAL := Lib.hid (fun (h1 : ckOf x = 0) (h2 : ckOf y = 0) n hn => apart_law x y h1 h2 hxN hyN n hn)
  have HLI : Hid (x = y → encE x = encE y) := Lib.hid (fun h => by rw [h])
  have r1 := ((Fr.refl no w).alloc (.cells #[.int .i64 x.o, .int .i64 x.A, .int .i64 x.B, .int .i64 x.C, .int .i64 x.N, .slice ua x.l.length uc] 35)).alloc (.cells #[.int .i64 y.o, .int .i64 y.A, .int .i64 y.B, .int .i64 y.C, .int .i64 y.N, .slice va y.l.length vc] 35)
  have HX1 := Lib.hid (heap_new2 w (.cells #[.int .i64 x.o, .int .i64 x.A, .int .i64 x.B, .int .i64 x.C, .int .i64 x.N, .slice ua x.l.length uc] 35) (.cells #[.int .i64 y.o, .int .i64 y.A, .int .i64 y.B, .int .i64 y.C, .int .i64 y.N, .slice va y.l.length vc] 35))
  have HY1 := Lib.hid (heap_new2' w (.cells #[.int .i64 x.o, .int .i64 x.A, .int .i64 x.B, .int .i64 x.C, .int .i64 x.N, .slice ua x.l.length uc] 35) (.cells #[.int .i64 y.o, .int .i64 y.A, .int .i64 y.B, .int .i64 y.C, .int .i64 y.N, .slice va y.l.length vc] 35))
  have R1 := Lib.hid r1
  have AW := Lib.hid (awake_ok ((w.alloc (.cells #[.int .i64 x.o, .int .i64 x.A, .int .i64 x.B, .int .i64 x.C, .int .i64 x.N, .slice ua x.l.length uc] 35)).alloc (.cells #[.int .i64 y.o, .int .i64 y.A, .int .i64 y.B, .int .i64 y.C, .int .i64 y.N, .slice va y.l.length vc] 35)))
  have HU := Lib.hid hu
  have HV := Lib.hid hv
  unfold maxLen at hxl hyl
  have HC := Lib.hid (fun w2 (r : Fr no w w2) => code_two w2 x y _ _ (hu.fr r (by simp)) (hv.fr r (by simp)))
  have HPX := Lib.hid (fun w2 (r : Fr no w w2) (h : x.l.length ≤ 20) => put_any w2 x _ (hu.fr r (by simp)) (by omega))
  have HPY := Lib.hid (fun w2 (r : Fr no w w2) (h : y.l.length ≤ 20) => put_any w2 y _ (hv.fr r (by simp)) (by omega))
  have HSM := Lib.hid (fun w2 (r : Fr no w w2) => same_ok w2 x.o x.A x.B x.C x.N y.o y.A y.B y.C y.N _ _ x.l y.l (hu.fr r (by simp)) (hv.fr r (by simp)) hxl hyl)
  have HDE : Hid (decide (x.o = y.o ∧ x.A = y.A ∧ x.B = y.B ∧ x.C = y.C ∧ x.N = y.N ∧ x.l = y.l) = decide (x = y)) := Lib.hid (by
    obtain ⟨a1, a2, a3, a4, a5, a6⟩ := x
    obtain ⟨b1, b2, b3, b4, b5, b6⟩ := y
    simp)
  have HXB := Lib.hid (encE_lt x)
  have HYB := Lib.hid (encE_lt y)
  have hxe := encE_len x
  have hye := encE_len y
  have hl2 : ∀ (w2 : World) (sa : Option Addr) (c : Nat), CodeIn w2 sa [x, y] → Calls Try.prog 9 #[.slice sa 2 c, .int .i64 2] w2 (LongR w2 2 [x, y]) := fun w2 sa c h => long_ok w2 sa c 2 [x, y] h (by simp [maxLen]) (by omega) (by intro i hi; simp at hi; rcases hi with rfl | rfl <;> (unfold maxLen; omega))
  have HL2 := Lib.hid hl2
  clear hl2
  generalize decide (x.o = y.o ∧ x.A = y.A ∧ x.B = y.B ∧ x.C = y.C ∧ x.N = y.N ∧ x.l = y.l) = sm at *
  clear hu hv r1
  unfold insV at HPX HPY HSM ⊢
  go_enter Try.func4, Try.ntmps4
  go_wp2_with fail
  refine AW.out.mono ?_
  rintro e w2 ⟨rfl, r2⟩
  have HX2 := Lib.hid (r2.heap HX1.out (by simp))
  have HY2 := Lib.hid (r2.heap HY1.out (by simp))
  have R2 := Lib.hid (R1.out.trans r2)
  clear r2 AW HX1 HY1
  have HC3 := Lib.hid (HL2.out _ _ 2 (HC.out w2 R2.out))
  have R3 := Lib.hid ((Fr.refl no w2).alloc (.cells #[.int .i64 x.o, .int .i64 x.A, .int .i64 x.B, .int .i64 x.C, .int .i64 x.N, .slice ua x.l.length uc, .int .i64 y.o, .int .i64 y.A, .int .i64 y.B, .int .i64 y.C, .int .i64 y.N, .slice va y.l.length vc] 35))
  obtain ⟨x0, x1, x2, x3, x4, x5⟩ := cells6 HX2.out
  obtain ⟨y0, y1, y2, y3, y4, y5⟩ := cells6 HY2.out
  go_wp2_with fail
  refine HC3.out.mono ?_
  rintro e w4 ⟨q, rfl, hq, r4⟩
  have R4 := Lib.hid (R2.out.trans (R3.out.trans r4))
  have HX4 := Lib.hid ((R3.out.trans r4).heap HX2.out (by simp))
  have HY4 := Lib.hid ((R3.out.trans r4).heap HY2.out (by simp))
  have HQ := Lib.hid hq
  clear hq r4 x0 x1 x2 x3 x4 x5 y0 y1 y2 y3 y4 y5 HC3 HL2 HC
  cases q
  case true =>
    go_wp2_with fail
    go_ret
    exact ⟨rfl, R4.out⟩
  have hl20 := (HQ.out rfl).2
  have HP4 := Lib.hid (HPX.out w4 R4.out (hl20 x (by simp)))
  have HP5 := Lib.hid (fun w5 r => HPY.out w5 r (hl20 y (by simp)))
  clear hl20 HQ HPX HPY
  obtain ⟨x0, x1, x2, x3, x4, x5⟩ := cells6 HX4.out
  go_wp2_with fail
  refine HP4.out.mono ?_
  rintro e w5 ⟨xv, rfl, hxv, r5⟩
  have R5 := Lib.hid (R4.out.trans r5)
  have HX5 := Lib.hid (r5.heap HX4.out (by simp))
  have HY5 := Lib.hid (r5.heap HY4.out (by simp))
  have HXV := Lib.hid (owns_reads hxv)
  obtain ⟨pa, pc, rfl⟩ := owns_shape hxv
  clear r5 hxv x0 x1 x2 x3 x4 x5 HP4
  have HP6 := Lib.hid (HP5.out w5 R5.out)
  clear HP5
  obtain ⟨y0, y1, y2, y3, y4, y5⟩ := cells6 HY5.out
  go_wp2_with fail
  refine HP6.out.mono ?_
  rintro e w6 ⟨yv, rfl, hyv, r6⟩
  have R6 := Lib.hid (R5.out.trans r6)
  have HX6 := Lib.hid (r6.heap HX5.out (by simp))
  have HY6 := Lib.hid (r6.heap HY5.out (by simp))
  have HXV6 := Lib.hid (HXV.out.fr r6 (by simp))
  have HYV6 := Lib.hid (owns_reads hyv)
  obtain ⟨qa, qc, rfl⟩ := owns_shape hyv
  clear r6 hyv y0 y1 y2 y3 y4 y5 HP6
  have hpc := reads_cap HXV6.out
  have hqc := reads_cap HYV6.out
  by_cases hcx : ckOf x = 0
  case neg =>
    have e1 : (ckOf x != 0) = true := by simpa using hcx
    clear hcx
    go_wp2_with fail
    go_ret
    exact ⟨rfl, R6.out⟩
  have e1 : (ckOf x != 0) = false := by simpa using hcx
  have HCX := Lib.hid hcx
  clear hcx
  by_cases hcy : ckOf y = 0
  case neg =>
    have e2 : (ckOf y != 0) = true := by simpa using hcy
    clear hcy
    go_wp2_with fail
    go_ret
    exact ⟨rfl, R6.out⟩
  have e2 : (ckOf y != 0) = false := by simpa using hcy
  have HCY := Lib.hid hcy
  clear hcy
  have HS6 := Lib.hid (HSM.out w6 R6.out)
  obtain ⟨n, hn⟩ : ∃ n, n = min (encE x).length (encE y).length := ⟨_, rfl⟩
  have HD := Lib.hid (HAL.out HCX.out HCY.out n hn)
  have HLEN : Hid (sm = true → (encE x).length = (encE y).length) := Lib.hid (fun h => by rw [HLI.out (of_decide_eq_true (HDE.out ▸ h))])
  have HTX := Lib.hid (reads_take HXV6.out (k := n) (by omega))
  have HTY := Lib.hid (reads_take HYV6.out (k := n) (by omega))
  have HNL : Hid (((encE x).take n).length = n ∧ ((encE y).take n).length = n) := Lib.hid (by simp; omega)
  have HSB := Lib.hid (fun w7 (r : Fr no w6 w7) => samebytes_ok w7 (.slice pa n pc) (.slice qa n qc) ((encE x).take n) ((encE y).take n)
    (by rw [HNL.out.1, u8s, List.map_take]; exact HTX.out.fr r (by simp)) (by rw [HNL.out.2, u8s, List.map_take]; exact HTY.out.fr r (by simp))
    (fun b hb => HXB.out b (List.mem_of_mem_take hb)) (fun b hb => HYB.out b (List.mem_of_mem_take hb)))
  rw [HD.out, ← HDE.out] at HSB
  clear HSM HAL HLI HD HDE HCX HCY HTX HTY HNL HXB HYB
  obtain ⟨x0, x1, x2, x3, x4, x5⟩ := cells6 HX6.out
  obtain ⟨y0, y1, y2, y3, y4, y5⟩ := cells6 HY6.out
  generalize encE x = ex at *
  generalize encE y = ey at *
  have hnp : (n : Int) ≤ (pc : Int) := by omega
  have hnq : (n : Int) ≤ (qc : Int) := by omega
  go_wp2_with fail
  refine HS6.out.mono ?_
  rintro e w7 ⟨rfl, r7⟩
  have R7 := Lib.hid (R6.out.trans r7)
  have SB7 := Lib.hid (fun w8 (r : Fr no w7 w8) => HSB.out w8 (r7.trans r))
  clear r7 HSB x0 x1 x2 x3 x4 x5 y0 y1 y2 y3 y4 y5
  go_wp2_with fail
  have hmin : min (ex.length : Int) (ey.length : Int) = n := by rw [hn]; omega
  clear hn
  have HLEN2 : Hid (sm = true → ((ex.length : Int) == (ey.length : Int)) = true) := Lib.hid (fun h => by rw [HLEN.out h]; simp)
  have SB8 := Lib.hid (fun w8 (r : Fr no w7.drew w8) => SB7.out w8 (((Fr.refl no w7).drew).trans r))
  refine Lex.region [8] [24] (by kernel_rfl) (by kernel_rfl) ?_
  refine Lex.opens (fun _ => True) (trivial) ?_
  repeat (first
    | (refine Lex.skips (by rfl) ?_; (try simp only [Act.put, List.setIfInBounds_toArray, List.set_cons_zero, List.set_cons_succ]))
    | (refine Lex.quiet (v := ?_) (by rfl) (by rfl) ?_ ?_; rotate_left; (focus (intro w' hS'; go_simp; try rfl)); (try simp only [Act.put, List.setIfInBounds_toArray, List.set_cons_zero, List.set_cons_succ])))
  refine Lex.loud (by rfl) (by rfl) ?_
  intro K' hK'
  go_simp
  refine (SB8.out _ (Fr.refl _ _)).mono ?_
  rintro e w8 ⟨rfl, rfl⟩
  refine hK' _ _ (trivial) ?_
  clear hK'
  try simp only [Act.put, List.setIfInBounds_toArray, List.set_cons_zero, List.set_cons_succ]
  cases sm
  case false =>
    repeat (first
      | (refine Lex.skips (by rfl) ?_; (try simp only [Act.put, List.setIfInBounds_toArray, List.set_cons_zero, List.set_cons_succ]))
      | (refine Lex.quiet (v := ?_) (by rfl) (by rfl) ?_ ?_; rotate_left; (focus (intro w' hS'; go_simp; try rfl)); (try simp only [Act.put, List.setIfInBounds_toArray, List.set_cons_zero, List.set_cons_succ])))
    refine Lex.done ?_
    refine Lex.ends ?_
    go_wp2_with fail
    go_ret
    exact ⟨by simp, R7.out.drew⟩
  case true =>
    have e3 := HLEN2.out rfl
    repeat (first
      | (refine Lex.skips (by rfl) ?_; (try simp only [Act.put, List.setIfInBounds_toArray, List.set_cons_zero, List.set_cons_succ]))
      | (refine Lex.quiet (v := ?_) (by rfl) (by rfl) ?_ ?_; rotate_left; (focus (intro w' hS'; go_simp; try rfl)); (try simp only [Act.put, List.setIfInBounds_toArray, List.set_cons_zero, List.set_cons_succ])))
    refine Lex.done ?_
    refine Lex.ends ?_
    go_wp2_with fail
    go_ret
    exact ⟨by simp, R7.out.drew⟩

end Go.Proofs.Ytajfhgphbcmmhaa

import Derived.Test.YtihnkijeefkefaaGreatPSameG1
import Derived.Test.YtihnkijeefkefaaGreatQ19
import Derived.Test.YtihnkijeefkefaaGreatQ17L
import Derived.ChangeKeysEq
import Derived.Test.YtihnkijeefkefaaGreatQ25
import Derived.Test.YtihnkijeefkefaaGreatR6
import Derived.Test.YtihnkijeefkefaaGreatR0
set_option linter.unusedSimpArgs false
set_option linter.unusedVariables false
set_option linter.unusedSectionVars false
set_option linter.unnecessarySimpa false
set_option maxRecDepth 100000
/- A copy of a space. -/
namespace Go.Proofs.YtihnkijeefkefaaGreat
open Go.RowKit

attribute [local go_sem] Program.isFuncB Program.isSliceB

variable {w w' w'' w0 w1 : World} {O R X : Nat → Prop} {p q : Nat} {s s' t t' : Zp} {z : Pz}

end Go.Proofs.YtihnkijeefkefaaGreat

set_option linter.unusedSimpArgs false
set_option linter.unusedVariables false
set_option linter.unusedSectionVars false
set_option linter.unnecessarySimpa false
set_option maxRecDepth 100000
/- Are two spaces the same? -/
namespace Go.Proofs.YtihnkijeefkefaaGreat
open Go.RowKit

attribute [local go_sem] Program.isFuncB Program.isSliceB

variable {w w' w'' w0 w1 : World} {O R O2 R2 X : Nat → Prop} {p q : Nat} {s s' t t' : Zp} {z y : Pz}

theorem addr_add (ad : Addr) (a j : Nat) : (ad.add a).add j = ad.add (a + j) := by
  by_cases ha : a = 0
  · subst ha; simp [Addr.add]
  by_cases hj : j = 0
  · subst hj; simp [Addr.add]
  have h : ¬ a + j = 0 := by omega
  simp only [Addr.add, if_neg ha, if_neg hj, if_neg h, Nat.add_assoc]
theorem reads_len {v : Value} {z n : Nat} {cs : List Value} (h : Reads w v z n cs) : cs.length = n * z := by
  rcases h with ⟨-, rfl, rfl⟩ | ⟨ad, cap, -, -, -, h4, -⟩
  · simp
  · exact h4
theorem u8s_at (l : List Nat) (k : Nat) (h : k < l.length) : ((u8s l).drop (k * 1)).take 1 = [.int .u8 (l[k] : Nat)] := by
  rw [Nat.mul_one]
  have : k < (u8s l).length := by rw [u8s_len]; exact h
  rw [List.drop_eq_getElem_cons this]
  simp [u8s]
theorem linksC_at (l : List Lk) (k : Nat) (h : k < l.length) : ((linksC l).drop (k * 4)).take 4 = [.int .i64 l[k].f, .int .i64 l[k].at_, .int .i64 l[k].back, .int .i64 l[k].res] := by
  have hl : l = l.take k ++ l[k] :: l.drop (k + 1) := by rw [← List.drop_eq_getElem_cons h, List.take_append_drop]
  have hk : (l.take k).length = k := by rw [List.length_take]; omega
  conv => lhs; rw [hl, linksC_app]
  rw [List.drop_left' (by rw [linksC_len, hk])]
  rfl
theorem run_eq4 (w : World) (a b c d a' b' c' d' : Int) : (Op.equalIn 10000 121 (.agg #[.int .i64 a, .int .i64 b, .int .i64 c, .int .i64 d]) (.agg #[.int .i64 a', .int .i64 b', .int .i64 c', .int .i64 d'])).run Tryz.prog w = .ok ((a == a') && ((b == b') && ((c == c') && (d == d')))) w := by
  have hi := infoInt'
  have hc : Tryz.prog.cellsOf 3 = 1 := by kernel_rfl
  rw [show (10000 : Nat) = 9999 + 1 from rfl, run_equalIn_array w 9999 _ _ Tryz.underlying121 hi, hc]
  have hr : List.range 4 = [0, 1, 2, 3] := rfl
  rw [hr]
  simp only [Op.eqItems, Sem.run_bind]
  go_simp
  by_cases h1 : a = a' <;> by_cases h2 : b = b' <;> by_cases h3 : c = c' <;> by_cases h4 : d = d' <;> simp [h1, h2, h3, h4]
def lk4 (x y : Lk) : Bool := ((x.f : Int) == (y.f : Int)) && (((x.at_ : Int) == (y.at_ : Int)) && ((x.back == y.back) && (x.res == y.res)))
theorem lk4_eq (x y : Lk) : lk4 x y = decide (x = y) := by
  obtain ⟨a, b, c, d⟩ := x
  obtain ⟨a', b', c', d'⟩ := y
  rw [Bool.eq_iff_iff, decide_eq_true_eq]
  simp only [lk4, Bool.and_eq_true, beq_iff_eq, Lk.mk.injEq, Int.natCast_inj]
set_option maxHeartbeats 4000000 in
theorem eqlinks_ok (w : World) (u v : Value) (a b : List Lk) (ha : Reads w u 4 a.length (linksC a)) (hb : Reads w v 4 b.length (linksC b)) (hl : a.length ≤ 1000000000) :
    Calls Tryz.prog 92 #[u, v] w fun e w' => e = .returned (.bool (decide (a = b))) ∧ Fr no w w' := by
  obtain ⟨ua, uc, rfl⟩ := ha.shape
  obtain ⟨va, vc, rfl⟩ := hb.shape
  by_cases hab : a.length = b.length
  case neg =>
    have HN : Hid (decide (a = b) = false) := Lib.hid (decide_eq_false (fun e => hab (by rw [e])))
    have e1 : ((a.length : Int) != (b.length : Int)) = true := by rw [bne_iff_ne]; omega
    clear hab ha hb
    go_enter Tryz.func92, Tryz.ntmps92
    go_wp2_with fail
    go_ret
    exact ⟨by rw [HN.out]; rfl, Fr.refl _ _⟩
  have HA := Lib.hid ha
  have HB := Lib.hid hb
  clear ha hb
  generalize hmm : b.length = mm at *
  obtain rfl : mm = a.length := by omega
  have HJL := Lib.hid hmm
  clear hmm hab
  go_enter Tryz.func92, Tryz.ntmps92
  go_wp2_with fail
  go_loopw [13] (fun x wr => ∃ k : Nat, k ≤ a.length ∧ x = .int .i64 k ∧ Hid (a.take k = b.take k) ∧ Hid (Fr no w wr)) (fun x _ => (a.length - intOf x).toNat)
  case atStart => exact ⟨0, by omega, rfl, Lib.hid rfl, Lib.hid (Fr.refl _ _)⟩
  case round =>
    obtain ⟨k, hk, rfl, hpre, hfr⟩ := hrel
    by_cases hks : k < a.length
    · have hks' : (k : Int) < a.length := by omega
      have hkb : k < b.length := by have := HJL.out; omega
      have rd := hfr.out.trans (Fr.refl no wr).drew
      obtain ⟨b1, o1, rfl, h1⟩ := reads_elem (HA.out.fr rd (by simp)) (by decide) hks
      obtain ⟨b2, o2, rfl, h2⟩ := reads_elem (HB.out.fr rd (by simp)) (by decide) hks
      rw [linksC_at a k hks] at h1
      rw [linksC_at b k hkb] at h2
      have HD : Hid (decide (a[k] = b[k]) = decide (a.take (k + 1) = b.take (k + 1))) := Lib.hid (by
        rw [List.take_succ_eq_append_getElem hks, List.take_succ_eq_append_getElem hkb, hpre.out]
        rw [Bool.eq_iff_iff, decide_eq_true_eq, decide_eq_true_eq]
        exact ⟨fun h => by rw [h], fun h => by have := List.append_inj_right' h rfl; injection this⟩)
      have HBD : Hid (decide (a.take (k + 1) = b.take (k + 1)) = false → decide (a = b) = false) := Lib.hid (fun h => decide_eq_false (fun e => by
        have h2 : a.take (k + 1) ≠ b.take (k + 1) := of_decide_eq_false h
        exact h2 (by rw [e])))
      have HTD : Hid (decide (a.take (k + 1) = b.take (k + 1)) = true → a.take (k + 1) = b.take (k + 1)) := Lib.hid (fun h => by simpa using h)
      have A1 := Lib.hid h1
      have A2 := Lib.hid h2
      have R1 := Lib.hid rd
      clear h1 h2 rd
      generalize a[k] = x at *
      generalize b[k] = y at *
      obtain ⟨x1, x2, x3, x4⟩ := x
      obtain ⟨y1, y2, y3, y4⟩ := y
      dsimp only at A1 A2
      rw [← lk4_eq] at HD
      unfold lk4 at HD
      dsimp only at HD
      have hq4 := fun w => run_eq4 w x1 x2 x3 x4 y1 y2 y3 y4
      go_upto_region 6 with (fail)
      cases e1 : ((x1 : Int) == (y1 : Int))
      case false =>
        have e1' : ((x1 : Int) != (y1 : Int)) = true := by rw [bne, e1]; rfl
        have HF := Lib.hid (HBD.out (by rw [← HD.out, e1]; rfl))
        refine Lex.region [] [9] (by kernel_rfl) (by kernel_rfl) ?_
        refine Lex.opens (fun w' => At w' b1 (o1 + k * 4) [.int .i64 x1, .int .i64 x2, .int .i64 x3, .int .i64 x4] ∧ At w' b2 (o2 + k * 4) [.int .i64 y1, .int .i64 y2, .int .i64 y3, .int .i64 y4]) (⟨A1.out, A2.out⟩) ?_
        repeat (first
          | (refine Lex.skips (by rfl) ?_; (try simp only [Act.put, List.setIfInBounds_toArray, List.set_cons_zero, List.set_cons_succ]))
          | (refine Lex.into (by rfl) (by rfl) _ _ rfl _ _ rfl _ _ (fun w' h => h.1) Tryz.underlying121 rfl (by rw [Tryz.infoFour]; rfl) ?_; (try simp only [Act.put, List.setIfInBounds_toArray, List.set_cons_zero, List.set_cons_succ]))
          | (refine Lex.into (by rfl) (by rfl) _ _ rfl _ _ rfl _ _ (fun w' h => h.2) Tryz.underlying121 rfl (by rw [Tryz.infoFour]; rfl) ?_; (try simp only [Act.put, List.setIfInBounds_toArray, List.set_cons_zero, List.set_cons_succ]))
          | (refine Lex.quiet (v := ?_) (by rfl) (by rfl) ?_ ?_; rotate_left; (focus (intro w' hS'; go_simp; try rfl)); (try simp only [Act.put, List.setIfInBounds_toArray, List.set_cons_zero, List.set_cons_succ])))
        refine Lex.done ?_
        refine Lex.ends ?_
        go_wp2_with fail
        go_ret
        exact ⟨by rw [HF.out]; rfl, R1.out⟩
      cases e2 : ((x2 : Int) == (y2 : Int))
      case false =>
        have e2' : ((x2 : Int) != (y2 : Int)) = true := by rw [bne, e2]; rfl
        have HF := Lib.hid (HBD.out (by rw [← HD.out, e1, e2]; rfl))
        refine Lex.region [] [9] (by kernel_rfl) (by kernel_rfl) ?_
        refine Lex.opens (fun w' => At w' b1 (o1 + k * 4) [.int .i64 x1, .int .i64 x2, .int .i64 x3, .int .i64 x4] ∧ At w' b2 (o2 + k * 4) [.int .i64 y1, .int .i64 y2, .int .i64 y3, .int .i64 y4]) (⟨A1.out, A2.out⟩) ?_
        repeat (first
          | (refine Lex.skips (by rfl) ?_; (try simp only [Act.put, List.setIfInBounds_toArray, List.set_cons_zero, List.set_cons_succ]))
          | (refine Lex.into (by rfl) (by rfl) _ _ rfl _ _ rfl _ _ (fun w' h => h.1) Tryz.underlying121 rfl (by rw [Tryz.infoFour]; rfl) ?_; (try simp only [Act.put, List.setIfInBounds_toArray, List.set_cons_zero, List.set_cons_succ]))
          | (refine Lex.into (by rfl) (by rfl) _ _ rfl _ _ rfl _ _ (fun w' h => h.2) Tryz.underlying121 rfl (by rw [Tryz.infoFour]; rfl) ?_; (try simp only [Act.put, List.setIfInBounds_toArray, List.set_cons_zero, List.set_cons_succ]))
          | (refine Lex.quiet (v := ?_) (by rfl) (by rfl) ?_ ?_; rotate_left; (focus (intro w' hS'; go_simp; try rfl)); (try simp only [Act.put, List.setIfInBounds_toArray, List.set_cons_zero, List.set_cons_succ])))
        refine Lex.done ?_
        refine Lex.ends ?_
        go_wp2_with fail
        go_ret
        exact ⟨by rw [HF.out]; rfl, R1.out⟩
      cases e3 : (x3 == y3)
      case false =>
        have e3' : (x3 != y3) = true := by rw [bne, e3]; rfl
        have HF := Lib.hid (HBD.out (by rw [← HD.out, e1, e2, e3]; rfl))
        refine Lex.region [] [9] (by kernel_rfl) (by kernel_rfl) ?_
        refine Lex.opens (fun w' => At w' b1 (o1 + k * 4) [.int .i64 x1, .int .i64 x2, .int .i64 x3, .int .i64 x4] ∧ At w' b2 (o2 + k * 4) [.int .i64 y1, .int .i64 y2, .int .i64 y3, .int .i64 y4]) (⟨A1.out, A2.out⟩) ?_
        repeat (first
          | (refine Lex.skips (by rfl) ?_; (try simp only [Act.put, List.setIfInBounds_toArray, List.set_cons_zero, List.set_cons_succ]))
          | (refine Lex.into (by rfl) (by rfl) _ _ rfl _ _ rfl _ _ (fun w' h => h.1) Tryz.underlying121 rfl (by rw [Tryz.infoFour]; rfl) ?_; (try simp only [Act.put, List.setIfInBounds_toArray, List.set_cons_zero, List.set_cons_succ]))
          | (refine Lex.into (by rfl) (by rfl) _ _ rfl _ _ rfl _ _ (fun w' h => h.2) Tryz.underlying121 rfl (by rw [Tryz.infoFour]; rfl) ?_; (try simp only [Act.put, List.setIfInBounds_toArray, List.set_cons_zero, List.set_cons_succ]))
          | (refine Lex.quiet (v := ?_) (by rfl) (by rfl) ?_ ?_; rotate_left; (focus (intro w' hS'; go_simp; try rfl)); (try simp only [Act.put, List.setIfInBounds_toArray, List.set_cons_zero, List.set_cons_succ])))
        refine Lex.done ?_
        refine Lex.ends ?_
        go_wp2_with fail
        go_ret
        exact ⟨by rw [HF.out]; rfl, R1.out⟩
      cases e4 : (x4 == y4)
      case false =>
        have e4' : (x4 != y4) = true := by rw [bne, e4]; rfl
        have HF := Lib.hid (HBD.out (by rw [← HD.out, e1, e2, e3, e4]; rfl))
        refine Lex.region [] [9] (by kernel_rfl) (by kernel_rfl) ?_
        refine Lex.opens (fun w' => At w' b1 (o1 + k * 4) [.int .i64 x1, .int .i64 x2, .int .i64 x3, .int .i64 x4] ∧ At w' b2 (o2 + k * 4) [.int .i64 y1, .int .i64 y2, .int .i64 y3, .int .i64 y4]) (⟨A1.out, A2.out⟩) ?_
        repeat (first
          | (refine Lex.skips (by rfl) ?_; (try simp only [Act.put, List.setIfInBounds_toArray, List.set_cons_zero, List.set_cons_succ]))
          | (refine Lex.into (by rfl) (by rfl) _ _ rfl _ _ rfl _ _ (fun w' h => h.1) Tryz.underlying121 rfl (by rw [Tryz.infoFour]; rfl) ?_; (try simp only [Act.put, List.setIfInBounds_toArray, List.set_cons_zero, List.set_cons_succ]))
          | (refine Lex.into (by rfl) (by rfl) _ _ rfl _ _ rfl _ _ (fun w' h => h.2) Tryz.underlying121 rfl (by rw [Tryz.infoFour]; rfl) ?_; (try simp only [Act.put, List.setIfInBounds_toArray, List.set_cons_zero, List.set_cons_succ]))
          | (refine Lex.quiet (v := ?_) (by rfl) (by rfl) ?_ ?_; rotate_left; (focus (intro w' hS'; go_simp; try rfl)); (try simp only [Act.put, List.setIfInBounds_toArray, List.set_cons_zero, List.set_cons_succ])))
        refine Lex.done ?_
        refine Lex.ends ?_
        go_wp2_with fail
        go_ret
        exact ⟨by rw [HF.out]; rfl, R1.out⟩
      have HF := Lib.hid (HTD.out (by rw [← HD.out, e1, e2, e3, e4]; rfl))
      refine Lex.region [] [9] (by kernel_rfl) (by kernel_rfl) ?_
      refine Lex.opens (fun w' => At w' b1 (o1 + k * 4) [.int .i64 x1, .int .i64 x2, .int .i64 x3, .int .i64 x4] ∧ At w' b2 (o2 + k * 4) [.int .i64 y1, .int .i64 y2, .int .i64 y3, .int .i64 y4]) (⟨A1.out, A2.out⟩) ?_
      repeat (first
        | (refine Lex.skips (by rfl) ?_; (try simp only [Act.put, List.setIfInBounds_toArray, List.set_cons_zero, List.set_cons_succ]))
        | (refine Lex.into (by rfl) (by rfl) _ _ rfl _ _ rfl _ _ (fun w' h => h.1) Tryz.underlying121 rfl (by rw [Tryz.infoFour]; rfl) ?_; (try simp only [Act.put, List.setIfInBounds_toArray, List.set_cons_zero, List.set_cons_succ]))
        | (refine Lex.into (by rfl) (by rfl) _ _ rfl _ _ rfl _ _ (fun w' h => h.2) Tryz.underlying121 rfl (by rw [Tryz.infoFour]; rfl) ?_; (try simp only [Act.put, List.setIfInBounds_toArray, List.set_cons_zero, List.set_cons_succ]))
        | (refine Lex.quiet (v := ?_) (by rfl) (by rfl) ?_ ?_; rotate_left; (focus (intro w' hS'; go_simp; try rfl)); (try simp only [Act.put, List.setIfInBounds_toArray, List.set_cons_zero, List.set_cons_succ])))
      refine Lex.done ?_
      refine Lex.ends ?_
      go_wp2_with fail
      go_roundw
      case rel => exact ⟨k + 1, by omega, by go_num, HF, R1⟩
      case measure => first | (simp [intOf]; done) | (simp [intOf]; omega)
    · obtain rfl : k = a.length := by omega
      have HF : Hid (decide (a = b) = true) := Lib.hid (by
        have h := hpre.out
        rw [List.take_length, ← HJL.out, List.take_length] at h
        exact decide_eq_true h)
      go_wp2_with fail
      go_ret
      exact ⟨by rw [HF.out]; rfl, hfr.out⟩
set_option maxHeartbeats 4000000 in
theorem eqbytes_ok (w : World) (u v : Value) (a b : List Nat) (ha : Reads w u 1 a.length (u8s a)) (hb : Reads w v 1 b.length (u8s b)) (hl : a.length ≤ 1000000000) :
    Calls Tryz.prog 96 #[u, v] w fun e w' => e = .returned (.bool (decide (a = b))) ∧ Fr no w w' := by
  obtain ⟨ua, uc, rfl⟩ := ha.shape
  obtain ⟨va, vc, rfl⟩ := hb.shape
  by_cases hab : a.length = b.length
  case neg =>
    have HN : Hid (decide (a = b) = false) := Lib.hid (decide_eq_false (fun e => hab (by rw [e])))
    have e1 : ((a.length : Int) != (b.length : Int)) = true := by rw [bne_iff_ne]; omega
    clear hab ha hb
    go_enter Tryz.func96, Tryz.ntmps96
    go_wp2_with fail
    go_ret
    exact ⟨by rw [HN.out]; rfl, Fr.refl _ _⟩
  have HA := Lib.hid ha
  have HB := Lib.hid hb
  clear ha hb
  generalize hmm : b.length = mm at *
  obtain rfl : mm = a.length := by omega
  have HJL := Lib.hid hmm
  clear hmm hab
  go_enter Tryz.func96, Tryz.ntmps96
  go_wp2_with fail
  go_loopw [13] (fun x wr => ∃ k : Nat, k ≤ a.length ∧ x = .int .i64 k ∧ Hid (a.take k = b.take k) ∧ Hid (Fr no w wr)) (fun x _ => (a.length - intOf x).toNat)
  case atStart => exact ⟨0, by omega, rfl, Lib.hid rfl, Lib.hid (Fr.refl _ _)⟩
  case round =>
    obtain ⟨k, hk, rfl, hpre, hfr⟩ := hrel
    by_cases hks : k < a.length
    · have hks' : (k : Int) < a.length := by omega
      have hkb : k < b.length := by have := HJL.out; omega
      have rd := hfr.out.trans (Fr.refl no wr).drew
      obtain ⟨b1, o1, rfl, h1⟩ := reads_elem (HA.out.fr rd (by simp)) (by decide) hks
      obtain ⟨b2, o2, rfl, h2⟩ := reads_elem (HB.out.fr rd (by simp)) (by decide) hks
      rw [u8s_at a k hks] at h1
      rw [u8s_at b k hkb] at h2
      have HD : Hid (decide (a[k] = b[k]) = decide (a.take (k + 1) = b.take (k + 1))) := Lib.hid (by
        rw [List.take_succ_eq_append_getElem hks, List.take_succ_eq_append_getElem hkb, hpre.out]
        rw [Bool.eq_iff_iff, decide_eq_true_eq, decide_eq_true_eq]
        exact ⟨fun h => by rw [h], fun h => by have := List.append_inj_right' h rfl; injection this⟩)
      have HBD : Hid (decide (a.take (k + 1) = b.take (k + 1)) = false → decide (a = b) = false) := Lib.hid (fun h => decide_eq_false (fun e => by
        have h2 : a.take (k + 1) ≠ b.take (k + 1) := of_decide_eq_false h
        exact h2 (by rw [e])))
      have HTD : Hid (decide (a.take (k + 1) = b.take (k + 1)) = true → a.take (k + 1) = b.take (k + 1)) := Lib.hid (fun h => by simpa using h)
      have A1 := Lib.hid h1
      have A2 := Lib.hid h2
      have R1 := Lib.hid rd
      clear h1 h2 rd
      generalize a[k] = x at *
      generalize b[k] = y at *

      go_upto_region 6 with (fail)
      by_cases hxy : x = y
      case neg =>
        have e1 : ((x : Int) != (y : Int)) = true := bne_iff_ne.2 (by omega)
        have HF := Lib.hid (HBD.out (by rw [← HD.out, decide_eq_false hxy]))
        clear hxy
        have S6 : Hid ((fun w' : World => w'.cell? ⟨b1, o1 + k, none⟩ = some (.int .u8 x) ∧ w'.cell? ⟨b2, o2 + k, none⟩ = some (.int .u8 y)) wr.drew) := Lib.hid ⟨by have := A1.out 0 _ rfl; rwa [Nat.mul_one, Nat.add_zero] at this, by have := A2.out 0 _ rfl; rwa [Nat.mul_one, Nat.add_zero] at this⟩
        refine Lex.region [] [9] (by kernel_rfl) (by kernel_rfl) ?_
        refine Lex.opens (fun w' => w'.cell? ⟨b1, o1 + k, none⟩ = some (.int .u8 x) ∧ w'.cell? ⟨b2, o2 + k, none⟩ = some (.int .u8 y)) (S6.out) ?_
        repeat (first
          | (refine Lex.skips (by rfl) ?_; (try simp only [Act.put, List.setIfInBounds_toArray, List.set_cons_zero, List.set_cons_succ]))
          | (refine Lex.quiet (v := ?_) (by rfl) (by rfl) ?_ ?_; rotate_left; (focus (intro w' hS'; go_simp; try rfl)); (try simp only [Act.put, List.setIfInBounds_toArray, List.set_cons_zero, List.set_cons_succ])))
        refine Lex.done ?_
        refine Lex.ends ?_
        go_wp2_with fail
        go_ret
        exact ⟨by rw [HF.out]; rfl, R1.out⟩
      case pos =>
        have e1 : ((x : Int) != (y : Int)) = false := by rw [hxy]; simp
        have HF := Lib.hid (HTD.out (by rw [← HD.out, decide_eq_true hxy]))
        clear hxy
        have S6 : Hid ((fun w' : World => w'.cell? ⟨b1, o1 + k, none⟩ = some (.int .u8 x) ∧ w'.cell? ⟨b2, o2 + k, none⟩ = some (.int .u8 y)) wr.drew) := Lib.hid ⟨by have := A1.out 0 _ rfl; rwa [Nat.mul_one, Nat.add_zero] at this, by have := A2.out 0 _ rfl; rwa [Nat.mul_one, Nat.add_zero] at this⟩
        refine Lex.region [] [9] (by kernel_rfl) (by kernel_rfl) ?_
        refine Lex.opens (fun w' => w'.cell? ⟨b1, o1 + k, none⟩ = some (.int .u8 x) ∧ w'.cell? ⟨b2, o2 + k, none⟩ = some (.int .u8 y)) (S6.out) ?_
        repeat (first
          | (refine Lex.skips (by rfl) ?_; (try simp only [Act.put, List.setIfInBounds_toArray, List.set_cons_zero, List.set_cons_succ]))
          | (refine Lex.quiet (v := ?_) (by rfl) (by rfl) ?_ ?_; rotate_left; (focus (intro w' hS'; go_simp; try rfl)); (try simp only [Act.put, List.setIfInBounds_toArray, List.set_cons_zero, List.set_cons_succ])))
        refine Lex.done ?_
        refine Lex.ends ?_
        go_wp2_with fail
        go_roundw
        case rel => exact ⟨k + 1, by omega, by go_num, HF, R1⟩
        case measure => first | (simp [intOf]; done) | (simp [intOf]; omega)
    · obtain rfl : k = a.length := by omega
      have HF : Hid (decide (a = b) = true) := Lib.hid (by
        have h := hpre.out
        rw [List.take_length, ← HJL.out, List.take_length] at h
        exact decide_eq_true h)
      go_wp2_with fail
      go_ret
      exact ⟨by rw [HF.out]; rfl, hfr.out⟩
theorem tleft_ok {base t a : Nat} {inp : List Nat} {l : List Dd} {iv lv : Value} (w : World) (h : TapeAt w base t inp a l iv lv) (hi : inp.length ≤ 100000) :
    Calls Tryz.prog 153 #[.pointer (some ⟨t, 0, none⟩)] w fun e w' => e = .returned (.int .i64 ((inp.length : Int) - a)) ∧ Fr no w w' := by
  obtain ⟨ia, ic, rfl⟩ := owns_shape h.inn
  have NN := Lib.hid (none_at w t true _ _ _ h.obj)
  have c1 : w.cell? ⟨t, 1, none⟩ = some (.slice ia inp.length ic) := cell_of_heap h.obj rfl
  have c2 : w.cell? ⟨t, 2, none⟩ = some (.int .i64 a) := cell_of_heap h.obj rfl
  have hle := h.le
  have hw : IntKind.i64.wrap ((inp.length : Int) - (a : Int)) = (inp.length : Int) - (a : Int) := by rw [IntKind.wrap_i64]; omega
  clear h
  go_enter Tryz.func153, Tryz.ntmps153
  go_wp2_with fail
  refine NN.out.mono ?_
  rintro e w' ⟨rfl, rfl⟩
  go_wp2_with fail
  go_quiet (fail)
  go_wp2_with fail
  go_ret
  exact ⟨rfl, (Fr.refl _ _).drewN _⟩
theorem reads_from {n c a : Nat} {ia : Option Addr} {l : List Nat} (h : Reads w (.slice ia n c) 1 n (u8s l)) (ha : a ≤ n) : Reads w (.slice (if c = a then ia else ia.map (·.add (a * 1))) (n - a) (c - a)) 1 (n - a) (u8s (l.drop a)) := by
  have hlen : l.length = n := by have := reads_len h; rw [u8s_len] at this; omega
  rcases h with ⟨h, h2, h3⟩ | ⟨ad, cap, h, h2, h3, h4, h5⟩
  · cases h
    obtain rfl : a = 0 := by omega
    have : l = [] := List.length_eq_zero_iff.1 hlen
    subst this
    exact .inl ⟨rfl, rfl, rfl⟩
  · cases h
    by_cases hc : c = a
    · subst hc
      obtain rfl : n = c := by omega
      rw [if_pos rfl, Nat.sub_self]
      refine .inr ⟨ad, 0, rfl, by omega, by unfold maxLen; omega, ?_, fun j u hj => ?_⟩
      · rw [u8s_len, List.length_drop, hlen]; omega
      · rw [List.drop_eq_nil_of_le (by omega)] at hj
        cases hj
    · rw [if_neg hc]
      refine .inr ⟨ad.add (a * 1), c - a, rfl, by omega, by omega, ?_, fun j u hj => ?_⟩
      · rw [u8s_len, List.length_drop, hlen, Nat.mul_one]
      · have hj' : (u8s l)[a + j]? = some u := by
          rw [← List.getElem?_drop]
          unfold u8s at hj ⊢
          rw [← List.map_drop]
          exact hj
        have := h5 (a + j) u hj'
        rw [Nat.mul_one, addr_add]
        exact this
set_option maxHeartbeats 2000000 in
theorem sleft_ok (w : World) (h : SpAt w O R p s z) : Calls Tryz.prog 97 #[.pointer (some ⟨p, 0, none⟩)] w fun e w' => ∃ v, e = .returned v ∧ Reads w' v 1 (s.inp.drop s.pos).length (u8s (s.inp.drop s.pos)) ∧ Fr no w w' := by
  have HRD := Lib.hid h.ro.now.2
  obtain ⟨ia, ic, hiv⟩ := h.ro.now.2.shape
  have hle := h.ok.ip
  have hil := h.ok.il
  have H := Lib.hid h
  obtain ⟨n, hn⟩ : ∃ n, s.inp.length = n := ⟨_, rfl⟩
  obtain ⟨a, ha⟩ : ∃ a, s.pos = a := ⟨_, rfl⟩
  have SS : Hid (∀ w', Fr no w w' → (fun w' => w'.cell? ⟨p, 6, none⟩ = some (.slice ia n ic) ∧ w'.cell? ⟨p, 9, none⟩ = some (.pointer (some ⟨z.t, 0, none⟩))) w') := Lib.hid (fun w' r => by
    have ho := r.heap H.out.obj (by simp)
    exact ⟨by rw [← hn, ← hiv]; exact cell_of_heap ho rfl, cell_of_heap ho rfl⟩)
  have R1 := Lib.hid (Fr.refl no w).drew
  have S1 := Lib.hid (SS.out _ R1.out)
  have HLF := Lib.hid (tleft_ok w.drew (H.out.fr R1.out).tape hil)
  rw [hn, ha] at HLF
  rw [hiv, hn] at HRD
  have hnc := cap_of_reads HRD.out
  rw [hn] at hle hil
  rw [ha] at hle
  have hwr : IntKind.i64.wrap ((n : Int) - ((n : Int) - (a : Int))) = (a : Int) := by rw [IntKind.wrap_i64]; omega
  have hto : ((a : Nat) : Int).toNat = a := rfl
  have HN := Lib.hid hn
  have HA := Lib.hid ha
  clear h hiv hn ha
  by_cases hca : ic = a
  case pos =>
    subst hca
    go_enter Tryz.func97, Tryz.ntmps97
    go_upto_region 1 with (fail)
    refine Lex.region [13] [17] (by kernel_rfl) (by kernel_rfl) ?_
    refine Lex.opens (fun w' => w'.cell? ⟨p, 6, none⟩ = some (.slice ia n ic) ∧ w'.cell? ⟨p, 9, none⟩ = some (.pointer (some ⟨z.t, 0, none⟩))) (S1.out) ?_
    repeat (first
      | (refine Lex.skips (by rfl) ?_; (try simp only [Act.put, List.setIfInBounds_toArray, List.set_cons_zero, List.set_cons_succ]))
      | (refine Lex.quiet (v := ?_) (by rfl) (by rfl) ?_ ?_; rotate_left; (focus (intro w' hS'; go_simp; try rfl)); (try simp only [Act.put, List.setIfInBounds_toArray, List.set_cons_zero, List.set_cons_succ])))
    refine Lex.loud (by rfl) (by rfl) ?_
    intro K' hK'
    go_simp
    refine HLF.out.mono ?_
    rintro e w2 ⟨rfl, r2⟩
    have R2 := Lib.hid (R1.out.trans r2)
    have S2 := Lib.hid (SS.out _ R2.out)
    clear r2
    refine hK' _ _ (S2.out) ?_
    clear hK'
    try simp only [Act.put, List.setIfInBounds_toArray, List.set_cons_zero, List.set_cons_succ]
    repeat (first
      | (refine Lex.skips (by rfl) ?_; (try simp only [Act.put, List.setIfInBounds_toArray, List.set_cons_zero, List.set_cons_succ]))
      | (refine Lex.quiet (v := ?_) (by rfl) (by rfl) ?_ ?_; rotate_left; (focus (intro w' hS'; go_simp; try rfl)); (try simp only [Act.put, List.setIfInBounds_toArray, List.set_cons_zero, List.set_cons_succ])))
    refine Lex.done ?_
    refine Lex.ends ?_
    go_wp2_with fail
    go_ret
    have h := reads_from (HRD.out.fr R2.out (by simp)) hle
    rw [if_pos rfl, Nat.sub_self] at h
    refine ⟨_, rfl, ?_, R2.out⟩
    try rw [List.length_drop]
    have h0 : n - ic = 0 := by omega
    rw [h0] at h
    rw [HN.out, HA.out, h0]
    exact h
  case neg =>
    go_enter Tryz.func97, Tryz.ntmps97
    go_upto_region 1 with (fail)
    refine Lex.region [13] [17] (by kernel_rfl) (by kernel_rfl) ?_
    refine Lex.opens (fun w' => w'.cell? ⟨p, 6, none⟩ = some (.slice ia n ic) ∧ w'.cell? ⟨p, 9, none⟩ = some (.pointer (some ⟨z.t, 0, none⟩))) (S1.out) ?_
    repeat (first
      | (refine Lex.skips (by rfl) ?_; (try simp only [Act.put, List.setIfInBounds_toArray, List.set_cons_zero, List.set_cons_succ]))
      | (refine Lex.quiet (v := ?_) (by rfl) (by rfl) ?_ ?_; rotate_left; (focus (intro w' hS'; go_simp; try rfl)); (try simp only [Act.put, List.setIfInBounds_toArray, List.set_cons_zero, List.set_cons_succ])))
    refine Lex.loud (by rfl) (by rfl) ?_
    intro K' hK'
    go_simp
    refine HLF.out.mono ?_
    rintro e w2 ⟨rfl, r2⟩
    have R2 := Lib.hid (R1.out.trans r2)
    have S2 := Lib.hid (SS.out _ R2.out)
    clear r2
    refine hK' _ _ (S2.out) ?_
    clear hK'
    try simp only [Act.put, List.setIfInBounds_toArray, List.set_cons_zero, List.set_cons_succ]
    repeat (first
      | (refine Lex.skips (by rfl) ?_; (try simp only [Act.put, List.setIfInBounds_toArray, List.set_cons_zero, List.set_cons_succ]))
      | (refine Lex.quiet (v := ?_) (by rfl) (by rfl) ?_ ?_; rotate_left; (focus (intro w' hS'; go_simp; try rfl)); (try simp only [Act.put, List.setIfInBounds_toArray, List.set_cons_zero, List.set_cons_succ])))
    refine Lex.done ?_
    refine Lex.ends ?_
    go_wp2_with fail
    go_ret
    have h := reads_from (HRD.out.fr R2.out (by simp)) hle
    rw [if_neg hca, Nat.mul_one] at h
    refine ⟨_, rfl, ?_, R2.out⟩
    try rw [List.length_drop]
    rw [HN.out, HA.out]
    exact h
def sameS (s t : Zp) : Bool := decide (s.f = t.f) && (decide (s.pc = t.pc) && (decide (s.at_ = t.at_) && (decide (s.fuel = t.fuel) && (decide (s.ls = t.ls) && (decide (s.m = t.m) && (decide (s.b = t.b) && (sameO s.ds t.ds s.e t.e && decide (s.inp.drop s.pos = t.inp.drop t.pos))))))))
set_option maxHeartbeats 8000000 in
theorem ssame_ok (w : World) (h : SpAt w O R p s z) (h2 : SpAt w O2 R2 q t y) (hl : s.ds.length ≤ 100000) (hl2 : t.ds.length ≤ 100000) : Calls Tryz.prog 37 #[.pointer (some ⟨p, 0, none⟩), .pointer (some ⟨q, 0, none⟩)] w fun e w' => e = .returned (.bool (sameS s t)) ∧ Fr no w w' := by
  have H := Lib.hid h
  have K := Lib.hid h2
  have HDS := Lib.hid (And.intro hl hl2)
  have HLL := Lib.hid h.ok.ll
  clear h h2 hl hl2
  go_enter Tryz.func37, Tryz.ntmps37
  go_wp2_with fail
  refine (snone_ok w H.out).mono ?_
  rintro e w' ⟨rfl, rfl⟩
  go_wp2_with fail
  refine (snone_ok w K.out).mono ?_
  rintro e w' ⟨rfl, rfl⟩
  go_upto_region 3 with (fail)
  have SS3 : Hid (∀ w', Fr no w w' → (fun w' => w'.cell? ⟨p, 13, none⟩ = some (.int .i64 s.f) ∧ w'.cell? ⟨p, 14, none⟩ = some (.int .i64 s.pc) ∧ w'.cell? ⟨p, 12, none⟩ = some (.int .u64 s.at_) ∧ w'.cell? ⟨p, 15, none⟩ = some z.kv ∧ w'.cell? ⟨q, 13, none⟩ = some (.int .i64 t.f) ∧ w'.cell? ⟨q, 14, none⟩ = some (.int .i64 t.pc) ∧ w'.cell? ⟨q, 12, none⟩ = some (.int .u64 t.at_) ∧ w'.cell? ⟨q, 15, none⟩ = some y.kv) w') := Lib.hid (fun w' r => by
    have ho := r.heap H.out.obj (by simp)
    have ho2 := r.heap K.out.obj (by simp)
    exact ⟨cell_of_heap ho rfl, cell_of_heap ho rfl, cell_of_heap ho rfl, cell_of_heap ho rfl, cell_of_heap ho2 rfl, cell_of_heap ho2 rfl, cell_of_heap ho2 rfl, cell_of_heap ho2 rfl⟩)
  have SS4 : Hid (∀ w', Fr no w w' → (fun w' => w'.cell? ⟨p, 8, none⟩ = some (.pointer (some ⟨z.q, 0, none⟩)) ∧ At w' p 4 [.slice z.da s.m.d.length z.dc, .slice z.fa s.m.f.length z.fc] ∧ w'.cell? ⟨q, 8, none⟩ = some (.pointer (some ⟨y.q, 0, none⟩)) ∧ At w' q 4 [.slice y.da t.m.d.length y.dc, .slice y.fa t.m.f.length y.fc]) w') := Lib.hid (fun w' r => by
    have ho := r.heap H.out.obj (by simp)
    have ho2 := r.heap K.out.obj (by simp)
    exact ⟨cell_of_heap ho rfl, at_mid ho (fun j v hj => by
        match j, hj with
        | 0, h => cases h; rfl
        | 1, h => cases h; rfl), cell_of_heap ho2 rfl, at_mid ho2 (fun j v hj => by
        match j, hj with
        | 0, h => cases h; rfl
        | 1, h => cases h; rfl)⟩)
  have R3 := Lib.hid (Fr.refl no w).drew
  have S3 := Lib.hid (SS3.out _ R3.out)
  have H3 := Lib.hid (H.out.fr R3.out)
  have K3 := Lib.hid (K.out.fr R3.out)
  by_cases h0 : s.f = t.f
  case neg =>
    have e0 : ((s.f : Int) == (t.f : Int)) = false := beq_eq_false_iff_ne.2 (by omega)
    have HQ : Hid (sameS s t = false) := Lib.hid (by simp [sameS, h0])
    clear h0
    refine Lex.region [33, 35, 47] [50] (by kernel_rfl) (by kernel_rfl) ?_
    refine Lex.opens (fun w' => w'.cell? ⟨p, 13, none⟩ = some (.int .i64 s.f) ∧ w'.cell? ⟨p, 14, none⟩ = some (.int .i64 s.pc) ∧ w'.cell? ⟨p, 12, none⟩ = some (.int .u64 s.at_) ∧ w'.cell? ⟨p, 15, none⟩ = some z.kv ∧ w'.cell? ⟨q, 13, none⟩ = some (.int .i64 t.f) ∧ w'.cell? ⟨q, 14, none⟩ = some (.int .i64 t.pc) ∧ w'.cell? ⟨q, 12, none⟩ = some (.int .u64 t.at_) ∧ w'.cell? ⟨q, 15, none⟩ = some y.kv) (S3.out) ?_
    repeat (first
      | (refine Lex.skips (by rfl) ?_; (try simp only [Act.put, List.setIfInBounds_toArray, List.set_cons_zero, List.set_cons_succ]))
      | (refine Lex.quiet (v := ?_) (by rfl) (by rfl) ?_ ?_; rotate_left; (focus (intro w' hS'; go_simp; try rfl)); (try simp only [Act.put, List.setIfInBounds_toArray, List.set_cons_zero, List.set_cons_succ])))
    have R4 := R3
    refine Lex.done ?_
    refine Lex.ends ?_
    go_wp2_with fail
    go_upto_region 4 with (fail)
    have R5 := Lib.hid (R4.out.trans (Fr.refl no _).drew)
    have S5 := Lib.hid (SS4.out _ R5.out)
    refine Lex.region [10, 21, 25, 27, 28, 32, 34, 35] [38] (by kernel_rfl) (by kernel_rfl) ?_
    refine Lex.opens (fun w' => w'.cell? ⟨p, 8, none⟩ = some (.pointer (some ⟨z.q, 0, none⟩)) ∧ At w' p 4 [.slice z.da s.m.d.length z.dc, .slice z.fa s.m.f.length z.fc] ∧ w'.cell? ⟨q, 8, none⟩ = some (.pointer (some ⟨y.q, 0, none⟩)) ∧ At w' q 4 [.slice y.da t.m.d.length y.dc, .slice y.fa t.m.f.length y.fc]) (S5.out) ?_
    repeat (first
      | (refine Lex.skips (by rfl) ?_; (try simp only [Act.put, List.setIfInBounds_toArray, List.set_cons_zero, List.set_cons_succ]))
      | (refine Lex.quiet (v := ?_) (by rfl) (by rfl) ?_ ?_; rotate_left; (focus (intro w' hS'; go_simp; try rfl)); (try simp only [Act.put, List.setIfInBounds_toArray, List.set_cons_zero, List.set_cons_succ])))
    refine Lex.done ?_
    refine Lex.ends ?_
    go_wp2_with fail
    go_ret
    exact ⟨by rw [HQ.out]; rfl, R5.out⟩
  have e0 : ((s.f : Int) == (t.f : Int)) = true := beq_iff_eq.2 (by omega)
  have G0 := Lib.hid h0
  clear h0
  by_cases h1 : s.pc = t.pc
  case neg =>
    have e1 : (s.pc == t.pc) = false := beq_eq_false_iff_ne.2 (by omega)
    have HQ : Hid (sameS s t = false) := Lib.hid (by simp [sameS, h1])
    clear h1
    refine Lex.region [33, 35, 47] [50] (by kernel_rfl) (by kernel_rfl) ?_
    refine Lex.opens (fun w' => w'.cell? ⟨p, 13, none⟩ = some (.int .i64 s.f) ∧ w'.cell? ⟨p, 14, none⟩ = some (.int .i64 s.pc) ∧ w'.cell? ⟨p, 12, none⟩ = some (.int .u64 s.at_) ∧ w'.cell? ⟨p, 15, none⟩ = some z.kv ∧ w'.cell? ⟨q, 13, none⟩ = some (.int .i64 t.f) ∧ w'.cell? ⟨q, 14, none⟩ = some (.int .i64 t.pc) ∧ w'.cell? ⟨q, 12, none⟩ = some (.int .u64 t.at_) ∧ w'.cell? ⟨q, 15, none⟩ = some y.kv) (S3.out) ?_
    repeat (first
      | (refine Lex.skips (by rfl) ?_; (try simp only [Act.put, List.setIfInBounds_toArray, List.set_cons_zero, List.set_cons_succ]))
      | (refine Lex.quiet (v := ?_) (by rfl) (by rfl) ?_ ?_; rotate_left; (focus (intro w' hS'; go_simp; try rfl)); (try simp only [Act.put, List.setIfInBounds_toArray, List.set_cons_zero, List.set_cons_succ])))
    have R4 := R3
    refine Lex.done ?_
    refine Lex.ends ?_
    go_wp2_with fail
    go_upto_region 4 with (fail)
    have R5 := Lib.hid (R4.out.trans (Fr.refl no _).drew)
    have S5 := Lib.hid (SS4.out _ R5.out)
    refine Lex.region [10, 21, 25, 27, 28, 32, 34, 35] [38] (by kernel_rfl) (by kernel_rfl) ?_
    refine Lex.opens (fun w' => w'.cell? ⟨p, 8, none⟩ = some (.pointer (some ⟨z.q, 0, none⟩)) ∧ At w' p 4 [.slice z.da s.m.d.length z.dc, .slice z.fa s.m.f.length z.fc] ∧ w'.cell? ⟨q, 8, none⟩ = some (.pointer (some ⟨y.q, 0, none⟩)) ∧ At w' q 4 [.slice y.da t.m.d.length y.dc, .slice y.fa t.m.f.length y.fc]) (S5.out) ?_
    repeat (first
      | (refine Lex.skips (by rfl) ?_; (try simp only [Act.put, List.setIfInBounds_toArray, List.set_cons_zero, List.set_cons_succ]))
      | (refine Lex.quiet (v := ?_) (by rfl) (by rfl) ?_ ?_; rotate_left; (focus (intro w' hS'; go_simp; try rfl)); (try simp only [Act.put, List.setIfInBounds_toArray, List.set_cons_zero, List.set_cons_succ])))
    refine Lex.done ?_
    refine Lex.ends ?_
    go_wp2_with fail
    go_ret
    exact ⟨by rw [HQ.out]; rfl, R5.out⟩
  have e1 : (s.pc == t.pc) = true := beq_iff_eq.2 (by omega)
  have G1 := Lib.hid h1
  clear h1
  by_cases h2 : s.at_ = t.at_
  case neg =>
    have e2 : ((s.at_ : Int) == (t.at_ : Int)) = false := beq_eq_false_iff_ne.2 (by omega)
    have HQ : Hid (sameS s t = false) := Lib.hid (by simp [sameS, h2])
    clear h2
    refine Lex.region [33, 35, 47] [50] (by kernel_rfl) (by kernel_rfl) ?_
    refine Lex.opens (fun w' => w'.cell? ⟨p, 13, none⟩ = some (.int .i64 s.f) ∧ w'.cell? ⟨p, 14, none⟩ = some (.int .i64 s.pc) ∧ w'.cell? ⟨p, 12, none⟩ = some (.int .u64 s.at_) ∧ w'.cell? ⟨p, 15, none⟩ = some z.kv ∧ w'.cell? ⟨q, 13, none⟩ = some (.int .i64 t.f) ∧ w'.cell? ⟨q, 14, none⟩ = some (.int .i64 t.pc) ∧ w'.cell? ⟨q, 12, none⟩ = some (.int .u64 t.at_) ∧ w'.cell? ⟨q, 15, none⟩ = some y.kv) (S3.out) ?_
    repeat (first
      | (refine Lex.skips (by rfl) ?_; (try simp only [Act.put, List.setIfInBounds_toArray, List.set_cons_zero, List.set_cons_succ]))
      | (refine Lex.quiet (v := ?_) (by rfl) (by rfl) ?_ ?_; rotate_left; (focus (intro w' hS'; go_simp; try rfl)); (try simp only [Act.put, List.setIfInBounds_toArray, List.set_cons_zero, List.set_cons_succ])))
    have R4 := R3
    refine Lex.done ?_
    refine Lex.ends ?_
    go_wp2_with fail
    go_upto_region 4 with (fail)
    have R5 := Lib.hid (R4.out.trans (Fr.refl no _).drew)
    have S5 := Lib.hid (SS4.out _ R5.out)
    refine Lex.region [10, 21, 25, 27, 28, 32, 34, 35] [38] (by kernel_rfl) (by kernel_rfl) ?_
    refine Lex.opens (fun w' => w'.cell? ⟨p, 8, none⟩ = some (.pointer (some ⟨z.q, 0, none⟩)) ∧ At w' p 4 [.slice z.da s.m.d.length z.dc, .slice z.fa s.m.f.length z.fc] ∧ w'.cell? ⟨q, 8, none⟩ = some (.pointer (some ⟨y.q, 0, none⟩)) ∧ At w' q 4 [.slice y.da t.m.d.length y.dc, .slice y.fa t.m.f.length y.fc]) (S5.out) ?_
    repeat (first
      | (refine Lex.skips (by rfl) ?_; (try simp only [Act.put, List.setIfInBounds_toArray, List.set_cons_zero, List.set_cons_succ]))
      | (refine Lex.quiet (v := ?_) (by rfl) (by rfl) ?_ ?_; rotate_left; (focus (intro w' hS'; go_simp; try rfl)); (try simp only [Act.put, List.setIfInBounds_toArray, List.set_cons_zero, List.set_cons_succ])))
    refine Lex.done ?_
    refine Lex.ends ?_
    go_wp2_with fail
    go_ret
    exact ⟨by rw [HQ.out]; rfl, R5.out⟩
  have e2 : ((s.at_ : Int) == (t.at_ : Int)) = true := beq_iff_eq.2 (by omega)
  have G2 := Lib.hid h2
  clear h2
  by_cases h3 : s.fuel = t.fuel
  case neg =>
    have e3 : (s.fuel == t.fuel) = false := beq_eq_false_iff_ne.2 (by omega)
    have HQ : Hid (sameS s t = false) := Lib.hid (by simp [sameS, h3])
    clear h3
    refine Lex.region [33, 35, 47] [50] (by kernel_rfl) (by kernel_rfl) ?_
    refine Lex.opens (fun w' => w'.cell? ⟨p, 13, none⟩ = some (.int .i64 s.f) ∧ w'.cell? ⟨p, 14, none⟩ = some (.int .i64 s.pc) ∧ w'.cell? ⟨p, 12, none⟩ = some (.int .u64 s.at_) ∧ w'.cell? ⟨p, 15, none⟩ = some z.kv ∧ w'.cell? ⟨q, 13, none⟩ = some (.int .i64 t.f) ∧ w'.cell? ⟨q, 14, none⟩ = some (.int .i64 t.pc) ∧ w'.cell? ⟨q, 12, none⟩ = some (.int .u64 t.at_) ∧ w'.cell? ⟨q, 15, none⟩ = some y.kv) (S3.out) ?_
    repeat (first
      | (refine Lex.skips (by rfl) ?_; (try simp only [Act.put, List.setIfInBounds_toArray, List.set_cons_zero, List.set_cons_succ]))
      | (refine Lex.quiet (v := ?_) (by rfl) (by rfl) ?_ ?_; rotate_left; (focus (intro w' hS'; go_simp; try rfl)); (try simp only [Act.put, List.setIfInBounds_toArray, List.set_cons_zero, List.set_cons_succ])))
    refine Lex.loud (by rfl) (by rfl) ?_
    intro K' hK'
    go_simp
    refine (sfuel_ok _ H3.out).mono ?_
    rintro e w' ⟨rfl, rfl⟩
    refine hK' _ _ (S3.out) ?_
    clear hK'
    try simp only [Act.put, List.setIfInBounds_toArray, List.set_cons_zero, List.set_cons_succ]
    repeat (first
      | (refine Lex.skips (by rfl) ?_; (try simp only [Act.put, List.setIfInBounds_toArray, List.set_cons_zero, List.set_cons_succ]))
      | (refine Lex.quiet (v := ?_) (by rfl) (by rfl) ?_ ?_; rotate_left; (focus (intro w' hS'; go_simp; try rfl)); (try simp only [Act.put, List.setIfInBounds_toArray, List.set_cons_zero, List.set_cons_succ])))
    refine Lex.loud (by rfl) (by rfl) ?_
    intro K' hK'
    go_simp
    refine (sfuel_ok _ K3.out).mono ?_
    rintro e w' ⟨rfl, rfl⟩
    refine hK' _ _ (S3.out) ?_
    clear hK'
    try simp only [Act.put, List.setIfInBounds_toArray, List.set_cons_zero, List.set_cons_succ]
    repeat (first
      | (refine Lex.skips (by rfl) ?_; (try simp only [Act.put, List.setIfInBounds_toArray, List.set_cons_zero, List.set_cons_succ]))
      | (refine Lex.quiet (v := ?_) (by rfl) (by rfl) ?_ ?_; rotate_left; (focus (intro w' hS'; go_simp; try rfl)); (try simp only [Act.put, List.setIfInBounds_toArray, List.set_cons_zero, List.set_cons_succ])))
    have R4 := R3
    refine Lex.done ?_
    refine Lex.ends ?_
    go_wp2_with fail
    go_upto_region 4 with (fail)
    have R5 := Lib.hid (R4.out.trans (Fr.refl no _).drew)
    have S5 := Lib.hid (SS4.out _ R5.out)
    refine Lex.region [10, 21, 25, 27, 28, 32, 34, 35] [38] (by kernel_rfl) (by kernel_rfl) ?_
    refine Lex.opens (fun w' => w'.cell? ⟨p, 8, none⟩ = some (.pointer (some ⟨z.q, 0, none⟩)) ∧ At w' p 4 [.slice z.da s.m.d.length z.dc, .slice z.fa s.m.f.length z.fc] ∧ w'.cell? ⟨q, 8, none⟩ = some (.pointer (some ⟨y.q, 0, none⟩)) ∧ At w' q 4 [.slice y.da t.m.d.length y.dc, .slice y.fa t.m.f.length y.fc]) (S5.out) ?_
    repeat (first
      | (refine Lex.skips (by rfl) ?_; (try simp only [Act.put, List.setIfInBounds_toArray, List.set_cons_zero, List.set_cons_succ]))
      | (refine Lex.quiet (v := ?_) (by rfl) (by rfl) ?_ ?_; rotate_left; (focus (intro w' hS'; go_simp; try rfl)); (try simp only [Act.put, List.setIfInBounds_toArray, List.set_cons_zero, List.set_cons_succ])))
    refine Lex.done ?_
    refine Lex.ends ?_
    go_wp2_with fail
    go_ret
    exact ⟨by rw [HQ.out]; rfl, R5.out⟩
  have e3 : (s.fuel == t.fuel) = true := beq_iff_eq.2 (by omega)
  have G3 := Lib.hid h3
  clear h3
  by_cases h4 : s.ls = t.ls
  case neg =>
    have E4 : Hid (decide (s.ls = t.ls) = false) := Lib.hid (decide_eq_false h4)
    have HQ : Hid (sameS s t = false) := Lib.hid (by simp [sameS, h4])
    clear h4
    refine Lex.region [33, 35, 47] [50] (by kernel_rfl) (by kernel_rfl) ?_
    refine Lex.opens (fun w' => w'.cell? ⟨p, 13, none⟩ = some (.int .i64 s.f) ∧ w'.cell? ⟨p, 14, none⟩ = some (.int .i64 s.pc) ∧ w'.cell? ⟨p, 12, none⟩ = some (.int .u64 s.at_) ∧ w'.cell? ⟨p, 15, none⟩ = some z.kv ∧ w'.cell? ⟨q, 13, none⟩ = some (.int .i64 t.f) ∧ w'.cell? ⟨q, 14, none⟩ = some (.int .i64 t.pc) ∧ w'.cell? ⟨q, 12, none⟩ = some (.int .u64 t.at_) ∧ w'.cell? ⟨q, 15, none⟩ = some y.kv) (S3.out) ?_
    repeat (first
      | (refine Lex.skips (by rfl) ?_; (try simp only [Act.put, List.setIfInBounds_toArray, List.set_cons_zero, List.set_cons_succ]))
      | (refine Lex.quiet (v := ?_) (by rfl) (by rfl) ?_ ?_; rotate_left; (focus (intro w' hS'; go_simp; try rfl)); (try simp only [Act.put, List.setIfInBounds_toArray, List.set_cons_zero, List.set_cons_succ])))
    refine Lex.loud (by rfl) (by rfl) ?_
    intro K' hK'
    go_simp
    refine (sfuel_ok _ H3.out).mono ?_
    rintro e w' ⟨rfl, rfl⟩
    refine hK' _ _ (S3.out) ?_
    clear hK'
    try simp only [Act.put, List.setIfInBounds_toArray, List.set_cons_zero, List.set_cons_succ]
    repeat (first
      | (refine Lex.skips (by rfl) ?_; (try simp only [Act.put, List.setIfInBounds_toArray, List.set_cons_zero, List.set_cons_succ]))
      | (refine Lex.quiet (v := ?_) (by rfl) (by rfl) ?_ ?_; rotate_left; (focus (intro w' hS'; go_simp; try rfl)); (try simp only [Act.put, List.setIfInBounds_toArray, List.set_cons_zero, List.set_cons_succ])))
    refine Lex.loud (by rfl) (by rfl) ?_
    intro K' hK'
    go_simp
    refine (sfuel_ok _ K3.out).mono ?_
    rintro e w' ⟨rfl, rfl⟩
    refine hK' _ _ (S3.out) ?_
    clear hK'
    try simp only [Act.put, List.setIfInBounds_toArray, List.set_cons_zero, List.set_cons_succ]
    repeat (first
      | (refine Lex.skips (by rfl) ?_; (try simp only [Act.put, List.setIfInBounds_toArray, List.set_cons_zero, List.set_cons_succ]))
      | (refine Lex.quiet (v := ?_) (by rfl) (by rfl) ?_ ?_; rotate_left; (focus (intro w' hS'; go_simp; try rfl)); (try simp only [Act.put, List.setIfInBounds_toArray, List.set_cons_zero, List.set_cons_succ])))
    refine Lex.loud (by rfl) (by rfl) ?_
    intro K' hK'
    go_simp
    refine (eqlinks_ok w.drew _ _ s.ls t.ls (owns_reads H3.out.links) (owns_reads K3.out.links) (by have := HLL.out; omega)).mono ?_
    rintro e w4 ⟨rfl, r4⟩
    rw [E4.out]
    have R4 := Lib.hid (R3.out.trans r4)
    have S4 := Lib.hid (SS3.out _ R4.out)
    clear r4
    refine hK' _ _ (S4.out) ?_
    clear hK'
    try simp only [Act.put, List.setIfInBounds_toArray, List.set_cons_zero, List.set_cons_succ]
    repeat (first
      | (refine Lex.skips (by rfl) ?_; (try simp only [Act.put, List.setIfInBounds_toArray, List.set_cons_zero, List.set_cons_succ]))
      | (refine Lex.quiet (v := ?_) (by rfl) (by rfl) ?_ ?_; rotate_left; (focus (intro w' hS'; go_simp; try rfl)); (try simp only [Act.put, List.setIfInBounds_toArray, List.set_cons_zero, List.set_cons_succ])))
    refine Lex.done ?_
    refine Lex.ends ?_
    go_wp2_with fail
    go_upto_region 4 with (fail)
    have R5 := Lib.hid (R4.out.trans (Fr.refl no _).drew)
    have S5 := Lib.hid (SS4.out _ R5.out)
    refine Lex.region [10, 21, 25, 27, 28, 32, 34, 35] [38] (by kernel_rfl) (by kernel_rfl) ?_
    refine Lex.opens (fun w' => w'.cell? ⟨p, 8, none⟩ = some (.pointer (some ⟨z.q, 0, none⟩)) ∧ At w' p 4 [.slice z.da s.m.d.length z.dc, .slice z.fa s.m.f.length z.fc] ∧ w'.cell? ⟨q, 8, none⟩ = some (.pointer (some ⟨y.q, 0, none⟩)) ∧ At w' q 4 [.slice y.da t.m.d.length y.dc, .slice y.fa t.m.f.length y.fc]) (S5.out) ?_
    repeat (first
      | (refine Lex.skips (by rfl) ?_; (try simp only [Act.put, List.setIfInBounds_toArray, List.set_cons_zero, List.set_cons_succ]))
      | (refine Lex.quiet (v := ?_) (by rfl) (by rfl) ?_ ?_; rotate_left; (focus (intro w' hS'; go_simp; try rfl)); (try simp only [Act.put, List.setIfInBounds_toArray, List.set_cons_zero, List.set_cons_succ])))
    refine Lex.done ?_
    refine Lex.ends ?_
    go_wp2_with fail
    go_ret
    exact ⟨by rw [HQ.out]; rfl, R5.out⟩
  have E4 : Hid (decide (s.ls = t.ls) = true) := Lib.hid (decide_eq_true h4)
  clear h4
  by_cases h5 : s.m = t.m
  case neg =>
    have E5 : Hid (decide (s.m = t.m) = false) := Lib.hid (decide_eq_false h5)
    have HQ : Hid (sameS s t = false) := Lib.hid (by simp [sameS, h5])
    clear h5
    refine Lex.region [33, 35, 47] [50] (by kernel_rfl) (by kernel_rfl) ?_
    refine Lex.opens (fun w' => w'.cell? ⟨p, 13, none⟩ = some (.int .i64 s.f) ∧ w'.cell? ⟨p, 14, none⟩ = some (.int .i64 s.pc) ∧ w'.cell? ⟨p, 12, none⟩ = some (.int .u64 s.at_) ∧ w'.cell? ⟨p, 15, none⟩ = some z.kv ∧ w'.cell? ⟨q, 13, none⟩ = some (.int .i64 t.f) ∧ w'.cell? ⟨q, 14, none⟩ = some (.int .i64 t.pc) ∧ w'.cell? ⟨q, 12, none⟩ = some (.int .u64 t.at_) ∧ w'.cell? ⟨q, 15, none⟩ = some y.kv) (S3.out) ?_
    repeat (first
      | (refine Lex.skips (by rfl) ?_; (try simp only [Act.put, List.setIfInBounds_toArray, List.set_cons_zero, List.set_cons_succ]))
      | (refine Lex.quiet (v := ?_) (by rfl) (by rfl) ?_ ?_; rotate_left; (focus (intro w' hS'; go_simp; try rfl)); (try simp only [Act.put, List.setIfInBounds_toArray, List.set_cons_zero, List.set_cons_succ])))
    refine Lex.loud (by rfl) (by rfl) ?_
    intro K' hK'
    go_simp
    refine (sfuel_ok _ H3.out).mono ?_
    rintro e w' ⟨rfl, rfl⟩
    refine hK' _ _ (S3.out) ?_
    clear hK'
    try simp only [Act.put, List.setIfInBounds_toArray, List.set_cons_zero, List.set_cons_succ]
    repeat (first
      | (refine Lex.skips (by rfl) ?_; (try simp only [Act.put, List.setIfInBounds_toArray, List.set_cons_zero, List.set_cons_succ]))
      | (refine Lex.quiet (v := ?_) (by rfl) (by rfl) ?_ ?_; rotate_left; (focus (intro w' hS'; go_simp; try rfl)); (try simp only [Act.put, List.setIfInBounds_toArray, List.set_cons_zero, List.set_cons_succ])))
    refine Lex.loud (by rfl) (by rfl) ?_
    intro K' hK'
    go_simp
    refine (sfuel_ok _ K3.out).mono ?_
    rintro e w' ⟨rfl, rfl⟩
    refine hK' _ _ (S3.out) ?_
    clear hK'
    try simp only [Act.put, List.setIfInBounds_toArray, List.set_cons_zero, List.set_cons_succ]
    repeat (first
      | (refine Lex.skips (by rfl) ?_; (try simp only [Act.put, List.setIfInBounds_toArray, List.set_cons_zero, List.set_cons_succ]))
      | (refine Lex.quiet (v := ?_) (by rfl) (by rfl) ?_ ?_; rotate_left; (focus (intro w' hS'; go_simp; try rfl)); (try simp only [Act.put, List.setIfInBounds_toArray, List.set_cons_zero, List.set_cons_succ])))
    refine Lex.loud (by rfl) (by rfl) ?_
    intro K' hK'
    go_simp
    refine (eqlinks_ok w.drew _ _ s.ls t.ls (owns_reads H3.out.links) (owns_reads K3.out.links) (by have := HLL.out; omega)).mono ?_
    rintro e w4 ⟨rfl, r4⟩
    rw [E4.out]
    have R4 := Lib.hid (R3.out.trans r4)
    have S4 := Lib.hid (SS3.out _ R4.out)
    clear r4
    refine hK' _ _ (S4.out) ?_
    clear hK'
    try simp only [Act.put, List.setIfInBounds_toArray, List.set_cons_zero, List.set_cons_succ]
    repeat (first
      | (refine Lex.skips (by rfl) ?_; (try simp only [Act.put, List.setIfInBounds_toArray, List.set_cons_zero, List.set_cons_succ]))
      | (refine Lex.quiet (v := ?_) (by rfl) (by rfl) ?_ ?_; rotate_left; (focus (intro w' hS'; go_simp; try rfl)); (try simp only [Act.put, List.setIfInBounds_toArray, List.set_cons_zero, List.set_cons_succ])))
    refine Lex.done ?_
    refine Lex.ends ?_
    go_wp2_with fail
    go_upto_region 4 with (fail)
    have R5 := Lib.hid (R4.out.trans (Fr.refl no _).drew)
    have S5 := Lib.hid (SS4.out _ R5.out)
    have H5 := Lib.hid (H.out.fr R5.out)
    have K5 := Lib.hid (K.out.fr R5.out)
    refine Lex.region [10, 21, 25, 27, 28, 32, 34, 35] [38] (by kernel_rfl) (by kernel_rfl) ?_
    refine Lex.opens (fun w' => w'.cell? ⟨p, 8, none⟩ = some (.pointer (some ⟨z.q, 0, none⟩)) ∧ At w' p 4 [.slice z.da s.m.d.length z.dc, .slice z.fa s.m.f.length z.fc] ∧ w'.cell? ⟨q, 8, none⟩ = some (.pointer (some ⟨y.q, 0, none⟩)) ∧ At w' q 4 [.slice y.da t.m.d.length y.dc, .slice y.fa t.m.f.length y.fc]) (S5.out) ?_
    repeat (first
      | (refine Lex.skips (by rfl) ?_; (try simp only [Act.put, List.setIfInBounds_toArray, List.set_cons_zero, List.set_cons_succ]))
      | (refine Lex.into (by rfl) (by rfl) _ _ rfl _ _ rfl _ _ ((fun _ h => h.2.1)) Tryz.underlying25 rfl (by rw [Tryz.infoMod]; rfl) ?_; (try simp only [Act.put, List.setIfInBounds_toArray, List.set_cons_zero, List.set_cons_succ]))
      | (refine Lex.into (by rfl) (by rfl) _ _ rfl _ _ rfl _ _ ((fun _ h => h.2.2.2)) Tryz.underlying25 rfl (by rw [Tryz.infoMod]; rfl) ?_; (try simp only [Act.put, List.setIfInBounds_toArray, List.set_cons_zero, List.set_cons_succ]))
      | (refine Lex.quiet (v := ?_) (by rfl) (by rfl) ?_ ?_; rotate_left; (focus (intro w' hS'; go_simp; try rfl)); (try simp only [Act.put, List.setIfInBounds_toArray, List.set_cons_zero, List.set_cons_succ])))
    refine Lex.loud (by rfl) (by rfl) ?_
    intro K' hK'
    go_simp
    refine (samemod_ok _ s.m t.m z.da z.fa y.da y.fa z.dc z.fc y.dc y.fc H5.out.tabs K5.out.tabs H5.out.ok.sm K5.out.ok.sm).mono ?_
    rintro e w6 ⟨rfl, r6⟩
    rw [E5.out]
    have R6 := Lib.hid (R5.out.trans r6)
    have S6 := Lib.hid (SS4.out _ R6.out)
    clear r6
    refine hK' _ _ (S6.out) ?_
    clear hK'
    try simp only [Act.put, List.setIfInBounds_toArray, List.set_cons_zero, List.set_cons_succ]
    repeat (first
      | (refine Lex.skips (by rfl) ?_; (try simp only [Act.put, List.setIfInBounds_toArray, List.set_cons_zero, List.set_cons_succ]))
      | (refine Lex.into (by rfl) (by rfl) _ _ rfl _ _ rfl _ _ ((fun _ h => h.2.1)) Tryz.underlying25 rfl (by rw [Tryz.infoMod]; rfl) ?_; (try simp only [Act.put, List.setIfInBounds_toArray, List.set_cons_zero, List.set_cons_succ]))
      | (refine Lex.into (by rfl) (by rfl) _ _ rfl _ _ rfl _ _ ((fun _ h => h.2.2.2)) Tryz.underlying25 rfl (by rw [Tryz.infoMod]; rfl) ?_; (try simp only [Act.put, List.setIfInBounds_toArray, List.set_cons_zero, List.set_cons_succ]))
      | (refine Lex.quiet (v := ?_) (by rfl) (by rfl) ?_ ?_; rotate_left; (focus (intro w' hS'; go_simp; try rfl)); (try simp only [Act.put, List.setIfInBounds_toArray, List.set_cons_zero, List.set_cons_succ])))
    refine Lex.done ?_
    refine Lex.ends ?_
    go_wp2_with fail
    go_ret
    exact ⟨by rw [HQ.out]; rfl, R6.out⟩
  have E5 : Hid (decide (s.m = t.m) = true) := Lib.hid (decide_eq_true h5)
  clear h5
  by_cases h6 : s.b = t.b
  case neg =>
    have E6 : Hid (decide (s.b = t.b) = false) := Lib.hid (decide_eq_false h6)
    have HQ : Hid (sameS s t = false) := Lib.hid (by simp [sameS, h6])
    clear h6
    refine Lex.region [33, 35, 47] [50] (by kernel_rfl) (by kernel_rfl) ?_
    refine Lex.opens (fun w' => w'.cell? ⟨p, 13, none⟩ = some (.int .i64 s.f) ∧ w'.cell? ⟨p, 14, none⟩ = some (.int .i64 s.pc) ∧ w'.cell? ⟨p, 12, none⟩ = some (.int .u64 s.at_) ∧ w'.cell? ⟨p, 15, none⟩ = some z.kv ∧ w'.cell? ⟨q, 13, none⟩ = some (.int .i64 t.f) ∧ w'.cell? ⟨q, 14, none⟩ = some (.int .i64 t.pc) ∧ w'.cell? ⟨q, 12, none⟩ = some (.int .u64 t.at_) ∧ w'.cell? ⟨q, 15, none⟩ = some y.kv) (S3.out) ?_
    repeat (first
      | (refine Lex.skips (by rfl) ?_; (try simp only [Act.put, List.setIfInBounds_toArray, List.set_cons_zero, List.set_cons_succ]))
      | (refine Lex.quiet (v := ?_) (by rfl) (by rfl) ?_ ?_; rotate_left; (focus (intro w' hS'; go_simp; try rfl)); (try simp only [Act.put, List.setIfInBounds_toArray, List.set_cons_zero, List.set_cons_succ])))
    refine Lex.loud (by rfl) (by rfl) ?_
    intro K' hK'
    go_simp
    refine (sfuel_ok _ H3.out).mono ?_
    rintro e w' ⟨rfl, rfl⟩
    refine hK' _ _ (S3.out) ?_
    clear hK'
    try simp only [Act.put, List.setIfInBounds_toArray, List.set_cons_zero, List.set_cons_succ]
    repeat (first
      | (refine Lex.skips (by rfl) ?_; (try simp only [Act.put, List.setIfInBounds_toArray, List.set_cons_zero, List.set_cons_succ]))
      | (refine Lex.quiet (v := ?_) (by rfl) (by rfl) ?_ ?_; rotate_left; (focus (intro w' hS'; go_simp; try rfl)); (try simp only [Act.put, List.setIfInBounds_toArray, List.set_cons_zero, List.set_cons_succ])))
    refine Lex.loud (by rfl) (by rfl) ?_
    intro K' hK'
    go_simp
    refine (sfuel_ok _ K3.out).mono ?_
    rintro e w' ⟨rfl, rfl⟩
    refine hK' _ _ (S3.out) ?_
    clear hK'
    try simp only [Act.put, List.setIfInBounds_toArray, List.set_cons_zero, List.set_cons_succ]
    repeat (first
      | (refine Lex.skips (by rfl) ?_; (try simp only [Act.put, List.setIfInBounds_toArray, List.set_cons_zero, List.set_cons_succ]))
      | (refine Lex.quiet (v := ?_) (by rfl) (by rfl) ?_ ?_; rotate_left; (focus (intro w' hS'; go_simp; try rfl)); (try simp only [Act.put, List.setIfInBounds_toArray, List.set_cons_zero, List.set_cons_succ])))
    refine Lex.loud (by rfl) (by rfl) ?_
    intro K' hK'
    go_simp
    refine (eqlinks_ok w.drew _ _ s.ls t.ls (owns_reads H3.out.links) (owns_reads K3.out.links) (by have := HLL.out; omega)).mono ?_
    rintro e w4 ⟨rfl, r4⟩
    rw [E4.out]
    have R4 := Lib.hid (R3.out.trans r4)
    have S4 := Lib.hid (SS3.out _ R4.out)
    clear r4
    refine hK' _ _ (S4.out) ?_
    clear hK'
    try simp only [Act.put, List.setIfInBounds_toArray, List.set_cons_zero, List.set_cons_succ]
    repeat (first
      | (refine Lex.skips (by rfl) ?_; (try simp only [Act.put, List.setIfInBounds_toArray, List.set_cons_zero, List.set_cons_succ]))
      | (refine Lex.quiet (v := ?_) (by rfl) (by rfl) ?_ ?_; rotate_left; (focus (intro w' hS'; go_simp; try rfl)); (try simp only [Act.put, List.setIfInBounds_toArray, List.set_cons_zero, List.set_cons_succ])))
    refine Lex.done ?_
    refine Lex.ends ?_
    go_wp2_with fail
    go_upto_region 4 with (fail)
    have R5 := Lib.hid (R4.out.trans (Fr.refl no _).drew)
    have S5 := Lib.hid (SS4.out _ R5.out)
    have H5 := Lib.hid (H.out.fr R5.out)
    have K5 := Lib.hid (K.out.fr R5.out)
    refine Lex.region [10, 21, 25, 27, 28, 32, 34, 35] [38] (by kernel_rfl) (by kernel_rfl) ?_
    refine Lex.opens (fun w' => w'.cell? ⟨p, 8, none⟩ = some (.pointer (some ⟨z.q, 0, none⟩)) ∧ At w' p 4 [.slice z.da s.m.d.length z.dc, .slice z.fa s.m.f.length z.fc] ∧ w'.cell? ⟨q, 8, none⟩ = some (.pointer (some ⟨y.q, 0, none⟩)) ∧ At w' q 4 [.slice y.da t.m.d.length y.dc, .slice y.fa t.m.f.length y.fc]) (S5.out) ?_
    repeat (first
      | (refine Lex.skips (by rfl) ?_; (try simp only [Act.put, List.setIfInBounds_toArray, List.set_cons_zero, List.set_cons_succ]))
      | (refine Lex.into (by rfl) (by rfl) _ _ rfl _ _ rfl _ _ ((fun _ h => h.2.1)) Tryz.underlying25 rfl (by rw [Tryz.infoMod]; rfl) ?_; (try simp only [Act.put, List.setIfInBounds_toArray, List.set_cons_zero, List.set_cons_succ]))
      | (refine Lex.into (by rfl) (by rfl) _ _ rfl _ _ rfl _ _ ((fun _ h => h.2.2.2)) Tryz.underlying25 rfl (by rw [Tryz.infoMod]; rfl) ?_; (try simp only [Act.put, List.setIfInBounds_toArray, List.set_cons_zero, List.set_cons_succ]))
      | (refine Lex.quiet (v := ?_) (by rfl) (by rfl) ?_ ?_; rotate_left; (focus (intro w' hS'; go_simp; try rfl)); (try simp only [Act.put, List.setIfInBounds_toArray, List.set_cons_zero, List.set_cons_succ])))
    refine Lex.loud (by rfl) (by rfl) ?_
    intro K' hK'
    go_simp
    refine (samemod_ok _ s.m t.m z.da z.fa y.da y.fa z.dc z.fc y.dc y.fc H5.out.tabs K5.out.tabs H5.out.ok.sm K5.out.ok.sm).mono ?_
    rintro e w6 ⟨rfl, r6⟩
    rw [E5.out]
    have R6 := Lib.hid (R5.out.trans r6)
    have S6 := Lib.hid (SS4.out _ R6.out)
    clear r6
    refine hK' _ _ (S6.out) ?_
    clear hK'
    try simp only [Act.put, List.setIfInBounds_toArray, List.set_cons_zero, List.set_cons_succ]
    repeat (first
      | (refine Lex.skips (by rfl) ?_; (try simp only [Act.put, List.setIfInBounds_toArray, List.set_cons_zero, List.set_cons_succ]))
      | (refine Lex.into (by rfl) (by rfl) _ _ rfl _ _ rfl _ _ ((fun _ h => h.2.1)) Tryz.underlying25 rfl (by rw [Tryz.infoMod]; rfl) ?_; (try simp only [Act.put, List.setIfInBounds_toArray, List.set_cons_zero, List.set_cons_succ]))
      | (refine Lex.into (by rfl) (by rfl) _ _ rfl _ _ rfl _ _ ((fun _ h => h.2.2.2)) Tryz.underlying25 rfl (by rw [Tryz.infoMod]; rfl) ?_; (try simp only [Act.put, List.setIfInBounds_toArray, List.set_cons_zero, List.set_cons_succ]))
      | (refine Lex.quiet (v := ?_) (by rfl) (by rfl) ?_ ?_; rotate_left; (focus (intro w' hS'; go_simp; try rfl)); (try simp only [Act.put, List.setIfInBounds_toArray, List.set_cons_zero, List.set_cons_succ])))
    refine Lex.loud (by rfl) (by rfl) ?_
    intro K' hK'
    go_simp
    refine (msame_ok _ (H.out.fr R6.out).mem (K.out.fr R6.out).mem).mono ?_
    rintro e w7 ⟨rfl, r7⟩
    rw [E6.out]
    have R7 := Lib.hid (R6.out.trans r7)
    have S7 := Lib.hid (SS4.out _ R7.out)
    clear r7
    refine hK' _ _ (S7.out) ?_
    clear hK'
    try simp only [Act.put, List.setIfInBounds_toArray, List.set_cons_zero, List.set_cons_succ]
    repeat (first
      | (refine Lex.skips (by rfl) ?_; (try simp only [Act.put, List.setIfInBounds_toArray, List.set_cons_zero, List.set_cons_succ]))
      | (refine Lex.into (by rfl) (by rfl) _ _ rfl _ _ rfl _ _ ((fun _ h => h.2.1)) Tryz.underlying25 rfl (by rw [Tryz.infoMod]; rfl) ?_; (try simp only [Act.put, List.setIfInBounds_toArray, List.set_cons_zero, List.set_cons_succ]))
      | (refine Lex.into (by rfl) (by rfl) _ _ rfl _ _ rfl _ _ ((fun _ h => h.2.2.2)) Tryz.underlying25 rfl (by rw [Tryz.infoMod]; rfl) ?_; (try simp only [Act.put, List.setIfInBounds_toArray, List.set_cons_zero, List.set_cons_succ]))
      | (refine Lex.quiet (v := ?_) (by rfl) (by rfl) ?_ ?_; rotate_left; (focus (intro w' hS'; go_simp; try rfl)); (try simp only [Act.put, List.setIfInBounds_toArray, List.set_cons_zero, List.set_cons_succ])))
    refine Lex.done ?_
    refine Lex.ends ?_
    go_wp2_with fail
    go_ret
    exact ⟨by rw [HQ.out]; rfl, R7.out⟩
  have E6 : Hid (decide (s.b = t.b) = true) := Lib.hid (decide_eq_true h6)
  clear h6
  cases h7 : sameO s.ds t.ds s.e t.e
  case false =>
    have E7 : Hid (sameO s.ds t.ds (s.e.1, s.e.2) (t.e.1, t.e.2) = false) := Lib.hid h7
    have HQ : Hid (sameS s t = false) := Lib.hid (by simp [sameS, h7])
    clear h7
    refine Lex.region [33, 35, 47] [50] (by kernel_rfl) (by kernel_rfl) ?_
    refine Lex.opens (fun w' => w'.cell? ⟨p, 13, none⟩ = some (.int .i64 s.f) ∧ w'.cell? ⟨p, 14, none⟩ = some (.int .i64 s.pc) ∧ w'.cell? ⟨p, 12, none⟩ = some (.int .u64 s.at_) ∧ w'.cell? ⟨p, 15, none⟩ = some z.kv ∧ w'.cell? ⟨q, 13, none⟩ = some (.int .i64 t.f) ∧ w'.cell? ⟨q, 14, none⟩ = some (.int .i64 t.pc) ∧ w'.cell? ⟨q, 12, none⟩ = some (.int .u64 t.at_) ∧ w'.cell? ⟨q, 15, none⟩ = some y.kv) (S3.out) ?_
    repeat (first
      | (refine Lex.skips (by rfl) ?_; (try simp only [Act.put, List.setIfInBounds_toArray, List.set_cons_zero, List.set_cons_succ]))
      | (refine Lex.quiet (v := ?_) (by rfl) (by rfl) ?_ ?_; rotate_left; (focus (intro w' hS'; go_simp; try rfl)); (try simp only [Act.put, List.setIfInBounds_toArray, List.set_cons_zero, List.set_cons_succ])))
    refine Lex.loud (by rfl) (by rfl) ?_
    intro K' hK'
    go_simp
    refine (sfuel_ok _ H3.out).mono ?_
    rintro e w' ⟨rfl, rfl⟩
    refine hK' _ _ (S3.out) ?_
    clear hK'
    try simp only [Act.put, List.setIfInBounds_toArray, List.set_cons_zero, List.set_cons_succ]
    repeat (first
      | (refine Lex.skips (by rfl) ?_; (try simp only [Act.put, List.setIfInBounds_toArray, List.set_cons_zero, List.set_cons_succ]))
      | (refine Lex.quiet (v := ?_) (by rfl) (by rfl) ?_ ?_; rotate_left; (focus (intro w' hS'; go_simp; try rfl)); (try simp only [Act.put, List.setIfInBounds_toArray, List.set_cons_zero, List.set_cons_succ])))
    refine Lex.loud (by rfl) (by rfl) ?_
    intro K' hK'
    go_simp
    refine (sfuel_ok _ K3.out).mono ?_
    rintro e w' ⟨rfl, rfl⟩
    refine hK' _ _ (S3.out) ?_
    clear hK'
    try simp only [Act.put, List.setIfInBounds_toArray, List.set_cons_zero, List.set_cons_succ]
    repeat (first
      | (refine Lex.skips (by rfl) ?_; (try simp only [Act.put, List.setIfInBounds_toArray, List.set_cons_zero, List.set_cons_succ]))
      | (refine Lex.quiet (v := ?_) (by rfl) (by rfl) ?_ ?_; rotate_left; (focus (intro w' hS'; go_simp; try rfl)); (try simp only [Act.put, List.setIfInBounds_toArray, List.set_cons_zero, List.set_cons_succ])))
    refine Lex.loud (by rfl) (by rfl) ?_
    intro K' hK'
    go_simp
    refine (eqlinks_ok w.drew _ _ s.ls t.ls (owns_reads H3.out.links) (owns_reads K3.out.links) (by have := HLL.out; omega)).mono ?_
    rintro e w4 ⟨rfl, r4⟩
    rw [E4.out]
    have R4 := Lib.hid (R3.out.trans r4)
    have S4 := Lib.hid (SS3.out _ R4.out)
    clear r4
    refine hK' _ _ (S4.out) ?_
    clear hK'
    try simp only [Act.put, List.setIfInBounds_toArray, List.set_cons_zero, List.set_cons_succ]
    repeat (first
      | (refine Lex.skips (by rfl) ?_; (try simp only [Act.put, List.setIfInBounds_toArray, List.set_cons_zero, List.set_cons_succ]))
      | (refine Lex.quiet (v := ?_) (by rfl) (by rfl) ?_ ?_; rotate_left; (focus (intro w' hS'; go_simp; try rfl)); (try simp only [Act.put, List.setIfInBounds_toArray, List.set_cons_zero, List.set_cons_succ])))
    refine Lex.done ?_
    refine Lex.ends ?_
    go_wp2_with fail
    go_upto_region 4 with (fail)
    have R5 := Lib.hid (R4.out.trans (Fr.refl no _).drew)
    have S5 := Lib.hid (SS4.out _ R5.out)
    have H5 := Lib.hid (H.out.fr R5.out)
    have K5 := Lib.hid (K.out.fr R5.out)
    refine Lex.region [10, 21, 25, 27, 28, 32, 34, 35] [38] (by kernel_rfl) (by kernel_rfl) ?_
    refine Lex.opens (fun w' => w'.cell? ⟨p, 8, none⟩ = some (.pointer (some ⟨z.q, 0, none⟩)) ∧ At w' p 4 [.slice z.da s.m.d.length z.dc, .slice z.fa s.m.f.length z.fc] ∧ w'.cell? ⟨q, 8, none⟩ = some (.pointer (some ⟨y.q, 0, none⟩)) ∧ At w' q 4 [.slice y.da t.m.d.length y.dc, .slice y.fa t.m.f.length y.fc]) (S5.out) ?_
    repeat (first
      | (refine Lex.skips (by rfl) ?_; (try simp only [Act.put, List.setIfInBounds_toArray, List.set_cons_zero, List.set_cons_succ]))
      | (refine Lex.into (by rfl) (by rfl) _ _ rfl _ _ rfl _ _ ((fun _ h => h.2.1)) Tryz.underlying25 rfl (by rw [Tryz.infoMod]; rfl) ?_; (try simp only [Act.put, List.setIfInBounds_toArray, List.set_cons_zero, List.set_cons_succ]))
      | (refine Lex.into (by rfl) (by rfl) _ _ rfl _ _ rfl _ _ ((fun _ h => h.2.2.2)) Tryz.underlying25 rfl (by rw [Tryz.infoMod]; rfl) ?_; (try simp only [Act.put, List.setIfInBounds_toArray, List.set_cons_zero, List.set_cons_succ]))
      | (refine Lex.quiet (v := ?_) (by rfl) (by rfl) ?_ ?_; rotate_left; (focus (intro w' hS'; go_simp; try rfl)); (try simp only [Act.put, List.setIfInBounds_toArray, List.set_cons_zero, List.set_cons_succ])))
    refine Lex.loud (by rfl) (by rfl) ?_
    intro K' hK'
    go_simp
    refine (samemod_ok _ s.m t.m z.da z.fa y.da y.fa z.dc z.fc y.dc y.fc H5.out.tabs K5.out.tabs H5.out.ok.sm K5.out.ok.sm).mono ?_
    rintro e w6 ⟨rfl, r6⟩
    rw [E5.out]
    have R6 := Lib.hid (R5.out.trans r6)
    have S6 := Lib.hid (SS4.out _ R6.out)
    clear r6
    refine hK' _ _ (S6.out) ?_
    clear hK'
    try simp only [Act.put, List.setIfInBounds_toArray, List.set_cons_zero, List.set_cons_succ]
    repeat (first
      | (refine Lex.skips (by rfl) ?_; (try simp only [Act.put, List.setIfInBounds_toArray, List.set_cons_zero, List.set_cons_succ]))
      | (refine Lex.into (by rfl) (by rfl) _ _ rfl _ _ rfl _ _ ((fun _ h => h.2.1)) Tryz.underlying25 rfl (by rw [Tryz.infoMod]; rfl) ?_; (try simp only [Act.put, List.setIfInBounds_toArray, List.set_cons_zero, List.set_cons_succ]))
      | (refine Lex.into (by rfl) (by rfl) _ _ rfl _ _ rfl _ _ ((fun _ h => h.2.2.2)) Tryz.underlying25 rfl (by rw [Tryz.infoMod]; rfl) ?_; (try simp only [Act.put, List.setIfInBounds_toArray, List.set_cons_zero, List.set_cons_succ]))
      | (refine Lex.quiet (v := ?_) (by rfl) (by rfl) ?_ ?_; rotate_left; (focus (intro w' hS'; go_simp; try rfl)); (try simp only [Act.put, List.setIfInBounds_toArray, List.set_cons_zero, List.set_cons_succ])))
    refine Lex.loud (by rfl) (by rfl) ?_
    intro K' hK'
    go_simp
    refine (msame_ok _ (H.out.fr R6.out).mem (K.out.fr R6.out).mem).mono ?_
    rintro e w7 ⟨rfl, r7⟩
    rw [E6.out]
    have R7 := Lib.hid (R6.out.trans r7)
    have S7 := Lib.hid (SS4.out _ R7.out)
    clear r7
    refine hK' _ _ (S7.out) ?_
    clear hK'
    try simp only [Act.put, List.setIfInBounds_toArray, List.set_cons_zero, List.set_cons_succ]
    repeat (first
      | (refine Lex.skips (by rfl) ?_; (try simp only [Act.put, List.setIfInBounds_toArray, List.set_cons_zero, List.set_cons_succ]))
      | (refine Lex.into (by rfl) (by rfl) _ _ rfl _ _ rfl _ _ ((fun _ h => h.2.1)) Tryz.underlying25 rfl (by rw [Tryz.infoMod]; rfl) ?_; (try simp only [Act.put, List.setIfInBounds_toArray, List.set_cons_zero, List.set_cons_succ]))
      | (refine Lex.into (by rfl) (by rfl) _ _ rfl _ _ rfl _ _ ((fun _ h => h.2.2.2)) Tryz.underlying25 rfl (by rw [Tryz.infoMod]; rfl) ?_; (try simp only [Act.put, List.setIfInBounds_toArray, List.set_cons_zero, List.set_cons_succ]))
      | (refine Lex.quiet (v := ?_) (by rfl) (by rfl) ?_ ?_; rotate_left; (focus (intro w' hS'; go_simp; try rfl)); (try simp only [Act.put, List.setIfInBounds_toArray, List.set_cons_zero, List.set_cons_succ])))
    refine Lex.loud (by rfl) (by rfl) ?_
    intro K' hK'
    go_simp
    refine (sout_ok _ (H.out.fr R7.out) (by have := HDS.out.1; omega)).mono ?_
    rintro e w8 ⟨x1, rfl, hx1, r8⟩
    have R8 := Lib.hid (R7.out.trans r8)
    have S8 := Lib.hid (SS4.out _ R8.out)
    have HX1 := Lib.hid (owns_reads hx1)
    clear hx1 r8
    refine hK' _ _ (S8.out) ?_
    clear hK'
    try simp only [Act.put, List.setIfInBounds_toArray, List.set_cons_zero, List.set_cons_succ]
    repeat (first
      | (refine Lex.skips (by rfl) ?_; (try simp only [Act.put, List.setIfInBounds_toArray, List.set_cons_zero, List.set_cons_succ]))
      | (refine Lex.quiet (v := ?_) (by rfl) (by rfl) ?_ ?_; rotate_left; (focus (intro w' hS'; go_simp; try rfl)); (try simp only [Act.put, List.setIfInBounds_toArray, List.set_cons_zero, List.set_cons_succ])))
    refine Lex.loud (by rfl) (by rfl) ?_
    intro K' hK'
    go_simp
    refine (sout_ok _ (K.out.fr R8.out) (by have := HDS.out.2; omega)).mono ?_
    rintro e w9 ⟨x2, rfl, hx2, r9⟩
    have R9 := Lib.hid (R8.out.trans r9)
    have S9 := Lib.hid (SS4.out _ R9.out)
    have HX2 := Lib.hid (owns_reads hx2)
    have HX1' := Lib.hid (HX1.out.fr r9 (by simp))
    clear hx2 r9
    refine hK' _ _ (S9.out) ?_
    clear hK'
    try simp only [Act.put, List.setIfInBounds_toArray, List.set_cons_zero, List.set_cons_succ]
    repeat (first
      | (refine Lex.skips (by rfl) ?_; (try simp only [Act.put, List.setIfInBounds_toArray, List.set_cons_zero, List.set_cons_succ]))
      | (refine Lex.quiet (v := ?_) (by rfl) (by rfl) ?_ ?_; rotate_left; (focus (intro w' hS'; go_simp; try rfl)); (try simp only [Act.put, List.setIfInBounds_toArray, List.set_cons_zero, List.set_cons_succ])))
    refine Lex.loud (by rfl) (by rfl) ?_
    intro K' hK'
    go_simp
    refine (sameo_ok _ x1 x2 s.ds t.ds s.e.1 s.e.2 t.e.1 t.e.2 HX1'.out HX2.out (by have := HDS.out.1; omega) (by have := HDS.out.2; omega)).mono ?_
    rintro e w10 ⟨rfl, r10⟩
    rw [E7.out]
    have R10 := Lib.hid (R9.out.trans r10)
    have S10 := Lib.hid (SS4.out _ R10.out)
    clear r10
    refine hK' _ _ (S10.out) ?_
    clear hK'
    try simp only [Act.put, List.setIfInBounds_toArray, List.set_cons_zero, List.set_cons_succ]
    repeat (first
      | (refine Lex.skips (by rfl) ?_; (try simp only [Act.put, List.setIfInBounds_toArray, List.set_cons_zero, List.set_cons_succ]))
      | (refine Lex.quiet (v := ?_) (by rfl) (by rfl) ?_ ?_; rotate_left; (focus (intro w' hS'; go_simp; try rfl)); (try simp only [Act.put, List.setIfInBounds_toArray, List.set_cons_zero, List.set_cons_succ])))
    refine Lex.done ?_
    refine Lex.ends ?_
    go_wp2_with fail
    go_ret
    exact ⟨by rw [HQ.out]; rfl, R10.out⟩
  have E7 : Hid (sameO s.ds t.ds (s.e.1, s.e.2) (t.e.1, t.e.2) = true) := Lib.hid h7
  have HQ : Hid (sameS s t = decide (s.inp.drop s.pos = t.inp.drop t.pos)) := Lib.hid (by
    unfold sameS
    rw [E4.out, E5.out, E6.out, h7, decide_eq_true G0.out, decide_eq_true G1.out, decide_eq_true G2.out, decide_eq_true G3.out]
    simp)
  clear h7
  refine Lex.region [33, 35, 47] [50] (by kernel_rfl) (by kernel_rfl) ?_
  refine Lex.opens (fun w' => w'.cell? ⟨p, 13, none⟩ = some (.int .i64 s.f) ∧ w'.cell? ⟨p, 14, none⟩ = some (.int .i64 s.pc) ∧ w'.cell? ⟨p, 12, none⟩ = some (.int .u64 s.at_) ∧ w'.cell? ⟨p, 15, none⟩ = some z.kv ∧ w'.cell? ⟨q, 13, none⟩ = some (.int .i64 t.f) ∧ w'.cell? ⟨q, 14, none⟩ = some (.int .i64 t.pc) ∧ w'.cell? ⟨q, 12, none⟩ = some (.int .u64 t.at_) ∧ w'.cell? ⟨q, 15, none⟩ = some y.kv) (S3.out) ?_
  repeat (first
    | (refine Lex.skips (by rfl) ?_; (try simp only [Act.put, List.setIfInBounds_toArray, List.set_cons_zero, List.set_cons_succ]))
    | (refine Lex.quiet (v := ?_) (by rfl) (by rfl) ?_ ?_; rotate_left; (focus (intro w' hS'; go_simp; try rfl)); (try simp only [Act.put, List.setIfInBounds_toArray, List.set_cons_zero, List.set_cons_succ])))
  refine Lex.loud (by rfl) (by rfl) ?_
  intro K' hK'
  go_simp
  refine (sfuel_ok _ H3.out).mono ?_
  rintro e w' ⟨rfl, rfl⟩
  refine hK' _ _ (S3.out) ?_
  clear hK'
  try simp only [Act.put, List.setIfInBounds_toArray, List.set_cons_zero, List.set_cons_succ]
  repeat (first
    | (refine Lex.skips (by rfl) ?_; (try simp only [Act.put, List.setIfInBounds_toArray, List.set_cons_zero, List.set_cons_succ]))
    | (refine Lex.quiet (v := ?_) (by rfl) (by rfl) ?_ ?_; rotate_left; (focus (intro w' hS'; go_simp; try rfl)); (try simp only [Act.put, List.setIfInBounds_toArray, List.set_cons_zero, List.set_cons_succ])))
  refine Lex.loud (by rfl) (by rfl) ?_
  intro K' hK'
  go_simp
  refine (sfuel_ok _ K3.out).mono ?_
  rintro e w' ⟨rfl, rfl⟩
  refine hK' _ _ (S3.out) ?_
  clear hK'
  try simp only [Act.put, List.setIfInBounds_toArray, List.set_cons_zero, List.set_cons_succ]
  repeat (first
    | (refine Lex.skips (by rfl) ?_; (try simp only [Act.put, List.setIfInBounds_toArray, List.set_cons_zero, List.set_cons_succ]))
    | (refine Lex.quiet (v := ?_) (by rfl) (by rfl) ?_ ?_; rotate_left; (focus (intro w' hS'; go_simp; try rfl)); (try simp only [Act.put, List.setIfInBounds_toArray, List.set_cons_zero, List.set_cons_succ])))
  refine Lex.loud (by rfl) (by rfl) ?_
  intro K' hK'
  go_simp
  refine (eqlinks_ok w.drew _ _ s.ls t.ls (owns_reads H3.out.links) (owns_reads K3.out.links) (by have := HLL.out; omega)).mono ?_
  rintro e w4 ⟨rfl, r4⟩
  rw [E4.out]
  have R4 := Lib.hid (R3.out.trans r4)
  have S4 := Lib.hid (SS3.out _ R4.out)
  clear r4
  refine hK' _ _ (S4.out) ?_
  clear hK'
  try simp only [Act.put, List.setIfInBounds_toArray, List.set_cons_zero, List.set_cons_succ]
  repeat (first
    | (refine Lex.skips (by rfl) ?_; (try simp only [Act.put, List.setIfInBounds_toArray, List.set_cons_zero, List.set_cons_succ]))
    | (refine Lex.quiet (v := ?_) (by rfl) (by rfl) ?_ ?_; rotate_left; (focus (intro w' hS'; go_simp; try rfl)); (try simp only [Act.put, List.setIfInBounds_toArray, List.set_cons_zero, List.set_cons_succ])))
  refine Lex.done ?_
  refine Lex.ends ?_
  go_wp2_with fail
  go_upto_region 4 with (fail)
  have R5 := Lib.hid (R4.out.trans (Fr.refl no _).drew)
  have S5 := Lib.hid (SS4.out _ R5.out)
  have H5 := Lib.hid (H.out.fr R5.out)
  have K5 := Lib.hid (K.out.fr R5.out)
  refine Lex.region [10, 21, 25, 27, 28, 32, 34, 35] [38] (by kernel_rfl) (by kernel_rfl) ?_
  refine Lex.opens (fun w' => w'.cell? ⟨p, 8, none⟩ = some (.pointer (some ⟨z.q, 0, none⟩)) ∧ At w' p 4 [.slice z.da s.m.d.length z.dc, .slice z.fa s.m.f.length z.fc] ∧ w'.cell? ⟨q, 8, none⟩ = some (.pointer (some ⟨y.q, 0, none⟩)) ∧ At w' q 4 [.slice y.da t.m.d.length y.dc, .slice y.fa t.m.f.length y.fc]) (S5.out) ?_
  repeat (first
    | (refine Lex.skips (by rfl) ?_; (try simp only [Act.put, List.setIfInBounds_toArray, List.set_cons_zero, List.set_cons_succ]))
    | (refine Lex.into (by rfl) (by rfl) _ _ rfl _ _ rfl _ _ ((fun _ h => h.2.1)) Tryz.underlying25 rfl (by rw [Tryz.infoMod]; rfl) ?_; (try simp only [Act.put, List.setIfInBounds_toArray, List.set_cons_zero, List.set_cons_succ]))
    | (refine Lex.into (by rfl) (by rfl) _ _ rfl _ _ rfl _ _ ((fun _ h => h.2.2.2)) Tryz.underlying25 rfl (by rw [Tryz.infoMod]; rfl) ?_; (try simp only [Act.put, List.setIfInBounds_toArray, List.set_cons_zero, List.set_cons_succ]))
    | (refine Lex.quiet (v := ?_) (by rfl) (by rfl) ?_ ?_; rotate_left; (focus (intro w' hS'; go_simp; try rfl)); (try simp only [Act.put, List.setIfInBounds_toArray, List.set_cons_zero, List.set_cons_succ])))
  refine Lex.loud (by rfl) (by rfl) ?_
  intro K' hK'
  go_simp
  refine (samemod_ok _ s.m t.m z.da z.fa y.da y.fa z.dc z.fc y.dc y.fc H5.out.tabs K5.out.tabs H5.out.ok.sm K5.out.ok.sm).mono ?_
  rintro e w6 ⟨rfl, r6⟩
  rw [E5.out]
  have R6 := Lib.hid (R5.out.trans r6)
  have S6 := Lib.hid (SS4.out _ R6.out)
  clear r6
  refine hK' _ _ (S6.out) ?_
  clear hK'
  try simp only [Act.put, List.setIfInBounds_toArray, List.set_cons_zero, List.set_cons_succ]
  repeat (first
    | (refine Lex.skips (by rfl) ?_; (try simp only [Act.put, List.setIfInBounds_toArray, List.set_cons_zero, List.set_cons_succ]))
    | (refine Lex.into (by rfl) (by rfl) _ _ rfl _ _ rfl _ _ ((fun _ h => h.2.1)) Tryz.underlying25 rfl (by rw [Tryz.infoMod]; rfl) ?_; (try simp only [Act.put, List.setIfInBounds_toArray, List.set_cons_zero, List.set_cons_succ]))
    | (refine Lex.into (by rfl) (by rfl) _ _ rfl _ _ rfl _ _ ((fun _ h => h.2.2.2)) Tryz.underlying25 rfl (by rw [Tryz.infoMod]; rfl) ?_; (try simp only [Act.put, List.setIfInBounds_toArray, List.set_cons_zero, List.set_cons_succ]))
    | (refine Lex.quiet (v := ?_) (by rfl) (by rfl) ?_ ?_; rotate_left; (focus (intro w' hS'; go_simp; try rfl)); (try simp only [Act.put, List.setIfInBounds_toArray, List.set_cons_zero, List.set_cons_succ])))
  refine Lex.loud (by rfl) (by rfl) ?_
  intro K' hK'
  go_simp
  refine (msame_ok _ (H.out.fr R6.out).mem (K.out.fr R6.out).mem).mono ?_
  rintro e w7 ⟨rfl, r7⟩
  rw [E6.out]
  have R7 := Lib.hid (R6.out.trans r7)
  have S7 := Lib.hid (SS4.out _ R7.out)
  clear r7
  refine hK' _ _ (S7.out) ?_
  clear hK'
  try simp only [Act.put, List.setIfInBounds_toArray, List.set_cons_zero, List.set_cons_succ]
  repeat (first
    | (refine Lex.skips (by rfl) ?_; (try simp only [Act.put, List.setIfInBounds_toArray, List.set_cons_zero, List.set_cons_succ]))
    | (refine Lex.into (by rfl) (by rfl) _ _ rfl _ _ rfl _ _ ((fun _ h => h.2.1)) Tryz.underlying25 rfl (by rw [Tryz.infoMod]; rfl) ?_; (try simp only [Act.put, List.setIfInBounds_toArray, List.set_cons_zero, List.set_cons_succ]))
    | (refine Lex.into (by rfl) (by rfl) _ _ rfl _ _ rfl _ _ ((fun _ h => h.2.2.2)) Tryz.underlying25 rfl (by rw [Tryz.infoMod]; rfl) ?_; (try simp only [Act.put, List.setIfInBounds_toArray, List.set_cons_zero, List.set_cons_succ]))
    | (refine Lex.quiet (v := ?_) (by rfl) (by rfl) ?_ ?_; rotate_left; (focus (intro w' hS'; go_simp; try rfl)); (try simp only [Act.put, List.setIfInBounds_toArray, List.set_cons_zero, List.set_cons_succ])))
  refine Lex.loud (by rfl) (by rfl) ?_
  intro K' hK'
  go_simp
  refine (sout_ok _ (H.out.fr R7.out) (by have := HDS.out.1; omega)).mono ?_
  rintro e w8 ⟨x1, rfl, hx1, r8⟩
  have R8 := Lib.hid (R7.out.trans r8)
  have S8 := Lib.hid (SS4.out _ R8.out)
  have HX1 := Lib.hid (owns_reads hx1)
  clear hx1 r8
  refine hK' _ _ (S8.out) ?_
  clear hK'
  try simp only [Act.put, List.setIfInBounds_toArray, List.set_cons_zero, List.set_cons_succ]
  repeat (first
    | (refine Lex.skips (by rfl) ?_; (try simp only [Act.put, List.setIfInBounds_toArray, List.set_cons_zero, List.set_cons_succ]))
    | (refine Lex.quiet (v := ?_) (by rfl) (by rfl) ?_ ?_; rotate_left; (focus (intro w' hS'; go_simp; try rfl)); (try simp only [Act.put, List.setIfInBounds_toArray, List.set_cons_zero, List.set_cons_succ])))
  refine Lex.loud (by rfl) (by rfl) ?_
  intro K' hK'
  go_simp
  refine (sout_ok _ (K.out.fr R8.out) (by have := HDS.out.2; omega)).mono ?_
  rintro e w9 ⟨x2, rfl, hx2, r9⟩
  have R9 := Lib.hid (R8.out.trans r9)
  have S9 := Lib.hid (SS4.out _ R9.out)
  have HX2 := Lib.hid (owns_reads hx2)
  have HX1' := Lib.hid (HX1.out.fr r9 (by simp))
  clear hx2 r9
  refine hK' _ _ (S9.out) ?_
  clear hK'
  try simp only [Act.put, List.setIfInBounds_toArray, List.set_cons_zero, List.set_cons_succ]
  repeat (first
    | (refine Lex.skips (by rfl) ?_; (try simp only [Act.put, List.setIfInBounds_toArray, List.set_cons_zero, List.set_cons_succ]))
    | (refine Lex.quiet (v := ?_) (by rfl) (by rfl) ?_ ?_; rotate_left; (focus (intro w' hS'; go_simp; try rfl)); (try simp only [Act.put, List.setIfInBounds_toArray, List.set_cons_zero, List.set_cons_succ])))
  refine Lex.loud (by rfl) (by rfl) ?_
  intro K' hK'
  go_simp
  refine (sameo_ok _ x1 x2 s.ds t.ds s.e.1 s.e.2 t.e.1 t.e.2 HX1'.out HX2.out (by have := HDS.out.1; omega) (by have := HDS.out.2; omega)).mono ?_
  rintro e w10 ⟨rfl, r10⟩
  rw [E7.out]
  have R10 := Lib.hid (R9.out.trans r10)
  have S10 := Lib.hid (SS4.out _ R10.out)
  clear r10
  refine hK' _ _ (S10.out) ?_
  clear hK'
  try simp only [Act.put, List.setIfInBounds_toArray, List.set_cons_zero, List.set_cons_succ]
  repeat (first
    | (refine Lex.skips (by rfl) ?_; (try simp only [Act.put, List.setIfInBounds_toArray, List.set_cons_zero, List.set_cons_succ]))
    | (refine Lex.quiet (v := ?_) (by rfl) (by rfl) ?_ ?_; rotate_left; (focus (intro w' hS'; go_simp; try rfl)); (try simp only [Act.put, List.setIfInBounds_toArray, List.set_cons_zero, List.set_cons_succ])))
  refine Lex.loud (by rfl) (by rfl) ?_
  intro K' hK'
  go_simp
  refine (sleft_ok _ (H.out.fr R10.out)).mono ?_
  rintro e w11 ⟨l1, rfl, hl1, r11⟩
  have R11 := Lib.hid (R10.out.trans r11)
  have S11 := Lib.hid (SS4.out _ R11.out)
  have HL1 := Lib.hid hl1
  clear hl1 r11
  refine hK' _ _ (S11.out) ?_
  clear hK'
  try simp only [Act.put, List.setIfInBounds_toArray, List.set_cons_zero, List.set_cons_succ]
  repeat (first
    | (refine Lex.skips (by rfl) ?_; (try simp only [Act.put, List.setIfInBounds_toArray, List.set_cons_zero, List.set_cons_succ]))
    | (refine Lex.quiet (v := ?_) (by rfl) (by rfl) ?_ ?_; rotate_left; (focus (intro w' hS'; go_simp; try rfl)); (try simp only [Act.put, List.setIfInBounds_toArray, List.set_cons_zero, List.set_cons_succ])))
  refine Lex.loud (by rfl) (by rfl) ?_
  intro K' hK'
  go_simp
  refine (sleft_ok _ (K.out.fr R11.out)).mono ?_
  rintro e w12 ⟨l2, rfl, hl2, r12⟩
  have R12 := Lib.hid (R11.out.trans r12)
  have S12 := Lib.hid (SS4.out _ R12.out)
  have HL2 := Lib.hid hl2
  have HL1' := Lib.hid (HL1.out.fr r12 (by simp))
  clear hl2 r12
  refine hK' _ _ (S12.out) ?_
  clear hK'
  try simp only [Act.put, List.setIfInBounds_toArray, List.set_cons_zero, List.set_cons_succ]
  repeat (first
    | (refine Lex.skips (by rfl) ?_; (try simp only [Act.put, List.setIfInBounds_toArray, List.set_cons_zero, List.set_cons_succ]))
    | (refine Lex.quiet (v := ?_) (by rfl) (by rfl) ?_ ?_; rotate_left; (focus (intro w' hS'; go_simp; try rfl)); (try simp only [Act.put, List.setIfInBounds_toArray, List.set_cons_zero, List.set_cons_succ])))
  refine Lex.loud (by rfl) (by rfl) ?_
  intro K' hK'
  go_simp
  refine (eqbytes_ok _ l1 l2 _ _ HL1'.out HL2.out (by have := H.out.ok.il; rw [List.length_drop]; omega)).mono ?_
  rintro e w13 ⟨rfl, r13⟩
  have R13 := Lib.hid (R12.out.trans r13)
  have S13 := Lib.hid (SS4.out _ R13.out)
  clear r13
  refine hK' _ _ (S13.out) ?_
  clear hK'
  try simp only [Act.put, List.setIfInBounds_toArray, List.set_cons_zero, List.set_cons_succ]
  repeat (first
    | (refine Lex.skips (by rfl) ?_; (try simp only [Act.put, List.setIfInBounds_toArray, List.set_cons_zero, List.set_cons_succ]))
    | (refine Lex.quiet (v := ?_) (by rfl) (by rfl) ?_ ?_; rotate_left; (focus (intro w' hS'; go_simp; try rfl)); (try simp only [Act.put, List.setIfInBounds_toArray, List.set_cons_zero, List.set_cons_succ])))
  refine Lex.done ?_
  refine Lex.ends ?_
  go_wp2_with fail
  go_ret
  exact ⟨by rw [HQ.out]; rfl, R13.out⟩

end Go.Proofs.YtihnkijeefkefaaGreat

set_option linter.unusedSimpArgs false
set_option linter.unusedVariables false
set_option linter.unusedSectionVars false
set_option linter.unnecessarySimpa false
set_option maxRecDepth 100000
/- SpaceAgain. -/
namespace Go.Proofs.YtihnkijeefkefaaGreat
open Go.RowKit

attribute [local go_sem] Program.isFuncB Program.isSliceB

variable {w w' w'' w0 w1 : World} {O R X : Nat → Prop} {p q : Nat} {s s' t t' : Zp} {A B : (Nat → Prop) → (Nat → Prop) → World → Prop}

theorem sameS_refl (s : Zp) : sameS s s = true := by simp [sameS, sameO]
attribute [local irreducible] Zp.callS Zp.layS Zp.down Zp.argsS newS Zp.actS sameS
theorem u8s_of (zs : List Int) (h : ∀ z ∈ zs, (Lit.int .u8 z).wf = true) : u8s (zs.map Int.toNat) = zs.map (.int .u8) ∧ ∀ x ∈ zs.map Int.toNat, x < 256 := by
  have hr : ∀ z ∈ zs, 0 ≤ z ∧ z ≤ 255 := fun z hz => by
    have h1 : IntKind.u8.min ≤ z ∧ z ≤ IntKind.u8.max := by simpa [Lit.wf] using h z hz
    have h2 : IntKind.u8.min = 0 := by decide
    have h3 : IntKind.u8.max = 255 := by decide
    omega
  constructor
  · unfold u8s
    rw [List.map_map]
    refine List.map_congr_left fun z hz => ?_
    have := hr z hz
    simp only [Function.comp]
    congr 1
    omega
  · intro x hx
    obtain ⟨z, hz, rfl⟩ := List.mem_map.1 hx
    have := hr z hz
    omega
end Go.Proofs.YtihnkijeefkefaaGreat

set_option linter.unusedSimpArgs false
set_option linter.unusedVariables false
set_option linter.unusedSectionVars false
set_option linter.unnecessarySimpa false
set_option maxRecDepth 100000
/- The document's New. -/
namespace Go.Proofs.YtihnkijeefkefaaGreat
open Go.RowKit

attribute [local go_sem] Program.isFuncB Program.isSliceB

variable {w w' w'' w0 w1 : World} {O R X : Nat → Prop} {p : Nat} {s s' : Zp}

theorem rlay_nil {q g n c : Nat} {bs : List Nat} (w : World) (a : Nat) (va : Option Addr) (vc : Nat) (h : RMemAt w q g n c bs) (ha : a < 18446744073709551616) (hn : n ≤ 65536) (hin : inB n a 0 = true) :
    Calls Tryz.prog 79 #[.pointer (some ⟨q, 0, none⟩), .int .u64 a, .slice va 0 vc] w fun e w' => e = .returned (.int .i64 0) ∧ w = w' := by
  have HF := Lib.hid (rfits_ok w a 0 h ha (by omega) hn)
  rw [hin] at HF
  have hwa : IntKind.i64.wrap (a : Int) = a := by simp only [inB, decide_eq_true_eq] at hin; rw [IntKind.wrap_i64]; omega
  clear hin h
  go_enter Tryz.func79, Tryz.ntmps79
  go_wp2_with fail
  refine HF.out.mono ?_
  rintro e w' ⟨rfl, rfl⟩
  go_wp2_with fail
  go_loopw [7] (fun y wr => y = .int .i64 0 ∧ wr = w) (fun y _ => 0)
  case atStart => exact ⟨rfl, rfl⟩
  case round =>
    obtain ⟨rfl, rfl⟩ := hrel
    go_wp2_with fail
    go_ret
    exact ⟨rfl, rfl⟩
/-- a module's bytes are laid into a new memory -/
theorem rlay_any {q g n c B : Nat} {bs : List Nat} (w : World) (a : Nat) (v : Value) (l : List Nat) (h : RMemAt w q g n c bs) (ha : a < 18446744073709551616) (hk : l.length ≤ 65536) (hn : n ≤ 65536) (hin : inB n a l.length = true) (hlt : ∀ x ∈ l, x < 256) (hv : Reads w v 1 l.length (u8s l)) (hg : B ≤ g) (hvB : ∀ (j : Nat) (u : Value), (u8s l)[j]? = some u → ∀ i, v.ownBlock = some i → i < B) :
    Calls Tryz.prog 79 #[.pointer (some ⟨q, 0, none⟩), .int .u64 a, v] w fun e w' => e = .returned (.int .i64 0) ∧ RMemAt w' q g n c (layB bs a l) ∧ Fr (only [g]) w w' := by
  cases l with
  | nil =>
    obtain ⟨va, vc, rfl⟩ := hv.shape
    refine (rlay_nil w a va vc h ha hn hin).mono ?_
    rintro e w' ⟨rfl, rfl⟩
    exact ⟨rfl, by rw [layB_nil]; exact h, Fr.refl _ _⟩
  | cons x l =>
    exact rlay_ok w a _ v (x :: l) h ha hk hn hin rfl hlt hv (fun i hi e => by have := hvB 0 _ rfl i hi; omega)
theorem lt_of_cell {a : Addr} {v : Value} (h : w.cell? a = some v) : a.block < w.heap.size := by
  unfold World.cell? at h
  split at h
  · rename_i hb; exact (Array.getElem?_eq_some_iff.1 hb).1
  · cases h
theorem reads_old {v : Value} {n z : Nat} {cs : List Value} (h : Reads w v z n cs) : ∀ (j : Nat) (u : Value), cs[j]? = some u → ∀ i, v.ownBlock = some i → i < w.heap.size := by
  intro j u hj i hi
  rcases h with ⟨rfl, -, -⟩ | ⟨ad, cap, rfl, -, -, -, h5⟩
  · cases hi
  · have hc := h5 j u hj
    have hb : (ad.add j).block = ad.block := by unfold Addr.add; split <;> rfl
    have hi : ad.block = i := by simpa [Value.ownBlock] using hi
    have := lt_of_cell hc
    rw [hb, hi] at this
    exact this
/-- the parts of a new space of the document -/
structure RMade (w w' : World) (B p q g c t k : Nat) (m : Mx) (da : Option Addr) (dc : Nat) (fa : Option Addr) (inp : List Nat) (tv : Value) : Prop where
  mem : RMemAt w' q g k c (layB (List.replicate k 0) 16 m.d)
  tape : RefAt w' t t inp 0 [] tv (.slice none 0 0)
  ro : ∀ w2, Fr (fun i => B ≤ i) w' w2 → ModIn w2 m da dc fa
  hB : B ≤ w.heap.size
  bq : w.heap.size ≤ q
  bg : w.heap.size ≤ g
  bt : w.heap.size ≤ t
  tp : t < p
  gp : g < p
  tv : ∀ i, tv.ownBlock = some i → w.heap.size ≤ i ∧ i ≠ g
  fr : Fr no w w'
theorem RMade.step {B p q g c t k : Nat} {m : Mx} {da fa : Option Addr} {dc : Nat} {inp : List Nat} {tv : Value} (h : RMade w w1 B p q g c t k m da dc fa inp tv) (r : Fr (only [p]) w1 w') (hq : q ≠ p) : RMade w w' B p q g c t k m da dc fa inp tv := by
  have hp : w.heap.size ≤ p := by have := h.bt; have := h.tp; omega
  refine ⟨h.mem.frx r (by simpa using hq) (by have := h.gp; simp; omega), h.tape.frx r (by have := h.tp; simp; omega) (fun i hi => by have := h.tape.old i hi; have := h.tp; simp; omega) (fun i hi => by cases hi), fun w2 r2 => h.ro w2 ((r.mono (fun i hi _ => by simp at hi; subst hi; have := h.hB; omega)).trans r2), h.hB, h.bq, h.bg, h.bt, h.tp, h.gp, h.tv, h.fr.trans' r (fun i hi _ => by simp at hi; omega)⟩
theorem RMade.space {B p q g c t k : Nat} {m : Mx} {da fa : Option Addr} {dc fc : Nat} {inp : List Nat} {tv : Value} (h : RMade w w' B p q g c t k m da dc fa inp tv) (hm : s.m = m) (hb : s.b = layB (List.replicate k 0) 16 m.d) (hbl : s.b.length = k) (hi : s.inp = inp) (hp0 : s.pos = 0) (hd : s.ds = []) (hl : s.ls = []) (hok : s.Ok)
    (ho : w'.heap[p]? = some (.cells (rspCells s ⟨da, dc, fa, fc, q, g, c, t, t, tv, .slice none 0 0, .slice none 0 0⟩) 135 (0, 0))) :
    RSpAt w' (fun i => i = p ∨ i = g ∨ i = t) (fun i => i < B ∨ i = q ∨ tv.ownBlock = some i) p s ⟨da, dc, fa, fc, q, g, c, t, t, tv, .slice none 0 0, .slice none 0 0⟩ := by
  obtain ⟨cur, hg, -⟩ := h.mem.block
  have szp := (Array.getElem?_eq_some_iff.1 ho).1
  have szg := (Array.getElem?_eq_some_iff.1 hg).1
  have szt := (Array.getElem?_eq_some_iff.1 h.tape.obj).1
  have szq := (Array.getElem?_eq_some_iff.1 h.mem.obj).1
  have h1 := h.hB
  have h2 := h.bg
  have h3 := h.bt
  have h4 := h.tp
  have h5 := h.fr.size
  refine ⟨ho, ?_, ?_, by rw [hl]; exact World.ownsRow_nil _ _ _ _, ?_, hok, by show t ≤ _; omega, .inl rfl, .inr (.inl rfl), .inr (.inr rfl), fun i hi => (by cases hi), fun i hi => (by cases hi), .inr (.inl rfl), fun i hi => .inr (.inr hi), fun i hi hr => ?_, fun i hi => ?_⟩
  · show RMemAt w' q g s.b.length c s.b
    rw [hbl, hb]
    exact h.mem
  · show RefAt w' t t s.inp s.pos s.ds tv _
    rw [hi, hp0, hd]
    exact h.tape
  · intro w2 r2
    rw [hm]
    exact h.ro w2 (r2.mono (fun i hi _ => by
      by_cases hlt : B ≤ i
      · exact hlt
      · exact absurd (.inl (by omega)) hi))
  · rcases hr with hr | hr | hr
    · rcases hi with e | e | e <;> omega
    · subst hr
      rcases hi with e | e | e
      · exact block_ne h.mem.obj ho (by decide) e
      · exact h.mem.ne e
      · exact block_ne h.mem.obj h.tape.obj (by decide) e
    · have o1 := h.tape.old i hr
      have o2 := (h.tv i hr).2
      rcases hi with e | e | e <;> omega
  · rcases hi with (e | e | e) | (e | e | e)
    · omega
    · omega
    · omega
    · omega
    · omega
    · have := h.tape.old i e; omega
section
variable {m : Mx} {inp : List Nat} {fuel n : Int} {da fa ia : Option Addr} {dc fc ic : Nat}
set_option maxHeartbeats 2000000 in
theorem rsnew_bad (w : World) (hm : ModRd w m da dc fa fc) (hs : m.Small) (hb : newBad m n fuel) : Calls Tryz.prog 35 #[.agg #[.slice da m.d.length dc, .slice fa m.f.length fc], .int .i64 n, .slice ia inp.length ic, .int .i64 fuel] w fun e w' => e = .returned (.tuple #[.pointer none, .int .i64 2]) ∧ Fr no w w' := by
  by_cases h1 : modCk m ≠ 0
  · clear hb
    have r1 := (Fr.refl no w).alloc (.cells #[.slice da m.d.length dc, .slice fa m.f.length fc] 25)
    have hb1 := heap_new w (.cells #[.slice da m.d.length dc, .slice fa m.f.length fc] 25)
    have HC := Lib.hid (refcheck_mod _ m da dc fa fc (hm.modIn.fr r1) hs)
    have lm := load_mod _ _ _ _ hb1
    have HB := Lib.hid hb1
    have R1 := Lib.hid r1
    have e1 : (modCk m != 0) = true := bne_iff_ne.2 h1
    generalize modCk m = ck at *
    clear h1 hs
    clear hb1 r1 hm
    go_enter Tryz.func35, Tryz.ntmps35
    go_wp2_with fail
    refine HC.out.mono ?_
    rintro e w1 ⟨rfl, r2⟩
    have R2 := Lib.hid (R1.out.trans r2)
    clear lm
    clear r2
    go_wp2_with fail
    go_ret2
    exact ⟨rfl, R2.out⟩
  have h1 : modCk m = 0 := Decidable.not_not.1 h1
  by_cases h2 : fuel < 0
  · clear hb
    have r1 := (Fr.refl no w).alloc (.cells #[.slice da m.d.length dc, .slice fa m.f.length fc] 25)
    have hb1 := heap_new w (.cells #[.slice da m.d.length dc, .slice fa m.f.length fc] 25)
    have HC := Lib.hid (refcheck_mod _ m da dc fa fc (hm.modIn.fr r1) hs)
    have lm := load_mod _ _ _ _ hb1
    have HB := Lib.hid hb1
    have R1 := Lib.hid r1
    rw [h1] at HC
    clear hs h1
    clear hb1 r1 hm
    go_enter Tryz.func35, Tryz.ntmps35
    go_wp2_with fail
    refine HC.out.mono ?_
    rintro e w1 ⟨rfl, r2⟩
    have R2 := Lib.hid (R1.out.trans r2)
    clear lm
    clear r2
    go_wp2_with fail
    go_ret2
    exact ⟨rfl, R2.out⟩
  by_cases h3 : 10000000 < fuel
  · clear hb
    have r1 := (Fr.refl no w).alloc (.cells #[.slice da m.d.length dc, .slice fa m.f.length fc] 25)
    have hb1 := heap_new w (.cells #[.slice da m.d.length dc, .slice fa m.f.length fc] 25)
    have HC := Lib.hid (refcheck_mod _ m da dc fa fc (hm.modIn.fr r1) hs)
    have lm := load_mod _ _ _ _ hb1
    have HB := Lib.hid hb1
    have R1 := Lib.hid r1
    have e3 : fuel > 10000000 := h3
    rw [h1] at HC
    clear hs h1 h3
    clear hb1 r1 hm
    go_enter Tryz.func35, Tryz.ntmps35
    go_wp2_with fail
    refine HC.out.mono ?_
    rintro e w1 ⟨rfl, r2⟩
    have R2 := Lib.hid (R1.out.trans r2)
    clear lm
    clear r2
    go_wp2_with fail
    go_ret2
    exact ⟨rfl, R2.out⟩
  by_cases h4 : n < 16
  · clear hb
    have r1 := (Fr.refl no w).alloc (.cells #[.slice da m.d.length dc, .slice fa m.f.length fc] 25)
    have hb1 := heap_new w (.cells #[.slice da m.d.length dc, .slice fa m.f.length fc] 25)
    have HC := Lib.hid (refcheck_mod _ m da dc fa fc (hm.modIn.fr r1) hs)
    have lm := load_mod _ _ _ _ hb1
    have HB := Lib.hid hb1
    have R1 := Lib.hid r1
    have e3 : ¬ fuel > 10000000 := h3
    rw [h1] at HC
    clear hs h1 h3
    clear hb1 r1 hm
    go_enter Tryz.func35, Tryz.ntmps35
    go_wp2_with fail
    refine HC.out.mono ?_
    rintro e w1 ⟨rfl, r2⟩
    have R2 := Lib.hid (R1.out.trans r2)
    clear lm
    clear r2
    go_wp2_with fail
    go_ret2
    exact ⟨rfl, R2.out⟩
  by_cases h5 : 65536 < n
  · clear hb
    have r1 := (Fr.refl no w).alloc (.cells #[.slice da m.d.length dc, .slice fa m.f.length fc] 25)
    have hb1 := heap_new w (.cells #[.slice da m.d.length dc, .slice fa m.f.length fc] 25)
    have HC := Lib.hid (refcheck_mod _ m da dc fa fc (hm.modIn.fr r1) hs)
    have lm := load_mod _ _ _ _ hb1
    have HB := Lib.hid hb1
    have R1 := Lib.hid r1
    have e3 : ¬ fuel > 10000000 := h3
    have e5 : n > 65536 := h5
    rw [h1] at HC
    clear hs h1 h3 h5
    clear hb1 r1 hm
    go_enter Tryz.func35, Tryz.ntmps35
    go_wp2_with fail
    refine HC.out.mono ?_
    rintro e w1 ⟨rfl, r2⟩
    have R2 := Lib.hid (R1.out.trans r2)
    clear lm
    clear r2
    go_wp2_with fail
    go_ret2
    exact ⟨rfl, R2.out⟩
  obtain ⟨k, rfl⟩ : ∃ k : Nat, n = k := ⟨n.toNat, by omega⟩
  have h6 : k % 16 ≠ 0 := by
    rcases hb with h | h | h | h | h | h
    · exact absurd h1 h
    · exact absurd h h2
    · exact absurd h h3
    · exact absurd h h4
    · exact absurd h h5
    · omega
  clear hb
  have r1 := (Fr.refl no w).alloc (.cells #[.slice da m.d.length dc, .slice fa m.f.length fc] 25)
  have hb1 := heap_new w (.cells #[.slice da m.d.length dc, .slice fa m.f.length fc] 25)
  have HC := Lib.hid (refcheck_mod _ m da dc fa fc (hm.modIn.fr r1) hs)
  have lm := load_mod _ _ _ _ hb1
  have HB := Lib.hid hb1
  have R1 := Lib.hid r1
  have hrm : (k : Int) % 16 = ((k % 16 : Nat) : Int) := by omega
  have e3 : ¬ fuel > 10000000 := h3
  have e5 : ¬ (k : Int) > 65536 := h5
  have e6 : (((k % 16 : Nat) : Int) != 0) = true := bne_iff_ne.2 (by omega)
  rw [h1] at HC
  clear hs h1 h3 h5 h6
  generalize k % 16 = r at *
  clear hb1 r1 hm
  go_enter Tryz.func35, Tryz.ntmps35
  go_wp2_with fail
  refine HC.out.mono ?_
  rintro e w1 ⟨rfl, r2⟩
  have R2 := Lib.hid (R1.out.trans r2)
  clear lm
  clear r2
  go_wp2_with fail
  go_ret2
  exact ⟨rfl, R2.out⟩
set_option maxHeartbeats 4000000 in
theorem rsnew_full (w : World) (hm : ModRd w m da dc fa fc) (hs : m.Small) (hb : ¬ newBad m n fuel) (hfl : n < flr m) : Calls Tryz.prog 35 #[.agg #[.slice da m.d.length dc, .slice fa m.f.length fc], .int .i64 n, .slice ia inp.length ic, .int .i64 fuel] w fun e w' => e = .returned (.tuple #[.pointer none, .int .i64 8]) ∧ Fr no w w' := by
  have r1 := (Fr.refl no w).alloc (.cells #[.slice da m.d.length dc, .slice fa m.f.length fc] 25)
  have hb1 := heap_new w (.cells #[.slice da m.d.length dc, .slice fa m.f.length fc] 25)
  have HC := Lib.hid (refcheck_mod _ m da dc fa fc (hm.modIn.fr r1) hs)
  have lm := load_mod _ _ _ _ hb1
  have HB := Lib.hid hb1
  have R1 := Lib.hid r1
  have HRD := Lib.hid hm
  have HSM := Lib.hid hs
  have HNB : Hid (modCk m = 0 ∧ ¬ fuel < 0 ∧ ¬ 10000000 < fuel ∧ ¬ n < 16 ∧ ¬ 65536 < n ∧ n % 16 = 0) := Lib.hid (by
    unfold newBad at hb
    refine ⟨Decidable.not_not.1 (fun h => hb (.inl h)), fun h => hb (.inr (.inl h)), fun h => hb (.inr (.inr (.inl h))), fun h => hb (.inr (.inr (.inr (.inl h)))), fun h => hb (.inr (.inr (.inr (.inr (.inl h))))), Decidable.not_not.1 (fun h => hb (.inr (.inr (.inr (.inr (.inr h))))))⟩)
  obtain ⟨h1, h2, h3, h4, h5, h6⟩ := HNB.out
  obtain ⟨k, rfl⟩ : ∃ k : Nat, n = k := ⟨n.toNat, by omega⟩
  have hrm : (k : Int) % 16 = 0 := h6
  have e3 : ¬ fuel > 10000000 := h3
  have e5 : ¬ (k : Int) > 65536 := h5
  have hk1 : 16 ≤ k ∧ k ≤ 65536 := by omega
  have HKB := Lib.hid hk1
  have HM1 := Lib.hid (ck_len h1)
  have HFL : Hid (k < flr m) := Lib.hid (by omega)
  have hfg : (flr m : Int) > k := by omega
  rw [h1] at HC
  clear hb1 r1 hm hs hb h1 h3 h5 h6 hk1 hfl
  go_enter Tryz.func35, Tryz.ntmps35
  go_wp2_with fail
  refine HC.out.mono ?_
  rintro e w1 ⟨rfl, r2⟩
  have R2 := Lib.hid (R1.out.trans r2)
  clear lm
  have hb2 := r2.heap HB.out (by simp)
  have m0 := cell_of_heap (o := 0) hb2 rfl
  have m1 := cell_of_heap (o := 1) hb2 rfl
  have HB2 := Lib.hid hb2
  clear r2 hb2
  go_wp2_with fail
  refine (reffloor_ok _ m.d.length (by have := HM1.out.1; omega)).mono ?_
  rintro e w' ⟨rfl, rfl⟩
  rw [show r16 (16 + m.d.length) = flr m from (flr_r16 m).symm]
  have hwk : IntKind.u64.wrap (k : Int) = k := by have := HKB.out; rw [IntKind.wrap_u64]; omega
  clear hrm e3 e5 h2 h4
  go_wp2_with fail
  go_ret2
  exact ⟨rfl, R2.out⟩
set_option maxHeartbeats 4000000 in
theorem rsnew_ok (w : World) (hm : ModRd w m da dc fa fc) (hs : m.Small) (hin : Reads w (.slice ia inp.length ic) 1 inp.length (u8s inp)) (hil : inp.length ≤ 100000) (hib : ∀ x ∈ inp, x < 256) {B : Nat} (hBB : B ≤ w.heap.size) (hmB : ∀ w2, Fr (fun i => B ≤ i) w w2 → ModIn w2 m da dc fa) (hb : ¬ newBad m n fuel) (hfl : flr m ≤ n) : Calls Tryz.prog 35 #[.agg #[.slice da m.d.length dc, .slice fa m.f.length fc], .int .i64 n, .slice ia inp.length ic, .int .i64 fuel] w fun e w' => ∃ p O R, e = .returned (.tuple #[.pointer (some ⟨p, 0, none⟩), .int .i64 0]) ∧ RSpT p (newS m n.toNat inp fuel) O R w' ∧ (∀ k, O k → w.heap.size ≤ k) ∧ (∀ k, R k → k < B ∨ w.heap.size ≤ k) ∧ Fr no w w' := by
  have r1 := (Fr.refl no w).alloc (.cells #[.slice da m.d.length dc, .slice fa m.f.length fc] 25)
  have hb1 := heap_new w (.cells #[.slice da m.d.length dc, .slice fa m.f.length fc] 25)
  have HC := Lib.hid (refcheck_mod _ m da dc fa fc (hm.modIn.fr r1) hs)
  have lm := load_mod _ _ _ _ hb1
  have HB := Lib.hid hb1
  have R1 := Lib.hid r1
  have HRD := Lib.hid hm
  have HSM := Lib.hid hs
  have HNB : Hid (modCk m = 0 ∧ ¬ fuel < 0 ∧ ¬ 10000000 < fuel ∧ ¬ n < 16 ∧ ¬ 65536 < n ∧ n % 16 = 0) := Lib.hid (by
    unfold newBad at hb
    refine ⟨Decidable.not_not.1 (fun h => hb (.inl h)), fun h => hb (.inr (.inl h)), fun h => hb (.inr (.inr (.inl h))), fun h => hb (.inr (.inr (.inr (.inl h)))), fun h => hb (.inr (.inr (.inr (.inr (.inl h))))), Decidable.not_not.1 (fun h => hb (.inr (.inr (.inr (.inr (.inr h))))))⟩)
  obtain ⟨h1, h2, h3, h4, h5, h6⟩ := HNB.out
  obtain ⟨k, rfl⟩ : ∃ k : Nat, n = k := ⟨n.toNat, by omega⟩
  have hrm : (k : Int) % 16 = 0 := h6
  have e3 : ¬ fuel > 10000000 := h3
  have e5 : ¬ (k : Int) > 65536 := h5
  have hk1 : 16 ≤ k ∧ k ≤ 65536 := by omega
  have HKB := Lib.hid hk1
  have HM1 := Lib.hid (ck_len h1)
  have HFL : Hid (flr m ≤ k) := Lib.hid (by omega)
  have hfg : ¬ (flr m : Int) > k := by omega
  have HIB := Lib.hid hib
  have HIN := Lib.hid hin
  have HIL := Lib.hid hil
  have HBB := Lib.hid hBB
  have HMB := Lib.hid hmB
  rw [Int.toNat_natCast]
  rw [h1] at HC
  clear hb1 r1 hm hs hb h1 h3 h5 h6 hk1 hfl hib hin hil hBB hmB
  go_enter Tryz.func35, Tryz.ntmps35
  go_wp2_with fail
  refine HC.out.mono ?_
  rintro e w1 ⟨rfl, r2⟩
  have R2 := Lib.hid (R1.out.trans r2)
  clear lm
  have hb2 := r2.heap HB.out (by simp)
  have m0 := cell_of_heap (o := 0) hb2 rfl
  have m1 := cell_of_heap (o := 1) hb2 rfl
  have HB2 := Lib.hid hb2
  clear r2 hb2
  go_wp2_with fail
  refine (reffloor_ok _ m.d.length (by have := HM1.out.1; omega)).mono ?_
  rintro e w' ⟨rfl, rfl⟩
  rw [show r16 (16 + m.d.length) = flr m from (flr_r16 m).symm]
  have hwk : IntKind.u64.wrap (k : Int) = k := by have := HKB.out; rw [IntKind.wrap_u64]; omega
  clear hrm e3 e5 h2 h4
  go_wp2_with fail
  refine (rnew_ok w1 k HKB.out.1 HKB.out.2).mono ?_
  rintro e w3 ⟨q, g, c, rfl, hq, hq1, hg1, r3⟩
  have HMQ := Lib.hid hq
  have HG : Hid (w1.heap.size ≤ q ∧ w1.heap.size ≤ g) := Lib.hid ⟨hq1, hg1⟩
  have R3 := Lib.hid (R2.out.trans r3)
  have HB3 := Lib.hid (r3.heap HB2.out (by simp))
  have HRD1 := Lib.hid (HRD.out.fr R2.out)
  have HRD3 := Lib.hid (HRD.out.fr R3.out)
  have HLY := Lib.hid (rlay_any (B := w1.heap.size) w3 16 _ m.d hq (by decide) (by have := HM1.out.1; omega) HKB.out.2 (by have := HFL.out; unfold flr at this; simp only [inB, decide_eq_true_eq]; omega) HSM.out.lt HRD3.out.data hg1 (reads_old HRD1.out.data))
  clear hq hq1 hg1 r3 m0 m1
  have m0 := cell_of_heap (o := 0) HB3.out rfl
  go_wp2_with fail
  refine HLY.out.mono ?_
  rintro e w4 ⟨rfl, hq4, r4⟩
  have HMQ4 := Lib.hid hq4
  have R4 := Lib.hid (R3.out.trans' r4 (fun i hi hlt => by simp at hi; have := HG.out.2; have := R2.out.size; omega))
  have HB4 := Lib.hid (r4.heap HB3.out (fun e => by simp at e; have h1 := (Array.getElem?_eq_some_iff.1 HB2.out).1; have h2 := HG.out.2; omega))
  clear hq4 r4 HLY m0
  go_upto_region 8 with (fail)
  have AT4 : Hid (∀ w', w'.heap[w.heap.size]? = some (.cells #[.slice da m.d.length dc, .slice fa m.f.length fc] 25 (0, 0)) → At w' w.heap.size 0 [.slice da m.d.length dc, .slice fa m.f.length fc]) := Lib.hid (fun w' h => At.of_heap h)
  have HB5 : Hid (w4.drew.heap[w.heap.size]? = some (.cells #[.slice da m.d.length dc, .slice fa m.f.length fc] 25 (0, 0))) := Lib.hid HB4.out
  have A5 := Lib.hid (AT4.out _ HB5.out)
  have R5 := Lib.hid (R4.out.trans (Fr.refl no w4).drew)
  refine Lex.region [2, 4, 6, 11] [13] (by kernel_rfl) (by kernel_rfl) ?_
  refine Lex.opens (fun w' => At w' w.heap.size 0 [.slice da m.d.length dc, .slice fa m.f.length fc]) (A5.out) ?_
  repeat (first
    | (refine Lex.skips (by rfl) ?_; (try simp only [Act.put, List.setIfInBounds_toArray, List.set_cons_zero, List.set_cons_succ]))
    | (refine Lex.into (by rfl) (by rfl) _ _ rfl _ _ rfl _ _ ((fun _ h => h)) Tryz.underlying25 rfl (by rw [Tryz.infoMod]; rfl) ?_; (try simp only [Act.put, List.setIfInBounds_toArray, List.set_cons_zero, List.set_cons_succ]))
    | (refine Lex.quiet (v := ?_) (by rfl) (by rfl) ?_ ?_; rotate_left; (focus (intro w' hS'; go_simp; try rfl)); (try simp only [Act.put, List.setIfInBounds_toArray, List.set_cons_zero, List.set_cons_succ])))
  refine Lex.loud (by rfl) (by rfl) ?_
  intro K' hK'
  go_simp
  have q6 : Fr no w4.drew (w4.alloc (.cells #[] 5)).drew := (Fr.refl no w4.drew).alloc (.cells #[] 5)
  have HB6 := Lib.hid (q6.heap HB5.out (by simp))
  have A6 := Lib.hid (AT4.out _ HB6.out)
  have R6 := Lib.hid (R5.out.trans q6)
  have OW6 : Hid ((w4.alloc (.cells #[] 5)).drew.ownsRow w4.drew.heap.size 5 1 (.slice (some ⟨w4.drew.heap.size, 0, none⟩) 0 0) 0 []) := Lib.hid (owns_new w4.drew 5 1)
  have HI6 := Lib.hid (HIN.out.fr R6.out (by simp))
  have SZ6 : Hid (((w4.alloc (.cells #[] 5)).drew).heap.size = w4.drew.heap.size + 1) := Lib.hid (by simp)
  clear q6
  refine hK' _ _ (A6.out) ?_
  clear hK'
  try simp only [Act.put, List.setIfInBounds_toArray, List.set_cons_zero, List.set_cons_succ]
  repeat (first
    | (refine Lex.skips (by rfl) ?_; (try simp only [Act.put, List.setIfInBounds_toArray, List.set_cons_zero, List.set_cons_succ]))
    | (refine Lex.into (by rfl) (by rfl) _ _ rfl _ _ rfl _ _ ((fun _ h => h)) Tryz.underlying25 rfl (by rw [Tryz.infoMod]; rfl) ?_; (try simp only [Act.put, List.setIfInBounds_toArray, List.set_cons_zero, List.set_cons_succ]))
    | (refine Lex.quiet (v := ?_) (by rfl) (by rfl) ?_ ?_; rotate_left; (focus (intro w' hS'; go_simp; try rfl)); (try simp only [Act.put, List.setIfInBounds_toArray, List.set_cons_zero, List.set_cons_succ])))
  refine Lex.loud (by rfl) (by rfl) ?_
  intro K' hK'
  refine wp_append_at (.tmp 64) (.tmp 65) 22 rfl w4.drew.heap.size 5 (.int .u8 0) 1 1 Tryz.underlying22 Tryz.infoU8 rfl (by decide) _ 0 _ rfl OW6.out inp.length _ HI6.out (u8s_one _) (by have := HIL.out; unfold maxLen; omega) (by have := HIL.out; omega) (by have := SZ6.out; omega) ?_
  intro ga gc w7 ho hg hb
  have g7 := (Fr.refl (fun k => (Value.slice (some ⟨w4.drew.heap.size, 0, none⟩) 0 0).ownBlock = some k) _).grown hg (fun k hk => .inl hk)
  have R47 : Hid (Fr no w4 w7) := Lib.hid ((Fr.refl no w4).drew.trans (((Fr.refl no w4.drew).alloc (.cells #[] 5)).trans' g7 (fun k hk _ => by have hd : w4.drew.heap.size = w4.heap.size := rfl; simp [Value.ownBlock] at hk; omega)))
  have R7 := Lib.hid (R4.out.trans R47.out)
  have HIO : Hid (w7.ownsRow w4.drew.heap.size 5 1 (.slice ga inp.length gc) inp.length (u8s inp)) := Lib.hid (by simpa using ho)
  have HB7 := Lib.hid (g7.heap HB6.out (fun e => by simp [Value.ownBlock] at e; have h1 := (Array.getElem?_eq_some_iff.1 HB5.out).1; have h2 : w4.drew.heap.size = w4.heap.size := rfl; omega))
  have A7 := Lib.hid (AT4.out _ HB7.out)
  rw [Nat.zero_add] at *
  clear ho hg hb g7
  refine hK' _ _ (A7.out) ?_
  clear hK'
  try simp only [Act.put, List.setIfInBounds_toArray, List.set_cons_zero, List.set_cons_succ]
  repeat (first
    | (refine Lex.skips (by rfl) ?_; (try simp only [Act.put, List.setIfInBounds_toArray, List.set_cons_zero, List.set_cons_succ]))
    | (refine Lex.into (by rfl) (by rfl) _ _ rfl _ _ rfl _ _ ((fun _ h => h)) Tryz.underlying25 rfl (by rw [Tryz.infoMod]; rfl) ?_; (try simp only [Act.put, List.setIfInBounds_toArray, List.set_cons_zero, List.set_cons_succ]))
    | (refine Lex.quiet (v := ?_) (by rfl) (by rfl) ?_ ?_; rotate_left; (focus (intro w' hS'; go_simp; try rfl)); (try simp only [Act.put, List.setIfInBounds_toArray, List.set_cons_zero, List.set_cons_succ])))
  refine Lex.loud (by rfl) (by rfl) ?_
  intro K' hK'
  go_simp
  have r8 := (Fr.refl no w7).alloc (.cells #[.slice ga inp.length gc, .int .i64 0, .slice none 0 0] 132)
  have HN8 := Lib.hid (heap_new w7 (.cells #[.slice ga inp.length gc, .int .i64 0, .slice none 0 0] 132))
  have HB8 := Lib.hid (r8.heap HB7.out (by simp))
  have A8 := Lib.hid (AT4.out _ HB8.out)
  have R78 := Lib.hid r8
  clear r8
  refine hK' _ _ (A8.out) ?_
  clear hK'
  try simp only [Act.put, List.setIfInBounds_toArray, List.set_cons_zero, List.set_cons_succ]
  repeat (first
    | (refine Lex.skips (by rfl) ?_; (try simp only [Act.put, List.setIfInBounds_toArray, List.set_cons_zero, List.set_cons_succ]))
    | (refine Lex.into (by rfl) (by rfl) _ _ rfl _ _ rfl _ _ ((fun _ h => h)) Tryz.underlying25 rfl (by rw [Tryz.infoMod]; rfl) ?_; (try simp only [Act.put, List.setIfInBounds_toArray, List.set_cons_zero, List.set_cons_succ]))
    | (refine Lex.quiet (v := ?_) (by rfl) (by rfl) ?_ ?_; rotate_left; (focus (intro w' hS'; go_simp; try rfl)); (try simp only [Act.put, List.setIfInBounds_toArray, List.set_cons_zero, List.set_cons_succ])))
  refine Lex.loud (by rfl) (by rfl) ?_
  intro K' hK'
  go_simp
  have r9 := (Fr.refl no (w7.alloc (.cells #[.slice ga inp.length gc, .int .i64 0, .slice none 0 0] 132))).alloc (.cells #[.slice da m.d.length dc, .slice fa m.f.length fc, .pointer (some ⟨q, 0, none⟩), .pointer (some ⟨w7.heap.size, 0, none⟩), .int .i64 fuel, .int .i64 0, .int .u64 k, .int .i64 0, .slice none 0 0, .int .i64 0, .int .i64 0] 135)
  have hn9 := heap_new (w7.alloc (.cells #[.slice ga inp.length gc, .int .i64 0, .slice none 0 0] 132)) (.cells #[.slice da m.d.length dc, .slice fa m.f.length fc, .pointer (some ⟨q, 0, none⟩), .pointer (some ⟨w7.heap.size, 0, none⟩), .int .i64 fuel, .int .i64 0, .int .u64 k, .int .i64 0, .slice none 0 0, .int .i64 0, .int .i64 0] 135)
  rw [World.size_alloc] at hn9
  have HN9 := Lib.hid hn9
  have HB9 := Lib.hid (r9.heap HB8.out (by simp))
  have A9 := Lib.hid (AT4.out _ HB9.out)
  have HT9 := Lib.hid (r9.heap HN8.out (by simp))
  have R79 := Lib.hid (R78.out.trans r9)
  clear r9 hn9
  refine hK' _ _ (A9.out) ?_
  clear hK'
  try simp only [Act.put, List.setIfInBounds_toArray, List.set_cons_zero, List.set_cons_succ]
  repeat (first
    | (refine Lex.skips (by rfl) ?_; (try simp only [Act.put, List.setIfInBounds_toArray, List.set_cons_zero, List.set_cons_succ]))
    | (refine Lex.quiet (v := ?_) (by rfl) (by rfl) ?_ ?_; rotate_left; (focus (intro w' hS'; go_simp; try rfl)); (try simp only [Act.put, List.setIfInBounds_toArray, List.set_cons_zero, List.set_cons_succ])))
  refine Lex.done ?_
  refine Lex.ends ?_
  clear A5 A6 A7 A8 A9
  generalize (w7.alloc (.cells #[.slice ga inp.length gc, .int .i64 0, .slice none 0 0] 132)).alloc (.cells #[.slice da m.d.length dc, .slice fa m.f.length fc, .pointer (some ⟨q, 0, none⟩), .pointer (some ⟨w7.heap.size, 0, none⟩), .int .i64 fuel, .int .i64 0, .int .u64 k, .int .i64 0, .slice none 0 0, .int .i64 0, .int .i64 0] 135) = w9 at *
  obtain ⟨p, hp⟩ : ∃ p, p = w7.heap.size + 1 := ⟨_, rfl⟩
  rw [← hp]
  obtain ⟨t, ht⟩ : ∃ t, t = w7.heap.size := ⟨_, rfl⟩
  rw [← ht] at HN8 HN9 HT9 hp ⊢
  have R9 := Lib.hid (R7.out.trans R79.out)
  have hg4 : g < w4.heap.size := by
    obtain ⟨cur, hg, -⟩ := HMQ4.out.block
    exact (Array.getElem?_eq_some_iff.1 hg).1
  have HRM : Hid (RMade w w9 B p q g c t k m da dc fa inp (.slice ga inp.length gc)) := Lib.hid ⟨HMQ4.out.fr (R47.out.trans R79.out), ⟨HT9.out, (owns_reads HIO.out).fr R79.out (by simp), HIB.out, fun i hi => by have := (HIO.out.lt i hi).2; omega, World.ownsRow_nil _ _ _ _, Nat.zero_le _, Nat.le_refl _⟩, fun w2 r2 => HMB.out w2 ((R9.out.to (T := fun i => B ≤ i)).trans r2), HBB.out, by have := HG.out.1; have := R2.out.size; omega, by have := HG.out.2; have := R2.out.size; omega, by have := R7.out.size; omega, by omega, by have := R47.out.size; omega, fun i hi => by
    have h1 := (HIO.out.lt i hi).1
    have h2 : w4.drew.heap.size = w4.heap.size := rfl
    have h3 := R4.out.size
    omega, R9.out⟩
  have HPQ : Hid (q ≠ p) := Lib.hid (block_ne HRM.out.mem.obj (by rw [hp]; exact HN9.out) (by decide))
  rw [← hp] at HN9
  have HW : Hid (w.heap.size < g ∧ w.heap.size < p ∧ w.heap.size < t) := Lib.hid (by have h1 := (Array.getElem?_eq_some_iff.1 HB2.out).1; have := HG.out.2; have := R47.out.size; omega)
  clear hg4
  clear hp ht
  have FN : Hid (∀ w', Fr no w w' → ∃ gb go, fa = some ⟨gb, go, none⟩ ∧ w'.cell? ⟨gb, go, none⟩ = some (.int .i64 (fnOf m 0).p) ∧ w'.cell? ⟨gb, go + 1, none⟩ = some (.int .i64 (fnOf m 0).r) ∧ w'.cell? ⟨gb, go + 2, none⟩ = some (.int .i64 (fnOf m 0).a)) := Lib.hid (fun w' r => by
    obtain ⟨b, o, ca, cc, e1, e2⟩ := (HRD.out.fr r).modIn.fns 0 HM1.out.2.1
    have h4 := e2.four
    rw [← fnOf_get HM1.out.2.1, Nat.zero_mul, Nat.add_zero] at h4
    exact ⟨b, o, e1, h4.1, h4.2.1, h4.2.2.1⟩)
  obtain ⟨gb, go, hfa, cp, cr, ca⟩ := FN.out _ (R9.out.trans (Fr.refl no w9).drew)
  have ck := fnOf_ck HNB.out.1 HM1.out.2.1
  obtain ⟨rn, hrn⟩ : ∃ rn : Nat, (fnOf m 0).r = rn := ⟨(fnOf m 0).r.toNat, by omega⟩
  obtain ⟨an, han⟩ : ∃ an : Nat, (fnOf m 0).a = an := ⟨(fnOf m 0).a.toNat, by omega⟩
  obtain ⟨pn, hpn⟩ : ∃ pn : Nat, (fnOf m 0).p = pn := ⟨(fnOf m 0).p.toNat, by omega⟩
  have hrn64 : rn ≤ 64 := by omega
  have han96 : an ≤ 4096 := by omega
  have hpn8 : pn ≤ 8 := by omega
  have HFS : Hid (fsz (fnOf m 0) = r16 (8 * rn + an)) := Lib.hid (by rw [fsz_r16 (by omega) (by omega), hrn, han]; rfl)
  have HPN : Hid ((fnOf m 0).p.toNat = pn) := Lib.hid (by rw [hpn]; rfl)
  rw [hrn] at cr
  rw [han] at ca
  rw [hpn] at cp
  have FC : Hid (∀ w', Fr no w w' → w'.cell? ⟨gb, go, none⟩ = some (.int .i64 pn)) := Lib.hid (fun w' r => by
    obtain ⟨b', o', e1, e2, -⟩ := FN.out w' r
    rw [hfa] at e1
    cases e1
    rw [e2, hpn])
  have HFA := Lib.hid hfa
  have HARG : Hid (NewArg m k inp fuel) := Lib.hid ⟨HNB.out.1, HSM.out, HKB.out.1, HKB.out.2, by have := HNB.out.2.2.2.2.2; omega, HFL.out, HIL.out, HIB.out, by have := HNB.out.2.1; omega, by have := HNB.out.2.2.1; omega⟩
  have HN16 : Hid (k % 16 = 0) := Lib.hid HARG.out.n16
  have hfll := HFL.out
  have hk65 := HKB.out.2
  have hf16 := flr_16 m
  clear hrn han hpn ck cp hfa
  go_upto_region 9 with (fail)
  have S9 : Hid ((fun w' : World => w'.cell? ⟨p, 6, none⟩ = some (.int .u64 k) ∧ w'.cell? ⟨w.heap.size, 1, none⟩ = some (.slice (some ⟨gb, go, none⟩) m.f.length fc) ∧ w'.cell? ⟨gb, go + 1, none⟩ = some (.int .i64 rn) ∧ w'.cell? ⟨gb, go + 2, none⟩ = some (.int .i64 an)) w9.drew) := Lib.hid ⟨cell_of_heap (w := w9.drew) HN9.out rfl, by rw [← HFA.out]; exact cell_of_heap (w := w9.drew) HB9.out rfl, cr, ca⟩
  have hfl0 : 0 < m.f.length := HM1.out.2.1
  have HN10 : Hid (w9.drew.heap[p]? = some (.cells #[.slice da m.d.length dc, .slice fa m.f.length fc, .pointer (some ⟨q, 0, none⟩), .pointer (some ⟨t, 0, none⟩), .int .i64 fuel, .int .i64 0, .int .u64 k, .int .i64 0, .slice none 0 0, .int .i64 0, .int .i64 0] 135 (0, 0))) := Lib.hid HN9.out
  have HB10 : Hid (w9.drew.heap[w.heap.size]? = some (.cells #[.slice da m.d.length dc, .slice fa m.f.length fc] 25 (0, 0))) := Lib.hid HB9.out
  have HRM10 := Lib.hid (HRM.out.step (Fr.refl (only [p]) w9).drew HPQ.out)
  clear cr ca
  refine Lex.region [15] [20, 1] (by kernel_rfl) (by kernel_rfl) ?_
  refine Lex.opens (fun w' => w'.cell? ⟨p, 6, none⟩ = some (.int .u64 k) ∧ w'.cell? ⟨w.heap.size, 1, none⟩ = some (.slice (some ⟨gb, go, none⟩) m.f.length fc) ∧ w'.cell? ⟨gb, go + 1, none⟩ = some (.int .i64 rn) ∧ w'.cell? ⟨gb, go + 2, none⟩ = some (.int .i64 an)) (S9.out) ?_
  repeat (first
    | (refine Lex.skips (by rfl) ?_; (try simp only [Act.put, List.setIfInBounds_toArray, List.set_cons_zero, List.set_cons_succ]))
    | (refine Lex.quiet (v := ?_) (by rfl) (by rfl) ?_ ?_; rotate_left; (focus (intro w' hS'; go_simp; try rfl)); (try simp only [Act.put, List.setIfInBounds_toArray, List.set_cons_zero, List.set_cons_succ])))
  refine Lex.loud (by rfl) (by rfl) ?_
  intro K' hK'
  go_simp
  by_cases hA : k < flr m + r16 (8 * rn + an)
  · have HFIT : Hid (fits0 m k = false) := Lib.hid (by unfold fits0; rw [HFS.out]; exact decide_eq_false (by omega))
    refine (refpush_full _ k (flr m) rn an hrn64 han96 HN16.out hk65 hf16 (by omega) hA).mono ?_
    rintro e w' ⟨rfl, rfl⟩
    clear hA
    refine hK' _ _ (S9.out) ?_
    clear hK'
    try simp only [Act.put, List.setIfInBounds_toArray, List.set_cons_zero, List.set_cons_succ]
    repeat (first
      | (refine Lex.skips (by rfl) ?_; (try simp only [Act.put, List.setIfInBounds_toArray, List.set_cons_zero, List.set_cons_succ]))
      | (refine Lex.quiet (v := ?_) (by rfl) (by rfl) ?_ ?_; rotate_left; (focus (intro w' hS'; go_simp; try rfl)); (try simp only [Act.put, List.setIfInBounds_toArray, List.set_cons_zero, List.set_cons_succ])))
    refine Lex.done ?_
    refine Lex.opens (fun w' => True) (trivial) ?_
    repeat (first
      | (refine Lex.skips (by rfl) ?_; (try simp only [Act.put, List.setIfInBounds_toArray, List.set_cons_zero, List.set_cons_succ]))
      | (refine Lex.quiet (v := ?_) (by rfl) (by rfl) ?_ ?_; rotate_left; (focus (intro w' hS'; go_simp; try rfl)); (try simp only [Act.put, List.setIfInBounds_toArray, List.set_cons_zero, List.set_cons_succ])))
    refine Lex.done ?_
    refine Lex.ends ?_
    generalize w9.drew = w10 at *
    have d9 : w10.cell? ⟨p, 9, none⟩ = some (.int .i64 0) := cell_of_heap HN10.out rfl
    have f9 : w10.frozen? ⟨p, 9, none⟩ = false := frozen_of_heap HN10.out
    have HN11 : Hid ((w10.setCell ⟨p, 9, none⟩ (.int .i64 3)).heap[p]? = some (.cells #[.slice da m.d.length dc, .slice fa m.f.length fc, .pointer (some ⟨q, 0, none⟩), .pointer (some ⟨t, 0, none⟩), .int .i64 fuel, .int .i64 0, .int .u64 k, .int .i64 0, .slice none 0 0, .int .i64 3, .int .i64 0] 135 (0, 0))) := Lib.hid (heap_setCell (o := 9) HN10.out)
    have HRM11 := Lib.hid (HRM10.out.step ((Fr.refl (only [p]) w10).setCell ⟨p, 9, none⟩ (.int .i64 3) (.inl (by simp))) HPQ.out)
    go_wp2_with fail
    go_ret2
    refine ⟨_, rfl, _, _, ⟨_, by rw [show newS m k inp fuel = { sp0 m k inp fuel with e := (3, 0) } from by unfold newS; rw [HFIT.out]; rfl]; exact HRM11.out.space (fc := fc) (s := { sp0 m k inp fuel with e := (3, 0) }) rfl rfl HARG.out.blen rfl rfl rfl rfl HARG.out.ended HN11.out⟩, fun i hi => ?_, fun i hi => ?_, HRM11.out.fr⟩
    · have := HW.out; rcases hi with e | e | e <;> omega
    · rcases hi with e | e | e
      · exact .inl e
      · exact .inr (by have := HRM11.out.bq; omega)
      · exact .inr (HRM11.out.tv i e).1
  · have HFIT : Hid (fits0 m k = true) := Lib.hid (by unfold fits0; rw [HFS.out]; exact decide_eq_true (by omega))
    refine (refpush_room _ k (flr m) rn an hrn64 han96 HN16.out hk65 hf16 (by omega) hA).mono ?_
    rintro e w' ⟨rfl, rfl⟩
    clear hA
    refine hK' _ _ (S9.out) ?_
    clear hK'
    try simp only [Act.put, List.setIfInBounds_toArray, List.set_cons_zero, List.set_cons_succ]
    repeat (first
      | (refine Lex.skips (by rfl) ?_; (try simp only [Act.put, List.setIfInBounds_toArray, List.set_cons_zero, List.set_cons_succ]))
      | (refine Lex.quiet (v := ?_) (by rfl) (by rfl) ?_ ?_; rotate_left; (focus (intro w' hS'; go_simp; try rfl)); (try simp only [Act.put, List.setIfInBounds_toArray, List.set_cons_zero, List.set_cons_succ])))
    refine Lex.done ?_
    refine Lex.opens (fun w' => True) (trivial) ?_
    repeat (first
      | (refine Lex.skips (by rfl) ?_; (try simp only [Act.put, List.setIfInBounds_toArray, List.set_cons_zero, List.set_cons_succ]))
      | (refine Lex.quiet (v := ?_) (by rfl) (by rfl) ?_ ?_; rotate_left; (focus (intro w' hS'; go_simp; try rfl)); (try simp only [Act.put, List.setIfInBounds_toArray, List.set_cons_zero, List.set_cons_succ])))
    refine Lex.done ?_
    refine Lex.ends ?_
    generalize w9.drew = w10 at *
    have d6 : w10.cell? ⟨p, 6, none⟩ = some (.int .u64 k) := cell_of_heap HN10.out rfl
    have f6 : w10.frozen? ⟨p, 6, none⟩ = false := frozen_of_heap HN10.out
    have HN11 : Hid ((w10.setCell ⟨p, 6, none⟩ (.int .u64 (k - r16 (8 * rn + an) : Nat))).heap[p]? = some (.cells #[.slice da m.d.length dc, .slice fa m.f.length fc, .pointer (some ⟨q, 0, none⟩), .pointer (some ⟨t, 0, none⟩), .int .i64 fuel, .int .i64 0, .int .u64 (k - r16 (8 * rn + an) : Nat), .int .i64 0, .slice none 0 0, .int .i64 0, .int .i64 0] 135 (0, 0))) := Lib.hid (heap_setCell (o := 6) HN10.out)
    have r11 := (Fr.refl (only [p]) w10).setCell ⟨p, 6, none⟩ (.int .u64 (k - r16 (8 * rn + an) : Nat)) (.inl (by simp))
    have HRM11 := Lib.hid (HRM10.out.step r11 HPQ.out)
    have HB11 := Lib.hid (r11.heap HB10.out (by have := HW.out; simp; omega))
    have HSP : Hid (RSpAt (w10.setCell ⟨p, 6, none⟩ (.int .u64 (k - r16 (8 * rn + an) : Nat))) (fun i => i = p ∨ i = g ∨ i = t) (fun i => i < B ∨ i = q ∨ (Value.slice ga inp.length gc).ownBlock = some i) p ((sp1 m k inp fuel).layS 0 (List.replicate 0 0)) ⟨da, dc, fa, fc, q, g, c, t, t, .slice ga inp.length gc, .slice none 0 0, .slice none 0 0⟩) := Lib.hid (HRM11.out.space (fc := fc) (s := sp1 m k inp fuel) rfl rfl HARG.out.blen rfl rfl rfl rfl (HARG.out.one HFIT.out) (by
      have e : k - r16 (8 * rn + an) = k - fsz (fnOf m 0) := by rw [HFS.out]
      exact HN11.out.trans (by rw [e]; rfl)))
    clear r11
    go_upto_region 15 with (fail)
    generalize w10.setCell ⟨p, 6, none⟩ (.int .u64 (k - r16 (8 * rn + an) : Nat)) = w11 at *
    clear d6 f6
    go_wp2_with fail
    go_loopw [17] (fun y wr => ∃ j : Nat, j ≤ pn ∧ y = .int .i64 j ∧ Hid (RSpAt wr (fun i => i = p ∨ i = g ∨ i = t) (fun i => i < B ∨ i = q ∨ (Value.slice ga inp.length gc).ownBlock = some i) p ((sp1 m k inp fuel).layS 0 (List.replicate j 0)) ⟨da, dc, fa, fc, q, g, c, t, t, .slice ga inp.length gc, .slice none 0 0, .slice none 0 0⟩) ∧ Hid (Fr no w wr) ∧ Hid (wr.heap[w.heap.size]? = some (.cells #[.slice da m.d.length dc, .slice fa m.f.length fc] 25 (0, 0)))) (fun y _ => (pn - intOf y).toNat)
    case atStart => exact ⟨0, by omega, by simp, HSP, Lib.hid HRM11.out.fr, HB11⟩
    case round =>
      obtain ⟨j, hj, rfl, hsp, hfr, hmb⟩ := hrel
      have m1 : wr.cell? ⟨w.heap.size, 1, none⟩ = some (.slice (some ⟨gb, go, none⟩) m.f.length fc) := by rw [← HFA.out]; exact cell_of_heap hmb.out rfl
      have p0 := FC.out wr hfr.out
      by_cases hjl : j < pn
      · have hlt : (j : Int) < pn := by omega
        have hrg := HARG.out.rg (k := j) (by rw [HPN.out]; exact hjl) (List.replicate j 0)
        have hst := rset_ok wr j 0 (by decide) hsp.out
        rw [setS_0 hrg.2 hrg.1, ← lay_zero] at hst
        have HST := Lib.hid hst
        clear hrg hst
        go_wp2_with fail
        refine HST.out.mono ?_
        rintro e w12 ⟨rfl, hs12, r12⟩
        have H12 := Lib.hid hs12
        have R12 := Lib.hid (hfr.out.trans' r12 (fun i hi _ => by have := HW.out; rcases hi with e | e | e <;> omega))
        have B12 := Lib.hid (r12.heap hmb.out (fun hi => by have := HW.out; rcases hi with e | e | e <;> omega))
        clear hs12 r12
        go_wp2_with fail
        go_roundw
        case rel => exact ⟨j + 1, by omega, by go_num, H12, R12, B12⟩
        case measure => first | (simp [intOf]; done) | (simp [intOf]; omega)
      · obtain rfl : j = pn := by omega
        have HNS : Hid (newS m k inp fuel = (sp1 m k inp fuel).layS 0 (List.replicate j 0)) := Lib.hid (by unfold newS; rw [HFIT.out, if_pos rfl, HPN.out])
        have hlt : ¬ ((j : Nat) : Int) < j := by omega
        go_wp2_with fail
        go_ret2
        refine ⟨_, rfl, _, _, ⟨_, by rw [HNS.out]; exact hsp.out⟩, fun i hi => ?_, fun i hi => ?_, hfr.out⟩
        · have := HW.out; rcases hi with e | e | e <;> omega
        · rcases hi with e | e | e
          · exact .inl e
          · exact .inr (by have := HRM11.out.bq; omega)
          · exact .inr (HRM11.out.tv i e).1
end

end Go.Proofs.YtihnkijeefkefaaGreat

set_option linter.unusedSimpArgs false
set_option linter.unusedVariables false
set_option linter.unusedSectionVars false
set_option linter.unnecessarySimpa false
set_option maxRecDepth 100000
/- Are two spaces of the document the same? -/
namespace Go.Proofs.YtihnkijeefkefaaGreat
open Go.RowKit

attribute [local go_sem] Program.isFuncB Program.isSliceB

variable {w w' w'' w0 w1 : World} {O R O2 R2 X : Nat → Prop} {p q : Nat} {s s' t t' : Zp} {z y : Rz}

theorem run_cut {n c a : Nat} (ia : Option Addr) (ha : a ≤ n) (w : World) : (Go.Instr.slice 22 (.slice ia n c) (some (.int .i64 a)) none none).run Tryz.prog w = .ok (.slice (if c = a then ia else ia.map (·.add (a * 1))) (n - a) (c - a)) w := by
  have hto : ((a : Nat) : Int).toNat = a := rfl
  have h0 : (0 : Int) ≤ a := by omega
  have h1 : (a : Int) ≤ n := by omega
  by_cases hc : c = a
  · subst hc
    go_simp
  · go_simp
theorem at_two {b : Nat} {u v : Value} (h : w.cell? ⟨b, 0, none⟩ = some u) (k : w.cell? ⟨b, 1, none⟩ = some v) : At w b 0 [u, v] := fun j x hj => by
  match j, hj with
  | 0, e => cases e; exact h
  | 1, e => cases e; exact k
theorem rlinksC_at (l : List Lk) (k : Nat) (h : k < l.length) : ((rlinksC l).drop (k * 4)).take 4 = [.int .i64 l[k].f, .int .u64 l[k].at_, .int .i64 l[k].back, .int .i64 l[k].res] := by
  have hl : l = l.take k ++ l[k] :: l.drop (k + 1) := by rw [← List.drop_eq_getElem_cons h, List.take_append_drop]
  have hk : (l.take k).length = k := by rw [List.length_take]; omega
  conv => lhs; rw [hl, rlinksC_app]
  rw [List.drop_left' (by rw [rlinksC_len, hk])]
  rfl
/-- what the comparison reads of a space -/
structure RCells (w : World) (p : Nat) (s : Zp) (da : Option Addr) (dc : Nat) (fa : Option Addr) (fc q t : Nat) (ia : Option Addr) (n ic a : Nat) (ka : Option Addr) (kn kc : Nat) : Prop where
  c0 : w.cell? ⟨p, 0, none⟩ = some (.slice da s.m.d.length dc)
  c1 : w.cell? ⟨p, 1, none⟩ = some (.slice fa s.m.f.length fc)
  c2 : w.cell? ⟨p, 2, none⟩ = some (.pointer (some ⟨q, 0, none⟩))
  c3 : w.cell? ⟨p, 3, none⟩ = some (.pointer (some ⟨t, 0, none⟩))
  c4 : w.cell? ⟨p, 4, none⟩ = some (.int .i64 s.fuel)
  c5 : w.cell? ⟨p, 5, none⟩ = some (.int .i64 s.f)
  c6 : w.cell? ⟨p, 6, none⟩ = some (.int .u64 s.at_)
  c7 : w.cell? ⟨p, 7, none⟩ = some (.int .i64 s.pc)
  c8 : w.cell? ⟨p, 8, none⟩ = some (.slice ka kn kc)
  t0 : w.cell? ⟨t, 0, none⟩ = some (.slice ia n ic)
  t1 : w.cell? ⟨t, 1, none⟩ = some (.int .i64 a)
theorem RSpAt.cells (h : RSpAt w O R p s z) : ∃ ia n ic a ka kn kc, s.inp.length = n ∧ s.pos = a ∧ s.ls.length = kn ∧ Reads w (.slice ia n ic) 1 n (u8s s.inp) ∧ w.ownsRow 0 143 4 (.slice ka kn kc) kn (rlinksC s.ls) ∧ ∀ w', Fr no w w' → RCells w' p s z.da z.dc z.fa z.fc z.q z.t ia n ic a ka kn kc := by
  obtain ⟨ia, ic, hiv⟩ := h.tape.inn.shape
  obtain ⟨ka, kc, hkv⟩ := owns_shape h.links
  have h1 := h.tape.inn
  have h2 := h.links
  rw [hiv] at h1
  rw [hkv] at h2
  refine ⟨ia, _, ic, _, ka, _, kc, rfl, rfl, rfl, h1, h2, fun w' r => ?_⟩
  have ho := r.heap h.obj (by simp)
  have ht := r.heap h.tape.obj (by simp)
  exact ⟨cell_of_heap ho rfl, cell_of_heap ho rfl, cell_of_heap ho rfl, cell_of_heap ho rfl, cell_of_heap ho rfl, cell_of_heap ho rfl, cell_of_heap ho rfl, cell_of_heap ho rfl, by rw [← hkv]; exact cell_of_heap ho rfl, by rw [← hiv]; exact cell_of_heap ht rfl, cell_of_heap ht rfl⟩
attribute [local irreducible] sameS
set_option maxHeartbeats 8000000 in
theorem rssame_ok (w : World) (h : RSpAt w O R p s z) (h2 : RSpAt w O2 R2 q t y) (hl : s.ds.length ≤ 100000) (hl2 : t.ds.length ≤ 100000) : Calls Tryz.prog 38 #[.pointer (some ⟨p, 0, none⟩), .pointer (some ⟨q, 0, none⟩)] w fun e w' => e = .returned (.bool (sameS s t)) ∧ Fr no w w' := by
  have H := Lib.hid h
  have K := Lib.hid h2
  obtain ⟨ia, n, ic, a, ka, kn, kc, hn, ha, hkn, hrd, hlk, hcp⟩ := h.cells
  obtain ⟨ib, n2, ic2, b, kb, kn2, kc2, hn2, hb, hkn2, hrd2, hlk2, hcq⟩ := h2.cells
  have CP := Lib.hid hcp
  have CQ := Lib.hid hcq
  have HDS := Lib.hid (And.intro hl hl2)
  have hle : a ≤ n := by have := h.ok.ip; omega
  have hle2 : b ≤ n2 := by have := h2.ok.ip; omega
  have hkn256 : kn ≤ 256 := by have := h.ok.ll; omega
  obtain ⟨V1, hV1⟩ : ∃ V, V = Value.slice (if ic = a then ia else ia.map (·.add (a * 1))) (n - a) (ic - a) := ⟨_, rfl⟩
  obtain ⟨V2, hV2⟩ : ∃ V, V = Value.slice (if ic2 = b then ib else ib.map (·.add (b * 1))) (n2 - b) (ic2 - b) := ⟨_, rfl⟩
  have hcut1 := fun w => run_cut (c := ic) ia hle w
  have hcut2 := fun w => run_cut (c := ic2) ib hle2 w
  have hr1 := reads_from hrd hle
  have hr2 := reads_from hrd2 hle2
  rw [← hV1] at hcut1 hr1
  rw [← hV2] at hcut2 hr2
  have HR1 : Hid (Reads w V1 1 (s.inp.drop s.pos).length (u8s (s.inp.drop s.pos))) := Lib.hid (by rw [List.length_drop, hn, ha]; exact hr1)
  have HR2 : Hid (Reads w V2 1 (t.inp.drop t.pos).length (u8s (t.inp.drop t.pos))) := Lib.hid (by rw [List.length_drop, hn2, hb]; exact hr2)
  have HSE := Lib.hid (strB_eq (s.inp.drop s.pos) (t.inp.drop t.pos) (fun x hx => h.ok.ib x (List.mem_of_mem_drop hx)) (fun x hx => h2.ok.ib x (List.mem_of_mem_drop hx)))
  have HLK := Lib.hid hlk
  have HLK2 := Lib.hid hlk2
  have HKN := Lib.hid hkn
  have HKN2 := Lib.hid hkn2
  have R0 := Lib.hid (Fr.refl no w)
  clear h h2 hl hl2 hcp hcq hrd hrd2 hr1 hr2 hV1 hV2 hlk hlk2 hn ha hn2 hb hkn hkn2
  obtain ⟨sa, hsa⟩ : ∃ sa, sa = strB (s.inp.drop s.pos) := ⟨_, rfl⟩
  obtain ⟨sb, hsb⟩ : ∃ sb, sb = strB (t.inp.drop t.pos) := ⟨_, rfl⟩
  rw [← hsa, ← hsb] at HSE
  have SS : Hid (∀ w', Fr no w w' → (fun w' : World => At w' p 0 [.slice z.da s.m.d.length z.dc, .slice z.fa s.m.f.length z.fc] ∧ At w' q 0 [.slice y.da t.m.d.length y.dc, .slice y.fa t.m.f.length y.fc] ∧ w'.cell? ⟨p, 2, none⟩ = some (.pointer (some ⟨z.q, 0, none⟩)) ∧ w'.cell? ⟨p, 3, none⟩ = some (.pointer (some ⟨z.t, 0, none⟩)) ∧ w'.cell? ⟨p, 8, none⟩ = some (.slice ka kn kc) ∧ w'.cell? ⟨z.t, 0, none⟩ = some (.slice ia n ic) ∧ w'.cell? ⟨z.t, 1, none⟩ = some (.int .i64 a) ∧ w'.cell? ⟨q, 2, none⟩ = some (.pointer (some ⟨y.q, 0, none⟩)) ∧ w'.cell? ⟨q, 3, none⟩ = some (.pointer (some ⟨y.t, 0, none⟩)) ∧ w'.cell? ⟨q, 8, none⟩ = some (.slice kb kn2 kc2) ∧ w'.cell? ⟨y.t, 0, none⟩ = some (.slice ib n2 ic2) ∧ w'.cell? ⟨y.t, 1, none⟩ = some (.int .i64 b) ∧ (convert 22 9 V1).run Tryz.prog w' = .ok (.string sa) w' ∧ (convert 22 9 V2).run Tryz.prog w' = .ok (.string sb) w') w') := Lib.hid (fun w' r => by
    obtain ⟨c0, c1, c2, c3, c4, c5, c6, c7, c8, t0, t1⟩ := CP.out _ r
    obtain ⟨d0, d1, d2, d3, d4, d5, d6, d7, d8, u0, u1⟩ := CQ.out _ r
    exact ⟨at_two c0 c1, at_two d0 d1, c2, c3, c8, t0, t1, d2, d3, d8, u0, u1, by rw [hsa]; exact conv_reads (HR1.out.fr r (by simp)) 9 Tryz.underlying9, by rw [hsb]; exact conv_reads (HR2.out.fr r (by simp)) 9 Tryz.underlying9⟩)
  clear hsa hsb
  go_enter Tryz.func38, Tryz.ntmps38
  go_upto_region 1 with (fail)
  have R1 := Lib.hid (Fr.refl no w).drew
  have H1 := Lib.hid (H.out.fr R1.out)
  have K1 := Lib.hid (K.out.fr R1.out)
  have S1 := Lib.hid (SS.out _ R1.out)
  by_cases h5 : s.m = t.m
  case neg =>
    have E5 : Hid (decide (s.m = t.m) = false) := Lib.hid (decide_eq_false h5)
    have HQ : Hid (sameS s t = false) := Lib.hid (by simp [sameS, h5])
    clear h5
    refine Lex.region [8, 19, 24, 26, 27] [78] (by kernel_rfl) (by kernel_rfl) ?_
    refine Lex.opens (fun w' : World => At w' p 0 [.slice z.da s.m.d.length z.dc, .slice z.fa s.m.f.length z.fc] ∧ At w' q 0 [.slice y.da t.m.d.length y.dc, .slice y.fa t.m.f.length y.fc] ∧ w'.cell? ⟨p, 2, none⟩ = some (.pointer (some ⟨z.q, 0, none⟩)) ∧ w'.cell? ⟨p, 3, none⟩ = some (.pointer (some ⟨z.t, 0, none⟩)) ∧ w'.cell? ⟨p, 8, none⟩ = some (.slice ka kn kc) ∧ w'.cell? ⟨z.t, 0, none⟩ = some (.slice ia n ic) ∧ w'.cell? ⟨z.t, 1, none⟩ = some (.int .i64 a) ∧ w'.cell? ⟨q, 2, none⟩ = some (.pointer (some ⟨y.q, 0, none⟩)) ∧ w'.cell? ⟨q, 3, none⟩ = some (.pointer (some ⟨y.t, 0, none⟩)) ∧ w'.cell? ⟨q, 8, none⟩ = some (.slice kb kn2 kc2) ∧ w'.cell? ⟨y.t, 0, none⟩ = some (.slice ib n2 ic2) ∧ w'.cell? ⟨y.t, 1, none⟩ = some (.int .i64 b) ∧ (convert 22 9 V1).run Tryz.prog w' = .ok (.string sa) w' ∧ (convert 22 9 V2).run Tryz.prog w' = .ok (.string sb) w') (S1.out) ?_
    repeat (first
      | (refine Lex.skips (by rfl) ?_; (try simp only [Act.put, List.setIfInBounds_toArray, List.set_cons_zero, List.set_cons_succ]))
      | (refine Lex.into (by rfl) (by rfl) _ _ rfl _ _ rfl _ _ ((fun _ h => h.1)) Tryz.underlying25 rfl (by rw [Tryz.infoMod]; rfl) ?_; (try simp only [Act.put, List.setIfInBounds_toArray, List.set_cons_zero, List.set_cons_succ]))
      | (refine Lex.into (by rfl) (by rfl) _ _ rfl _ _ rfl _ _ ((fun _ h => h.2.1)) Tryz.underlying25 rfl (by rw [Tryz.infoMod]; rfl) ?_; (try simp only [Act.put, List.setIfInBounds_toArray, List.set_cons_zero, List.set_cons_succ]))
      | (refine Lex.quiet (v := ?_) (by rfl) (by rfl) ?_ ?_; rotate_left; (focus (intro w' hS'; go_simp; try rfl)); (try simp only [Act.put, List.setIfInBounds_toArray, List.set_cons_zero, List.set_cons_succ])))
    refine Lex.loud (by rfl) (by rfl) ?_
    intro K' hK'
    go_simp
    refine (refsame_mod _ s.m t.m z.da z.fa y.da y.fa z.dc z.fc y.dc y.fc H1.out.tabs K1.out.tabs H1.out.ok.sm K1.out.ok.sm).mono ?_
    rintro e w2 ⟨rfl, r2⟩
    rw [E5.out]
    have R2 := Lib.hid (R1.out.trans r2)
    have S2 := Lib.hid (SS.out _ R2.out)
    clear r2
    refine hK' _ _ (S2.out) ?_
    clear hK'
    try simp only [Act.put, List.setIfInBounds_toArray, List.set_cons_zero, List.set_cons_succ]
    repeat (first
      | (refine Lex.skips (by rfl) ?_; (try simp only [Act.put, List.setIfInBounds_toArray, List.set_cons_zero, List.set_cons_succ]))
      | (refine Lex.into (by rfl) (by rfl) _ _ rfl _ _ rfl _ _ ((fun _ h => h.1)) Tryz.underlying25 rfl (by rw [Tryz.infoMod]; rfl) ?_; (try simp only [Act.put, List.setIfInBounds_toArray, List.set_cons_zero, List.set_cons_succ]))
      | (refine Lex.into (by rfl) (by rfl) _ _ rfl _ _ rfl _ _ ((fun _ h => h.2.1)) Tryz.underlying25 rfl (by rw [Tryz.infoMod]; rfl) ?_; (try simp only [Act.put, List.setIfInBounds_toArray, List.set_cons_zero, List.set_cons_succ]))
      | (refine Lex.quiet (v := ?_) (by rfl) (by rfl) ?_ ?_; rotate_left; (focus (intro w' hS'; go_simp; try rfl)); (try simp only [Act.put, List.setIfInBounds_toArray, List.set_cons_zero, List.set_cons_succ])))
    refine Lex.done ?_
    refine Lex.ends ?_
    go_wp2_with fail
    go_ret
    exact ⟨by rw [HQ.out]; rfl, R2.out⟩
  have E5 : Hid (decide (s.m = t.m) = true) := Lib.hid (decide_eq_true h5)
  have G5 := Lib.hid h5
  clear h5
  by_cases h6 : s.b = t.b
  case neg =>
    have E6 : Hid (decide (s.b = t.b) = false) := Lib.hid (decide_eq_false h6)
    have HQ : Hid (sameS s t = false) := Lib.hid (by simp [sameS, h6])
    clear h6
    refine Lex.region [8, 19, 24, 26, 27] [78] (by kernel_rfl) (by kernel_rfl) ?_
    refine Lex.opens (fun w' : World => At w' p 0 [.slice z.da s.m.d.length z.dc, .slice z.fa s.m.f.length z.fc] ∧ At w' q 0 [.slice y.da t.m.d.length y.dc, .slice y.fa t.m.f.length y.fc] ∧ w'.cell? ⟨p, 2, none⟩ = some (.pointer (some ⟨z.q, 0, none⟩)) ∧ w'.cell? ⟨p, 3, none⟩ = some (.pointer (some ⟨z.t, 0, none⟩)) ∧ w'.cell? ⟨p, 8, none⟩ = some (.slice ka kn kc) ∧ w'.cell? ⟨z.t, 0, none⟩ = some (.slice ia n ic) ∧ w'.cell? ⟨z.t, 1, none⟩ = some (.int .i64 a) ∧ w'.cell? ⟨q, 2, none⟩ = some (.pointer (some ⟨y.q, 0, none⟩)) ∧ w'.cell? ⟨q, 3, none⟩ = some (.pointer (some ⟨y.t, 0, none⟩)) ∧ w'.cell? ⟨q, 8, none⟩ = some (.slice kb kn2 kc2) ∧ w'.cell? ⟨y.t, 0, none⟩ = some (.slice ib n2 ic2) ∧ w'.cell? ⟨y.t, 1, none⟩ = some (.int .i64 b) ∧ (convert 22 9 V1).run Tryz.prog w' = .ok (.string sa) w' ∧ (convert 22 9 V2).run Tryz.prog w' = .ok (.string sb) w') (S1.out) ?_
    repeat (first
      | (refine Lex.skips (by rfl) ?_; (try simp only [Act.put, List.setIfInBounds_toArray, List.set_cons_zero, List.set_cons_succ]))
      | (refine Lex.into (by rfl) (by rfl) _ _ rfl _ _ rfl _ _ ((fun _ h => h.1)) Tryz.underlying25 rfl (by rw [Tryz.infoMod]; rfl) ?_; (try simp only [Act.put, List.setIfInBounds_toArray, List.set_cons_zero, List.set_cons_succ]))
      | (refine Lex.into (by rfl) (by rfl) _ _ rfl _ _ rfl _ _ ((fun _ h => h.2.1)) Tryz.underlying25 rfl (by rw [Tryz.infoMod]; rfl) ?_; (try simp only [Act.put, List.setIfInBounds_toArray, List.set_cons_zero, List.set_cons_succ]))
      | (refine Lex.quiet (v := ?_) (by rfl) (by rfl) ?_ ?_; rotate_left; (focus (intro w' hS'; go_simp; try rfl)); (try simp only [Act.put, List.setIfInBounds_toArray, List.set_cons_zero, List.set_cons_succ])))
    refine Lex.loud (by rfl) (by rfl) ?_
    intro K' hK'
    go_simp
    refine (refsame_mod _ s.m t.m z.da z.fa y.da y.fa z.dc z.fc y.dc y.fc H1.out.tabs K1.out.tabs H1.out.ok.sm K1.out.ok.sm).mono ?_
    rintro e w2 ⟨rfl, r2⟩
    rw [E5.out]
    have R2 := Lib.hid (R1.out.trans r2)
    have S2 := Lib.hid (SS.out _ R2.out)
    clear r2
    refine hK' _ _ (S2.out) ?_
    clear hK'
    try simp only [Act.put, List.setIfInBounds_toArray, List.set_cons_zero, List.set_cons_succ]
    repeat (first
      | (refine Lex.skips (by rfl) ?_; (try simp only [Act.put, List.setIfInBounds_toArray, List.set_cons_zero, List.set_cons_succ]))
      | (refine Lex.into (by rfl) (by rfl) _ _ rfl _ _ rfl _ _ ((fun _ h => h.1)) Tryz.underlying25 rfl (by rw [Tryz.infoMod]; rfl) ?_; (try simp only [Act.put, List.setIfInBounds_toArray, List.set_cons_zero, List.set_cons_succ]))
      | (refine Lex.into (by rfl) (by rfl) _ _ rfl _ _ rfl _ _ ((fun _ h => h.2.1)) Tryz.underlying25 rfl (by rw [Tryz.infoMod]; rfl) ?_; (try simp only [Act.put, List.setIfInBounds_toArray, List.set_cons_zero, List.set_cons_succ]))
      | (refine Lex.quiet (v := ?_) (by rfl) (by rfl) ?_ ?_; rotate_left; (focus (intro w' hS'; go_simp; try rfl)); (try simp only [Act.put, List.setIfInBounds_toArray, List.set_cons_zero, List.set_cons_succ])))
    refine Lex.loud (by rfl) (by rfl) ?_
    intro K' hK'
    go_simp
    refine (rsame_ok w2 (H.out.fr R2.out).mem (K.out.fr R2.out).mem).mono ?_
    rintro e w3 ⟨rfl, r3⟩
    rw [E6.out]
    have R3 := Lib.hid (R2.out.trans r3)
    have S3 := Lib.hid (SS.out _ R3.out)
    clear r3
    refine hK' _ _ (S3.out) ?_
    clear hK'
    try simp only [Act.put, List.setIfInBounds_toArray, List.set_cons_zero, List.set_cons_succ]
    repeat (first
      | (refine Lex.skips (by rfl) ?_; (try simp only [Act.put, List.setIfInBounds_toArray, List.set_cons_zero, List.set_cons_succ]))
      | (refine Lex.into (by rfl) (by rfl) _ _ rfl _ _ rfl _ _ ((fun _ h => h.1)) Tryz.underlying25 rfl (by rw [Tryz.infoMod]; rfl) ?_; (try simp only [Act.put, List.setIfInBounds_toArray, List.set_cons_zero, List.set_cons_succ]))
      | (refine Lex.into (by rfl) (by rfl) _ _ rfl _ _ rfl _ _ ((fun _ h => h.2.1)) Tryz.underlying25 rfl (by rw [Tryz.infoMod]; rfl) ?_; (try simp only [Act.put, List.setIfInBounds_toArray, List.set_cons_zero, List.set_cons_succ]))
      | (refine Lex.quiet (v := ?_) (by rfl) (by rfl) ?_ ?_; rotate_left; (focus (intro w' hS'; go_simp; try rfl)); (try simp only [Act.put, List.setIfInBounds_toArray, List.set_cons_zero, List.set_cons_succ])))
    refine Lex.done ?_
    refine Lex.ends ?_
    go_wp2_with fail
    go_ret
    exact ⟨by rw [HQ.out]; rfl, R3.out⟩
  have E6 : Hid (decide (s.b = t.b) = true) := Lib.hid (decide_eq_true h6)
  have G6 := Lib.hid h6
  clear h6
  cases h7 : sameO s.ds t.ds s.e t.e
  case false =>
    have E7 : Hid (sameO s.ds t.ds (s.e.1, s.e.2) (t.e.1, t.e.2) = false) := Lib.hid h7
    have HQ : Hid (sameS s t = false) := Lib.hid (by simp [sameS, h7])
    clear h7
    refine Lex.region [8, 19, 24, 26, 27] [78] (by kernel_rfl) (by kernel_rfl) ?_
    refine Lex.opens (fun w' : World => At w' p 0 [.slice z.da s.m.d.length z.dc, .slice z.fa s.m.f.length z.fc] ∧ At w' q 0 [.slice y.da t.m.d.length y.dc, .slice y.fa t.m.f.length y.fc] ∧ w'.cell? ⟨p, 2, none⟩ = some (.pointer (some ⟨z.q, 0, none⟩)) ∧ w'.cell? ⟨p, 3, none⟩ = some (.pointer (some ⟨z.t, 0, none⟩)) ∧ w'.cell? ⟨p, 8, none⟩ = some (.slice ka kn kc) ∧ w'.cell? ⟨z.t, 0, none⟩ = some (.slice ia n ic) ∧ w'.cell? ⟨z.t, 1, none⟩ = some (.int .i64 a) ∧ w'.cell? ⟨q, 2, none⟩ = some (.pointer (some ⟨y.q, 0, none⟩)) ∧ w'.cell? ⟨q, 3, none⟩ = some (.pointer (some ⟨y.t, 0, none⟩)) ∧ w'.cell? ⟨q, 8, none⟩ = some (.slice kb kn2 kc2) ∧ w'.cell? ⟨y.t, 0, none⟩ = some (.slice ib n2 ic2) ∧ w'.cell? ⟨y.t, 1, none⟩ = some (.int .i64 b) ∧ (convert 22 9 V1).run Tryz.prog w' = .ok (.string sa) w' ∧ (convert 22 9 V2).run Tryz.prog w' = .ok (.string sb) w') (S1.out) ?_
    repeat (first
      | (refine Lex.skips (by rfl) ?_; (try simp only [Act.put, List.setIfInBounds_toArray, List.set_cons_zero, List.set_cons_succ]))
      | (refine Lex.into (by rfl) (by rfl) _ _ rfl _ _ rfl _ _ ((fun _ h => h.1)) Tryz.underlying25 rfl (by rw [Tryz.infoMod]; rfl) ?_; (try simp only [Act.put, List.setIfInBounds_toArray, List.set_cons_zero, List.set_cons_succ]))
      | (refine Lex.into (by rfl) (by rfl) _ _ rfl _ _ rfl _ _ ((fun _ h => h.2.1)) Tryz.underlying25 rfl (by rw [Tryz.infoMod]; rfl) ?_; (try simp only [Act.put, List.setIfInBounds_toArray, List.set_cons_zero, List.set_cons_succ]))
      | (refine Lex.quiet (v := ?_) (by rfl) (by rfl) ?_ ?_; rotate_left; (focus (intro w' hS'; go_simp; try rfl)); (try simp only [Act.put, List.setIfInBounds_toArray, List.set_cons_zero, List.set_cons_succ])))
    refine Lex.loud (by rfl) (by rfl) ?_
    intro K' hK'
    go_simp
    refine (refsame_mod _ s.m t.m z.da z.fa y.da y.fa z.dc z.fc y.dc y.fc H1.out.tabs K1.out.tabs H1.out.ok.sm K1.out.ok.sm).mono ?_
    rintro e w2 ⟨rfl, r2⟩
    rw [E5.out]
    have R2 := Lib.hid (R1.out.trans r2)
    have S2 := Lib.hid (SS.out _ R2.out)
    clear r2
    refine hK' _ _ (S2.out) ?_
    clear hK'
    try simp only [Act.put, List.setIfInBounds_toArray, List.set_cons_zero, List.set_cons_succ]
    repeat (first
      | (refine Lex.skips (by rfl) ?_; (try simp only [Act.put, List.setIfInBounds_toArray, List.set_cons_zero, List.set_cons_succ]))
      | (refine Lex.into (by rfl) (by rfl) _ _ rfl _ _ rfl _ _ ((fun _ h => h.1)) Tryz.underlying25 rfl (by rw [Tryz.infoMod]; rfl) ?_; (try simp only [Act.put, List.setIfInBounds_toArray, List.set_cons_zero, List.set_cons_succ]))
      | (refine Lex.into (by rfl) (by rfl) _ _ rfl _ _ rfl _ _ ((fun _ h => h.2.1)) Tryz.underlying25 rfl (by rw [Tryz.infoMod]; rfl) ?_; (try simp only [Act.put, List.setIfInBounds_toArray, List.set_cons_zero, List.set_cons_succ]))
      | (refine Lex.quiet (v := ?_) (by rfl) (by rfl) ?_ ?_; rotate_left; (focus (intro w' hS'; go_simp; try rfl)); (try simp only [Act.put, List.setIfInBounds_toArray, List.set_cons_zero, List.set_cons_succ])))
    refine Lex.loud (by rfl) (by rfl) ?_
    intro K' hK'
    go_simp
    refine (rsame_ok w2 (H.out.fr R2.out).mem (K.out.fr R2.out).mem).mono ?_
    rintro e w3 ⟨rfl, r3⟩
    rw [E6.out]
    have R3 := Lib.hid (R2.out.trans r3)
    have S3 := Lib.hid (SS.out _ R3.out)
    clear r3
    refine hK' _ _ (S3.out) ?_
    clear hK'
    try simp only [Act.put, List.setIfInBounds_toArray, List.set_cons_zero, List.set_cons_succ]
    repeat (first
      | (refine Lex.skips (by rfl) ?_; (try simp only [Act.put, List.setIfInBounds_toArray, List.set_cons_zero, List.set_cons_succ]))
      | (refine Lex.into (by rfl) (by rfl) _ _ rfl _ _ rfl _ _ ((fun _ h => h.1)) Tryz.underlying25 rfl (by rw [Tryz.infoMod]; rfl) ?_; (try simp only [Act.put, List.setIfInBounds_toArray, List.set_cons_zero, List.set_cons_succ]))
      | (refine Lex.into (by rfl) (by rfl) _ _ rfl _ _ rfl _ _ ((fun _ h => h.2.1)) Tryz.underlying25 rfl (by rw [Tryz.infoMod]; rfl) ?_; (try simp only [Act.put, List.setIfInBounds_toArray, List.set_cons_zero, List.set_cons_succ]))
      | (refine Lex.quiet (v := ?_) (by rfl) (by rfl) ?_ ?_; rotate_left; (focus (intro w' hS'; go_simp; try rfl)); (try simp only [Act.put, List.setIfInBounds_toArray, List.set_cons_zero, List.set_cons_succ])))
    refine Lex.loud (by rfl) (by rfl) ?_
    intro K' hK'
    go_simp
    refine (rout_ok w3 (H.out.fr R3.out) (by have := HDS.out.1; omega)).mono ?_
    rintro e w4 ⟨x1, rfl, hx1, r4⟩
    have R4 := Lib.hid (R3.out.trans r4)
    have S4 := Lib.hid (SS.out _ R4.out)
    have HX1 := Lib.hid (owns_reads hx1)
    clear hx1 r4
    refine hK' _ _ (S4.out) ?_
    clear hK'
    try simp only [Act.put, List.setIfInBounds_toArray, List.set_cons_zero, List.set_cons_succ]
    repeat (first
      | (refine Lex.skips (by rfl) ?_; (try simp only [Act.put, List.setIfInBounds_toArray, List.set_cons_zero, List.set_cons_succ]))
      | (refine Lex.quiet (v := ?_) (by rfl) (by rfl) ?_ ?_; rotate_left; (focus (intro w' hS'; go_simp; try rfl)); (try simp only [Act.put, List.setIfInBounds_toArray, List.set_cons_zero, List.set_cons_succ])))
    refine Lex.loud (by rfl) (by rfl) ?_
    intro K' hK'
    go_simp
    refine (rout_ok w4 (K.out.fr R4.out) (by have := HDS.out.2; omega)).mono ?_
    rintro e w5 ⟨x2, rfl, hx2, r5⟩
    have R5 := Lib.hid (R4.out.trans r5)
    have S5 := Lib.hid (SS.out _ R5.out)
    have HX2 := Lib.hid (owns_reads hx2)
    have HX1' := Lib.hid (HX1.out.fr r5 (by simp))
    clear hx2 r5
    refine hK' _ _ (S5.out) ?_
    clear hK'
    try simp only [Act.put, List.setIfInBounds_toArray, List.set_cons_zero, List.set_cons_succ]
    repeat (first
      | (refine Lex.skips (by rfl) ?_; (try simp only [Act.put, List.setIfInBounds_toArray, List.set_cons_zero, List.set_cons_succ]))
      | (refine Lex.quiet (v := ?_) (by rfl) (by rfl) ?_ ?_; rotate_left; (focus (intro w' hS'; go_simp; try rfl)); (try simp only [Act.put, List.setIfInBounds_toArray, List.set_cons_zero, List.set_cons_succ])))
    refine Lex.loud (by rfl) (by rfl) ?_
    intro K' hK'
    go_simp
    refine (refsameo_ok w5 x1 x2 s.ds t.ds s.e.1 s.e.2 t.e.1 t.e.2 HX1'.out HX2.out (by have := HDS.out.1; omega) (by have := HDS.out.2; omega)).mono ?_
    rintro e w6 ⟨rfl, r6⟩
    rw [E7.out]
    have R6 := Lib.hid (R5.out.trans r6)
    have S6 := Lib.hid (SS.out _ R6.out)
    clear r6
    refine hK' _ _ (S6.out) ?_
    clear hK'
    try simp only [Act.put, List.setIfInBounds_toArray, List.set_cons_zero, List.set_cons_succ]
    repeat (first
      | (refine Lex.skips (by rfl) ?_; (try simp only [Act.put, List.setIfInBounds_toArray, List.set_cons_zero, List.set_cons_succ]))
      | (refine Lex.quiet (v := ?_) (by rfl) (by rfl) ?_ ?_; rotate_left; (focus (intro w' hS'; go_simp; try rfl)); (try simp only [Act.put, List.setIfInBounds_toArray, List.set_cons_zero, List.set_cons_succ])))
    refine Lex.done ?_
    refine Lex.ends ?_
    go_wp2_with fail
    go_ret
    exact ⟨by rw [HQ.out]; rfl, R6.out⟩
  have E7 : Hid (sameO s.ds t.ds (s.e.1, s.e.2) (t.e.1, t.e.2) = true) := Lib.hid h7
  have G7 := Lib.hid h7
  clear h7
  by_cases h8 : s.inp.drop s.pos = t.inp.drop t.pos
  case neg =>
    have hst : (sa.toList == sb.toList) = false := by rw [HSE.out]; exact decide_eq_false h8
    have HQ : Hid (sameS s t = false) := Lib.hid (by simp [sameS, h8])
    clear h8
    refine Lex.region [8, 19, 24, 26, 27] [78] (by kernel_rfl) (by kernel_rfl) ?_
    refine Lex.opens (fun w' : World => At w' p 0 [.slice z.da s.m.d.length z.dc, .slice z.fa s.m.f.length z.fc] ∧ At w' q 0 [.slice y.da t.m.d.length y.dc, .slice y.fa t.m.f.length y.fc] ∧ w'.cell? ⟨p, 2, none⟩ = some (.pointer (some ⟨z.q, 0, none⟩)) ∧ w'.cell? ⟨p, 3, none⟩ = some (.pointer (some ⟨z.t, 0, none⟩)) ∧ w'.cell? ⟨p, 8, none⟩ = some (.slice ka kn kc) ∧ w'.cell? ⟨z.t, 0, none⟩ = some (.slice ia n ic) ∧ w'.cell? ⟨z.t, 1, none⟩ = some (.int .i64 a) ∧ w'.cell? ⟨q, 2, none⟩ = some (.pointer (some ⟨y.q, 0, none⟩)) ∧ w'.cell? ⟨q, 3, none⟩ = some (.pointer (some ⟨y.t, 0, none⟩)) ∧ w'.cell? ⟨q, 8, none⟩ = some (.slice kb kn2 kc2) ∧ w'.cell? ⟨y.t, 0, none⟩ = some (.slice ib n2 ic2) ∧ w'.cell? ⟨y.t, 1, none⟩ = some (.int .i64 b) ∧ (convert 22 9 V1).run Tryz.prog w' = .ok (.string sa) w' ∧ (convert 22 9 V2).run Tryz.prog w' = .ok (.string sb) w') (S1.out) ?_
    repeat (first
      | (refine Lex.skips (by rfl) ?_; (try simp only [Act.put, List.setIfInBounds_toArray, List.set_cons_zero, List.set_cons_succ]))
      | (refine Lex.into (by rfl) (by rfl) _ _ rfl _ _ rfl _ _ ((fun _ h => h.1)) Tryz.underlying25 rfl (by rw [Tryz.infoMod]; rfl) ?_; (try simp only [Act.put, List.setIfInBounds_toArray, List.set_cons_zero, List.set_cons_succ]))
      | (refine Lex.into (by rfl) (by rfl) _ _ rfl _ _ rfl _ _ ((fun _ h => h.2.1)) Tryz.underlying25 rfl (by rw [Tryz.infoMod]; rfl) ?_; (try simp only [Act.put, List.setIfInBounds_toArray, List.set_cons_zero, List.set_cons_succ]))
      | (refine Lex.quiet (v := ?_) (by rfl) (by rfl) ?_ ?_; rotate_left; (focus (intro w' hS'; go_simp; try rfl)); (try simp only [Act.put, List.setIfInBounds_toArray, List.set_cons_zero, List.set_cons_succ])))
    refine Lex.loud (by rfl) (by rfl) ?_
    intro K' hK'
    go_simp
    refine (refsame_mod _ s.m t.m z.da z.fa y.da y.fa z.dc z.fc y.dc y.fc H1.out.tabs K1.out.tabs H1.out.ok.sm K1.out.ok.sm).mono ?_
    rintro e w2 ⟨rfl, r2⟩
    rw [E5.out]
    have R2 := Lib.hid (R1.out.trans r2)
    have S2 := Lib.hid (SS.out _ R2.out)
    clear r2
    refine hK' _ _ (S2.out) ?_
    clear hK'
    try simp only [Act.put, List.setIfInBounds_toArray, List.set_cons_zero, List.set_cons_succ]
    repeat (first
      | (refine Lex.skips (by rfl) ?_; (try simp only [Act.put, List.setIfInBounds_toArray, List.set_cons_zero, List.set_cons_succ]))
      | (refine Lex.into (by rfl) (by rfl) _ _ rfl _ _ rfl _ _ ((fun _ h => h.1)) Tryz.underlying25 rfl (by rw [Tryz.infoMod]; rfl) ?_; (try simp only [Act.put, List.setIfInBounds_toArray, List.set_cons_zero, List.set_cons_succ]))
      | (refine Lex.into (by rfl) (by rfl) _ _ rfl _ _ rfl _ _ ((fun _ h => h.2.1)) Tryz.underlying25 rfl (by rw [Tryz.infoMod]; rfl) ?_; (try simp only [Act.put, List.setIfInBounds_toArray, List.set_cons_zero, List.set_cons_succ]))
      | (refine Lex.quiet (v := ?_) (by rfl) (by rfl) ?_ ?_; rotate_left; (focus (intro w' hS'; go_simp; try rfl)); (try simp only [Act.put, List.setIfInBounds_toArray, List.set_cons_zero, List.set_cons_succ])))
    refine Lex.loud (by rfl) (by rfl) ?_
    intro K' hK'
    go_simp
    refine (rsame_ok w2 (H.out.fr R2.out).mem (K.out.fr R2.out).mem).mono ?_
    rintro e w3 ⟨rfl, r3⟩
    rw [E6.out]
    have R3 := Lib.hid (R2.out.trans r3)
    have S3 := Lib.hid (SS.out _ R3.out)
    clear r3
    refine hK' _ _ (S3.out) ?_
    clear hK'
    try simp only [Act.put, List.setIfInBounds_toArray, List.set_cons_zero, List.set_cons_succ]
    repeat (first
      | (refine Lex.skips (by rfl) ?_; (try simp only [Act.put, List.setIfInBounds_toArray, List.set_cons_zero, List.set_cons_succ]))
      | (refine Lex.into (by rfl) (by rfl) _ _ rfl _ _ rfl _ _ ((fun _ h => h.1)) Tryz.underlying25 rfl (by rw [Tryz.infoMod]; rfl) ?_; (try simp only [Act.put, List.setIfInBounds_toArray, List.set_cons_zero, List.set_cons_succ]))
      | (refine Lex.into (by rfl) (by rfl) _ _ rfl _ _ rfl _ _ ((fun _ h => h.2.1)) Tryz.underlying25 rfl (by rw [Tryz.infoMod]; rfl) ?_; (try simp only [Act.put, List.setIfInBounds_toArray, List.set_cons_zero, List.set_cons_succ]))
      | (refine Lex.quiet (v := ?_) (by rfl) (by rfl) ?_ ?_; rotate_left; (focus (intro w' hS'; go_simp; try rfl)); (try simp only [Act.put, List.setIfInBounds_toArray, List.set_cons_zero, List.set_cons_succ])))
    refine Lex.loud (by rfl) (by rfl) ?_
    intro K' hK'
    go_simp
    refine (rout_ok w3 (H.out.fr R3.out) (by have := HDS.out.1; omega)).mono ?_
    rintro e w4 ⟨x1, rfl, hx1, r4⟩
    have R4 := Lib.hid (R3.out.trans r4)
    have S4 := Lib.hid (SS.out _ R4.out)
    have HX1 := Lib.hid (owns_reads hx1)
    clear hx1 r4
    refine hK' _ _ (S4.out) ?_
    clear hK'
    try simp only [Act.put, List.setIfInBounds_toArray, List.set_cons_zero, List.set_cons_succ]
    repeat (first
      | (refine Lex.skips (by rfl) ?_; (try simp only [Act.put, List.setIfInBounds_toArray, List.set_cons_zero, List.set_cons_succ]))
      | (refine Lex.quiet (v := ?_) (by rfl) (by rfl) ?_ ?_; rotate_left; (focus (intro w' hS'; go_simp; try rfl)); (try simp only [Act.put, List.setIfInBounds_toArray, List.set_cons_zero, List.set_cons_succ])))
    refine Lex.loud (by rfl) (by rfl) ?_
    intro K' hK'
    go_simp
    refine (rout_ok w4 (K.out.fr R4.out) (by have := HDS.out.2; omega)).mono ?_
    rintro e w5 ⟨x2, rfl, hx2, r5⟩
    have R5 := Lib.hid (R4.out.trans r5)
    have S5 := Lib.hid (SS.out _ R5.out)
    have HX2 := Lib.hid (owns_reads hx2)
    have HX1' := Lib.hid (HX1.out.fr r5 (by simp))
    clear hx2 r5
    refine hK' _ _ (S5.out) ?_
    clear hK'
    try simp only [Act.put, List.setIfInBounds_toArray, List.set_cons_zero, List.set_cons_succ]
    repeat (first
      | (refine Lex.skips (by rfl) ?_; (try simp only [Act.put, List.setIfInBounds_toArray, List.set_cons_zero, List.set_cons_succ]))
      | (refine Lex.quiet (v := ?_) (by rfl) (by rfl) ?_ ?_; rotate_left; (focus (intro w' hS'; go_simp; try rfl)); (try simp only [Act.put, List.setIfInBounds_toArray, List.set_cons_zero, List.set_cons_succ])))
    refine Lex.loud (by rfl) (by rfl) ?_
    intro K' hK'
    go_simp
    refine (refsameo_ok w5 x1 x2 s.ds t.ds s.e.1 s.e.2 t.e.1 t.e.2 HX1'.out HX2.out (by have := HDS.out.1; omega) (by have := HDS.out.2; omega)).mono ?_
    rintro e w6 ⟨rfl, r6⟩
    rw [E7.out]
    have R6 := Lib.hid (R5.out.trans r6)
    have S6 := Lib.hid (SS.out _ R6.out)
    clear r6
    refine hK' _ _ (S6.out) ?_
    clear hK'
    try simp only [Act.put, List.setIfInBounds_toArray, List.set_cons_zero, List.set_cons_succ]
    repeat (first
      | (refine Lex.skips (by rfl) ?_; (try simp only [Act.put, List.setIfInBounds_toArray, List.set_cons_zero, List.set_cons_succ]))
      | (refine Lex.quiet (v := ?_) (by rfl) (by rfl) ?_ ?_; rotate_left; (focus (intro w' hS'; go_simp; try rfl)); (try simp only [Act.put, List.setIfInBounds_toArray, List.set_cons_zero, List.set_cons_succ])))
    refine Lex.done ?_
    refine Lex.ends ?_
    go_wp2_with fail
    go_ret
    exact ⟨by rw [HQ.out]; rfl, R6.out⟩
  have hst : (sa.toList == sb.toList) = true := by rw [HSE.out]; exact decide_eq_true h8
  have G8 := Lib.hid h8
  clear h8
  by_cases h9 : kn = kn2
  case neg =>
    have hkk : ((kn : Int) != kn2) = true := bne_iff_ne.2 (by omega)
    have HQ : Hid (sameS s t = false) := Lib.hid (by
      have : ¬ s.ls = t.ls := fun e => h9 (by rw [← HKN.out, ← HKN2.out, e])
      simp [sameS, this])
    clear h9
    refine Lex.region [8, 19, 24, 26, 27] [78] (by kernel_rfl) (by kernel_rfl) ?_
    refine Lex.opens (fun w' : World => At w' p 0 [.slice z.da s.m.d.length z.dc, .slice z.fa s.m.f.length z.fc] ∧ At w' q 0 [.slice y.da t.m.d.length y.dc, .slice y.fa t.m.f.length y.fc] ∧ w'.cell? ⟨p, 2, none⟩ = some (.pointer (some ⟨z.q, 0, none⟩)) ∧ w'.cell? ⟨p, 3, none⟩ = some (.pointer (some ⟨z.t, 0, none⟩)) ∧ w'.cell? ⟨p, 8, none⟩ = some (.slice ka kn kc) ∧ w'.cell? ⟨z.t, 0, none⟩ = some (.slice ia n ic) ∧ w'.cell? ⟨z.t, 1, none⟩ = some (.int .i64 a) ∧ w'.cell? ⟨q, 2, none⟩ = some (.pointer (some ⟨y.q, 0, none⟩)) ∧ w'.cell? ⟨q, 3, none⟩ = some (.pointer (some ⟨y.t, 0, none⟩)) ∧ w'.cell? ⟨q, 8, none⟩ = some (.slice kb kn2 kc2) ∧ w'.cell? ⟨y.t, 0, none⟩ = some (.slice ib n2 ic2) ∧ w'.cell? ⟨y.t, 1, none⟩ = some (.int .i64 b) ∧ (convert 22 9 V1).run Tryz.prog w' = .ok (.string sa) w' ∧ (convert 22 9 V2).run Tryz.prog w' = .ok (.string sb) w') (S1.out) ?_
    repeat (first
      | (refine Lex.skips (by rfl) ?_; (try simp only [Act.put, List.setIfInBounds_toArray, List.set_cons_zero, List.set_cons_succ]))
      | (refine Lex.into (by rfl) (by rfl) _ _ rfl _ _ rfl _ _ ((fun _ h => h.1)) Tryz.underlying25 rfl (by rw [Tryz.infoMod]; rfl) ?_; (try simp only [Act.put, List.setIfInBounds_toArray, List.set_cons_zero, List.set_cons_succ]))
      | (refine Lex.into (by rfl) (by rfl) _ _ rfl _ _ rfl _ _ ((fun _ h => h.2.1)) Tryz.underlying25 rfl (by rw [Tryz.infoMod]; rfl) ?_; (try simp only [Act.put, List.setIfInBounds_toArray, List.set_cons_zero, List.set_cons_succ]))
      | (refine Lex.quiet (v := ?_) (by rfl) (by rfl) ?_ ?_; rotate_left; (focus (intro w' hS'; go_simp; try rfl)); (try simp only [Act.put, List.setIfInBounds_toArray, List.set_cons_zero, List.set_cons_succ])))
    refine Lex.loud (by rfl) (by rfl) ?_
    intro K' hK'
    go_simp
    refine (refsame_mod _ s.m t.m z.da z.fa y.da y.fa z.dc z.fc y.dc y.fc H1.out.tabs K1.out.tabs H1.out.ok.sm K1.out.ok.sm).mono ?_
    rintro e w2 ⟨rfl, r2⟩
    rw [E5.out]
    have R2 := Lib.hid (R1.out.trans r2)
    have S2 := Lib.hid (SS.out _ R2.out)
    clear r2
    refine hK' _ _ (S2.out) ?_
    clear hK'
    try simp only [Act.put, List.setIfInBounds_toArray, List.set_cons_zero, List.set_cons_succ]
    repeat (first
      | (refine Lex.skips (by rfl) ?_; (try simp only [Act.put, List.setIfInBounds_toArray, List.set_cons_zero, List.set_cons_succ]))
      | (refine Lex.into (by rfl) (by rfl) _ _ rfl _ _ rfl _ _ ((fun _ h => h.1)) Tryz.underlying25 rfl (by rw [Tryz.infoMod]; rfl) ?_; (try simp only [Act.put, List.setIfInBounds_toArray, List.set_cons_zero, List.set_cons_succ]))
      | (refine Lex.into (by rfl) (by rfl) _ _ rfl _ _ rfl _ _ ((fun _ h => h.2.1)) Tryz.underlying25 rfl (by rw [Tryz.infoMod]; rfl) ?_; (try simp only [Act.put, List.setIfInBounds_toArray, List.set_cons_zero, List.set_cons_succ]))
      | (refine Lex.quiet (v := ?_) (by rfl) (by rfl) ?_ ?_; rotate_left; (focus (intro w' hS'; go_simp; try rfl)); (try simp only [Act.put, List.setIfInBounds_toArray, List.set_cons_zero, List.set_cons_succ])))
    refine Lex.loud (by rfl) (by rfl) ?_
    intro K' hK'
    go_simp
    refine (rsame_ok w2 (H.out.fr R2.out).mem (K.out.fr R2.out).mem).mono ?_
    rintro e w3 ⟨rfl, r3⟩
    rw [E6.out]
    have R3 := Lib.hid (R2.out.trans r3)
    have S3 := Lib.hid (SS.out _ R3.out)
    clear r3
    refine hK' _ _ (S3.out) ?_
    clear hK'
    try simp only [Act.put, List.setIfInBounds_toArray, List.set_cons_zero, List.set_cons_succ]
    repeat (first
      | (refine Lex.skips (by rfl) ?_; (try simp only [Act.put, List.setIfInBounds_toArray, List.set_cons_zero, List.set_cons_succ]))
      | (refine Lex.into (by rfl) (by rfl) _ _ rfl _ _ rfl _ _ ((fun _ h => h.1)) Tryz.underlying25 rfl (by rw [Tryz.infoMod]; rfl) ?_; (try simp only [Act.put, List.setIfInBounds_toArray, List.set_cons_zero, List.set_cons_succ]))
      | (refine Lex.into (by rfl) (by rfl) _ _ rfl _ _ rfl _ _ ((fun _ h => h.2.1)) Tryz.underlying25 rfl (by rw [Tryz.infoMod]; rfl) ?_; (try simp only [Act.put, List.setIfInBounds_toArray, List.set_cons_zero, List.set_cons_succ]))
      | (refine Lex.quiet (v := ?_) (by rfl) (by rfl) ?_ ?_; rotate_left; (focus (intro w' hS'; go_simp; try rfl)); (try simp only [Act.put, List.setIfInBounds_toArray, List.set_cons_zero, List.set_cons_succ])))
    refine Lex.loud (by rfl) (by rfl) ?_
    intro K' hK'
    go_simp
    refine (rout_ok w3 (H.out.fr R3.out) (by have := HDS.out.1; omega)).mono ?_
    rintro e w4 ⟨x1, rfl, hx1, r4⟩
    have R4 := Lib.hid (R3.out.trans r4)
    have S4 := Lib.hid (SS.out _ R4.out)
    have HX1 := Lib.hid (owns_reads hx1)
    clear hx1 r4
    refine hK' _ _ (S4.out) ?_
    clear hK'
    try simp only [Act.put, List.setIfInBounds_toArray, List.set_cons_zero, List.set_cons_succ]
    repeat (first
      | (refine Lex.skips (by rfl) ?_; (try simp only [Act.put, List.setIfInBounds_toArray, List.set_cons_zero, List.set_cons_succ]))
      | (refine Lex.quiet (v := ?_) (by rfl) (by rfl) ?_ ?_; rotate_left; (focus (intro w' hS'; go_simp; try rfl)); (try simp only [Act.put, List.setIfInBounds_toArray, List.set_cons_zero, List.set_cons_succ])))
    refine Lex.loud (by rfl) (by rfl) ?_
    intro K' hK'
    go_simp
    refine (rout_ok w4 (K.out.fr R4.out) (by have := HDS.out.2; omega)).mono ?_
    rintro e w5 ⟨x2, rfl, hx2, r5⟩
    have R5 := Lib.hid (R4.out.trans r5)
    have S5 := Lib.hid (SS.out _ R5.out)
    have HX2 := Lib.hid (owns_reads hx2)
    have HX1' := Lib.hid (HX1.out.fr r5 (by simp))
    clear hx2 r5
    refine hK' _ _ (S5.out) ?_
    clear hK'
    try simp only [Act.put, List.setIfInBounds_toArray, List.set_cons_zero, List.set_cons_succ]
    repeat (first
      | (refine Lex.skips (by rfl) ?_; (try simp only [Act.put, List.setIfInBounds_toArray, List.set_cons_zero, List.set_cons_succ]))
      | (refine Lex.quiet (v := ?_) (by rfl) (by rfl) ?_ ?_; rotate_left; (focus (intro w' hS'; go_simp; try rfl)); (try simp only [Act.put, List.setIfInBounds_toArray, List.set_cons_zero, List.set_cons_succ])))
    refine Lex.loud (by rfl) (by rfl) ?_
    intro K' hK'
    go_simp
    refine (refsameo_ok w5 x1 x2 s.ds t.ds s.e.1 s.e.2 t.e.1 t.e.2 HX1'.out HX2.out (by have := HDS.out.1; omega) (by have := HDS.out.2; omega)).mono ?_
    rintro e w6 ⟨rfl, r6⟩
    rw [E7.out]
    have R6 := Lib.hid (R5.out.trans r6)
    have S6 := Lib.hid (SS.out _ R6.out)
    clear r6
    refine hK' _ _ (S6.out) ?_
    clear hK'
    try simp only [Act.put, List.setIfInBounds_toArray, List.set_cons_zero, List.set_cons_succ]
    repeat (first
      | (refine Lex.skips (by rfl) ?_; (try simp only [Act.put, List.setIfInBounds_toArray, List.set_cons_zero, List.set_cons_succ]))
      | (refine Lex.quiet (v := ?_) (by rfl) (by rfl) ?_ ?_; rotate_left; (focus (intro w' hS'; go_simp; try rfl)); (try simp only [Act.put, List.setIfInBounds_toArray, List.set_cons_zero, List.set_cons_succ])))
    refine Lex.done ?_
    refine Lex.ends ?_
    go_wp2_with fail
    go_ret
    exact ⟨by rw [HQ.out]; rfl, R6.out⟩
  subst h9
  refine Lex.region [8, 19, 24, 26, 27] [78] (by kernel_rfl) (by kernel_rfl) ?_
  refine Lex.opens (fun w' : World => At w' p 0 [.slice z.da s.m.d.length z.dc, .slice z.fa s.m.f.length z.fc] ∧ At w' q 0 [.slice y.da t.m.d.length y.dc, .slice y.fa t.m.f.length y.fc] ∧ w'.cell? ⟨p, 2, none⟩ = some (.pointer (some ⟨z.q, 0, none⟩)) ∧ w'.cell? ⟨p, 3, none⟩ = some (.pointer (some ⟨z.t, 0, none⟩)) ∧ w'.cell? ⟨p, 8, none⟩ = some (.slice ka kn kc) ∧ w'.cell? ⟨z.t, 0, none⟩ = some (.slice ia n ic) ∧ w'.cell? ⟨z.t, 1, none⟩ = some (.int .i64 a) ∧ w'.cell? ⟨q, 2, none⟩ = some (.pointer (some ⟨y.q, 0, none⟩)) ∧ w'.cell? ⟨q, 3, none⟩ = some (.pointer (some ⟨y.t, 0, none⟩)) ∧ w'.cell? ⟨q, 8, none⟩ = some (.slice kb kn kc2) ∧ w'.cell? ⟨y.t, 0, none⟩ = some (.slice ib n2 ic2) ∧ w'.cell? ⟨y.t, 1, none⟩ = some (.int .i64 b) ∧ (convert 22 9 V1).run Tryz.prog w' = .ok (.string sa) w' ∧ (convert 22 9 V2).run Tryz.prog w' = .ok (.string sb) w') (S1.out) ?_
  repeat (first
    | (refine Lex.skips (by rfl) ?_; (try simp only [Act.put, List.setIfInBounds_toArray, List.set_cons_zero, List.set_cons_succ]))
    | (refine Lex.into (by rfl) (by rfl) _ _ rfl _ _ rfl _ _ ((fun _ h => h.1)) Tryz.underlying25 rfl (by rw [Tryz.infoMod]; rfl) ?_; (try simp only [Act.put, List.setIfInBounds_toArray, List.set_cons_zero, List.set_cons_succ]))
    | (refine Lex.into (by rfl) (by rfl) _ _ rfl _ _ rfl _ _ ((fun _ h => h.2.1)) Tryz.underlying25 rfl (by rw [Tryz.infoMod]; rfl) ?_; (try simp only [Act.put, List.setIfInBounds_toArray, List.set_cons_zero, List.set_cons_succ]))
    | (refine Lex.quiet (v := ?_) (by rfl) (by rfl) ?_ ?_; rotate_left; (focus (intro w' hS'; go_simp; try rfl)); (try simp only [Act.put, List.setIfInBounds_toArray, List.set_cons_zero, List.set_cons_succ])))
  refine Lex.loud (by rfl) (by rfl) ?_
  intro K' hK'
  go_simp
  refine (refsame_mod _ s.m t.m z.da z.fa y.da y.fa z.dc z.fc y.dc y.fc H1.out.tabs K1.out.tabs H1.out.ok.sm K1.out.ok.sm).mono ?_
  rintro e w2 ⟨rfl, r2⟩
  rw [E5.out]
  have R2 := Lib.hid (R1.out.trans r2)
  have S2 := Lib.hid (SS.out _ R2.out)
  clear r2
  refine hK' _ _ (S2.out) ?_
  clear hK'
  try simp only [Act.put, List.setIfInBounds_toArray, List.set_cons_zero, List.set_cons_succ]
  repeat (first
    | (refine Lex.skips (by rfl) ?_; (try simp only [Act.put, List.setIfInBounds_toArray, List.set_cons_zero, List.set_cons_succ]))
    | (refine Lex.into (by rfl) (by rfl) _ _ rfl _ _ rfl _ _ ((fun _ h => h.1)) Tryz.underlying25 rfl (by rw [Tryz.infoMod]; rfl) ?_; (try simp only [Act.put, List.setIfInBounds_toArray, List.set_cons_zero, List.set_cons_succ]))
    | (refine Lex.into (by rfl) (by rfl) _ _ rfl _ _ rfl _ _ ((fun _ h => h.2.1)) Tryz.underlying25 rfl (by rw [Tryz.infoMod]; rfl) ?_; (try simp only [Act.put, List.setIfInBounds_toArray, List.set_cons_zero, List.set_cons_succ]))
    | (refine Lex.quiet (v := ?_) (by rfl) (by rfl) ?_ ?_; rotate_left; (focus (intro w' hS'; go_simp; try rfl)); (try simp only [Act.put, List.setIfInBounds_toArray, List.set_cons_zero, List.set_cons_succ])))
  refine Lex.loud (by rfl) (by rfl) ?_
  intro K' hK'
  go_simp
  refine (rsame_ok w2 (H.out.fr R2.out).mem (K.out.fr R2.out).mem).mono ?_
  rintro e w3 ⟨rfl, r3⟩
  rw [E6.out]
  have R3 := Lib.hid (R2.out.trans r3)
  have S3 := Lib.hid (SS.out _ R3.out)
  clear r3
  refine hK' _ _ (S3.out) ?_
  clear hK'
  try simp only [Act.put, List.setIfInBounds_toArray, List.set_cons_zero, List.set_cons_succ]
  repeat (first
    | (refine Lex.skips (by rfl) ?_; (try simp only [Act.put, List.setIfInBounds_toArray, List.set_cons_zero, List.set_cons_succ]))
    | (refine Lex.into (by rfl) (by rfl) _ _ rfl _ _ rfl _ _ ((fun _ h => h.1)) Tryz.underlying25 rfl (by rw [Tryz.infoMod]; rfl) ?_; (try simp only [Act.put, List.setIfInBounds_toArray, List.set_cons_zero, List.set_cons_succ]))
    | (refine Lex.into (by rfl) (by rfl) _ _ rfl _ _ rfl _ _ ((fun _ h => h.2.1)) Tryz.underlying25 rfl (by rw [Tryz.infoMod]; rfl) ?_; (try simp only [Act.put, List.setIfInBounds_toArray, List.set_cons_zero, List.set_cons_succ]))
    | (refine Lex.quiet (v := ?_) (by rfl) (by rfl) ?_ ?_; rotate_left; (focus (intro w' hS'; go_simp; try rfl)); (try simp only [Act.put, List.setIfInBounds_toArray, List.set_cons_zero, List.set_cons_succ])))
  refine Lex.loud (by rfl) (by rfl) ?_
  intro K' hK'
  go_simp
  refine (rout_ok w3 (H.out.fr R3.out) (by have := HDS.out.1; omega)).mono ?_
  rintro e w4 ⟨x1, rfl, hx1, r4⟩
  have R4 := Lib.hid (R3.out.trans r4)
  have S4 := Lib.hid (SS.out _ R4.out)
  have HX1 := Lib.hid (owns_reads hx1)
  clear hx1 r4
  refine hK' _ _ (S4.out) ?_
  clear hK'
  try simp only [Act.put, List.setIfInBounds_toArray, List.set_cons_zero, List.set_cons_succ]
  repeat (first
    | (refine Lex.skips (by rfl) ?_; (try simp only [Act.put, List.setIfInBounds_toArray, List.set_cons_zero, List.set_cons_succ]))
    | (refine Lex.quiet (v := ?_) (by rfl) (by rfl) ?_ ?_; rotate_left; (focus (intro w' hS'; go_simp; try rfl)); (try simp only [Act.put, List.setIfInBounds_toArray, List.set_cons_zero, List.set_cons_succ])))
  refine Lex.loud (by rfl) (by rfl) ?_
  intro K' hK'
  go_simp
  refine (rout_ok w4 (K.out.fr R4.out) (by have := HDS.out.2; omega)).mono ?_
  rintro e w5 ⟨x2, rfl, hx2, r5⟩
  have R5 := Lib.hid (R4.out.trans r5)
  have S5 := Lib.hid (SS.out _ R5.out)
  have HX2 := Lib.hid (owns_reads hx2)
  have HX1' := Lib.hid (HX1.out.fr r5 (by simp))
  clear hx2 r5
  refine hK' _ _ (S5.out) ?_
  clear hK'
  try simp only [Act.put, List.setIfInBounds_toArray, List.set_cons_zero, List.set_cons_succ]
  repeat (first
    | (refine Lex.skips (by rfl) ?_; (try simp only [Act.put, List.setIfInBounds_toArray, List.set_cons_zero, List.set_cons_succ]))
    | (refine Lex.quiet (v := ?_) (by rfl) (by rfl) ?_ ?_; rotate_left; (focus (intro w' hS'; go_simp; try rfl)); (try simp only [Act.put, List.setIfInBounds_toArray, List.set_cons_zero, List.set_cons_succ])))
  refine Lex.loud (by rfl) (by rfl) ?_
  intro K' hK'
  go_simp
  refine (refsameo_ok w5 x1 x2 s.ds t.ds s.e.1 s.e.2 t.e.1 t.e.2 HX1'.out HX2.out (by have := HDS.out.1; omega) (by have := HDS.out.2; omega)).mono ?_
  rintro e w6 ⟨rfl, r6⟩
  rw [E7.out]
  have R6 := Lib.hid (R5.out.trans r6)
  have S6 := Lib.hid (SS.out _ R6.out)
  clear r6
  refine hK' _ _ (S6.out) ?_
  clear hK'
  try simp only [Act.put, List.setIfInBounds_toArray, List.set_cons_zero, List.set_cons_succ]
  repeat (first
    | (refine Lex.skips (by rfl) ?_; (try simp only [Act.put, List.setIfInBounds_toArray, List.set_cons_zero, List.set_cons_succ]))
    | (refine Lex.quiet (v := ?_) (by rfl) (by rfl) ?_ ?_; rotate_left; (focus (intro w' hS'; go_simp; try rfl)); (try simp only [Act.put, List.setIfInBounds_toArray, List.set_cons_zero, List.set_cons_succ])))
  refine Lex.done ?_
  refine Lex.ends ?_
  go_wp2_with fail
  go_loopw [5] (fun x wr => ∃ k : Nat, k ≤ kn ∧ x = .int .i64 k ∧ Hid (s.ls.take k = t.ls.take k) ∧ Hid (Fr no w wr)) (fun x _ => (kn - intOf x).toNat)
  case atStart => exact ⟨0, by omega, rfl, Lib.hid rfl, Lib.hid R6.out⟩
  case round =>
    obtain ⟨k, hk, rfl, hpre, hfr⟩ := hrel
    by_cases hks : k < kn
    · have hks' : (k : Int) < kn := by omega
      have hka : k < s.ls.length := by have := HKN.out; omega
      have hkb : k < t.ls.length := by have := HKN2.out; omega
      have R6 := Lib.hid (hfr.out.trans (Fr.refl no wr).drew)
      obtain ⟨b1, o1, rfl, h1⟩ := reads_elem ((owns_reads HLK.out).fr R6.out (by simp)) (by decide) hks
      obtain ⟨b2, o2, rfl, h2⟩ := reads_elem ((owns_reads HLK2.out).fr R6.out (by simp)) (by decide) hks
      rw [rlinksC_at s.ls k hka] at h1
      rw [rlinksC_at t.ls k hkb] at h2
      have HD : Hid (decide (s.ls[k] = t.ls[k]) = decide (s.ls.take (k + 1) = t.ls.take (k + 1))) := Lib.hid (by
        rw [List.take_succ_eq_append_getElem hka, List.take_succ_eq_append_getElem hkb, hpre.out]
        rw [Bool.eq_iff_iff, decide_eq_true_eq, decide_eq_true_eq]
        exact ⟨fun h => by rw [h], fun h => by have := List.append_inj_right' h rfl; injection this⟩)
      have HBD : Hid (decide (s.ls.take (k + 1) = t.ls.take (k + 1)) = false → sameS s t = false) := Lib.hid (fun h => by
        have h2 : s.ls.take (k + 1) ≠ t.ls.take (k + 1) := of_decide_eq_false h
        have : ¬ s.ls = t.ls := fun e => h2 (by rw [e])
        simp [sameS, this])
      have HTD : Hid (decide (s.ls.take (k + 1) = t.ls.take (k + 1)) = true → s.ls.take (k + 1) = t.ls.take (k + 1)) := Lib.hid (fun h => by simpa using h)
      have A1 := Lib.hid h1
      have A2 := Lib.hid h2
      clear h1 h2
      generalize s.ls[k] = lx at *
      generalize t.ls[k] = ly at *
      obtain ⟨x1, x2, x3, x4⟩ := lx
      obtain ⟨y1, y2, y3, y4⟩ := ly
      dsimp only at A1 A2
      rw [← lk4_eq] at HD
      unfold lk4 at HD
      dsimp only at HD
      cases e1 : ((x1 : Int) == (y1 : Int))
      case false =>
        have e1' : ((x1 : Int) != (y1 : Int)) = true := by rw [bne, e1]; rfl
        have HF := Lib.hid (HBD.out (by rw [← HD.out, e1]; rfl))
        obtain ⟨c0, c1, c2, c3, c4, c5, c6, c7, c8, t0, t1⟩ := CP.out _ hfr.out
        obtain ⟨d0, d1, d2, d3, d4, d5, d6, d7, d8, u0, u1⟩ := CQ.out _ hfr.out
        go_upto_region 6 with (fail)
        clear c0 c1 c2 c3 c4 c5 c6 c7 c8 t0 t1 d0 d1 d2 d3 d4 d5 d6 d7 d8 u0 u1
        have S6 : Hid ((fun w' => w'.cell? ⟨p, 8, none⟩ = some (.slice (some ⟨b1, o1, none⟩) kn kc) ∧ w'.cell? ⟨q, 8, none⟩ = some (.slice (some ⟨b2, o2, none⟩) kn kc2) ∧ At w' b1 (o1 + k * 4) [.int .i64 x1, .int .u64 x2, .int .i64 x3, .int .i64 x4] ∧ At w' b2 (o2 + k * 4) [.int .i64 y1, .int .u64 y2, .int .i64 y3, .int .i64 y4]) wr.drew) := Lib.hid ⟨(CP.out _ R6.out).c8, (CQ.out _ R6.out).c8, A1.out, A2.out⟩
        refine Lex.region [] [15] (by kernel_rfl) (by kernel_rfl) ?_
        refine Lex.opens (fun w' => w'.cell? ⟨p, 8, none⟩ = some (.slice (some ⟨b1, o1, none⟩) kn kc) ∧ w'.cell? ⟨q, 8, none⟩ = some (.slice (some ⟨b2, o2, none⟩) kn kc2) ∧ At w' b1 (o1 + k * 4) [.int .i64 x1, .int .u64 x2, .int .i64 x3, .int .i64 x4] ∧ At w' b2 (o2 + k * 4) [.int .i64 y1, .int .u64 y2, .int .i64 y3, .int .i64 y4]) (S6.out) ?_
        repeat (first
          | (refine Lex.skips (by rfl) ?_; (try simp only [Act.put, List.setIfInBounds_toArray, List.set_cons_zero, List.set_cons_succ]))
          | (refine Lex.into (by rfl) (by rfl) _ _ rfl _ _ rfl _ _ (fun w' h => h.2.2.1) Tryz.underlying143 rfl (by rw [Tryz.infoLink]; rfl) ?_; (try simp only [Act.put, List.setIfInBounds_toArray, List.set_cons_zero, List.set_cons_succ]))
          | (refine Lex.into (by rfl) (by rfl) _ _ rfl _ _ rfl _ _ (fun w' h => h.2.2.2) Tryz.underlying143 rfl (by rw [Tryz.infoLink]; rfl) ?_; (try simp only [Act.put, List.setIfInBounds_toArray, List.set_cons_zero, List.set_cons_succ]))
          | (refine Lex.quiet (v := ?_) (by rfl) (by rfl) ?_ ?_; rotate_left; (focus (intro w' hS'; go_simp; try rfl)); (try simp only [Act.put, List.setIfInBounds_toArray, List.set_cons_zero, List.set_cons_succ])))
        refine Lex.done ?_
        refine Lex.ends ?_
        go_wp2_with fail
        go_ret
        exact ⟨by rw [HF.out]; rfl, R6.out⟩
      cases e2 : ((x2 : Int) == (y2 : Int))
      case false =>
        have e2' : ((x2 : Int) != (y2 : Int)) = true := by rw [bne, e2]; rfl
        have HF := Lib.hid (HBD.out (by rw [← HD.out, e1, e2]; rfl))
        obtain ⟨c0, c1, c2, c3, c4, c5, c6, c7, c8, t0, t1⟩ := CP.out _ hfr.out
        obtain ⟨d0, d1, d2, d3, d4, d5, d6, d7, d8, u0, u1⟩ := CQ.out _ hfr.out
        go_upto_region 6 with (fail)
        clear c0 c1 c2 c3 c4 c5 c6 c7 c8 t0 t1 d0 d1 d2 d3 d4 d5 d6 d7 d8 u0 u1
        have S6 : Hid ((fun w' => w'.cell? ⟨p, 8, none⟩ = some (.slice (some ⟨b1, o1, none⟩) kn kc) ∧ w'.cell? ⟨q, 8, none⟩ = some (.slice (some ⟨b2, o2, none⟩) kn kc2) ∧ At w' b1 (o1 + k * 4) [.int .i64 x1, .int .u64 x2, .int .i64 x3, .int .i64 x4] ∧ At w' b2 (o2 + k * 4) [.int .i64 y1, .int .u64 y2, .int .i64 y3, .int .i64 y4]) wr.drew) := Lib.hid ⟨(CP.out _ R6.out).c8, (CQ.out _ R6.out).c8, A1.out, A2.out⟩
        refine Lex.region [] [15] (by kernel_rfl) (by kernel_rfl) ?_
        refine Lex.opens (fun w' => w'.cell? ⟨p, 8, none⟩ = some (.slice (some ⟨b1, o1, none⟩) kn kc) ∧ w'.cell? ⟨q, 8, none⟩ = some (.slice (some ⟨b2, o2, none⟩) kn kc2) ∧ At w' b1 (o1 + k * 4) [.int .i64 x1, .int .u64 x2, .int .i64 x3, .int .i64 x4] ∧ At w' b2 (o2 + k * 4) [.int .i64 y1, .int .u64 y2, .int .i64 y3, .int .i64 y4]) (S6.out) ?_
        repeat (first
          | (refine Lex.skips (by rfl) ?_; (try simp only [Act.put, List.setIfInBounds_toArray, List.set_cons_zero, List.set_cons_succ]))
          | (refine Lex.into (by rfl) (by rfl) _ _ rfl _ _ rfl _ _ (fun w' h => h.2.2.1) Tryz.underlying143 rfl (by rw [Tryz.infoLink]; rfl) ?_; (try simp only [Act.put, List.setIfInBounds_toArray, List.set_cons_zero, List.set_cons_succ]))
          | (refine Lex.into (by rfl) (by rfl) _ _ rfl _ _ rfl _ _ (fun w' h => h.2.2.2) Tryz.underlying143 rfl (by rw [Tryz.infoLink]; rfl) ?_; (try simp only [Act.put, List.setIfInBounds_toArray, List.set_cons_zero, List.set_cons_succ]))
          | (refine Lex.quiet (v := ?_) (by rfl) (by rfl) ?_ ?_; rotate_left; (focus (intro w' hS'; go_simp; try rfl)); (try simp only [Act.put, List.setIfInBounds_toArray, List.set_cons_zero, List.set_cons_succ])))
        refine Lex.done ?_
        refine Lex.ends ?_
        go_wp2_with fail
        go_ret
        exact ⟨by rw [HF.out]; rfl, R6.out⟩
      cases e3 : (x3 == y3)
      case false =>
        have e3' : (x3 != y3) = true := by rw [bne, e3]; rfl
        have HF := Lib.hid (HBD.out (by rw [← HD.out, e1, e2, e3]; rfl))
        obtain ⟨c0, c1, c2, c3, c4, c5, c6, c7, c8, t0, t1⟩ := CP.out _ hfr.out
        obtain ⟨d0, d1, d2, d3, d4, d5, d6, d7, d8, u0, u1⟩ := CQ.out _ hfr.out
        go_upto_region 6 with (fail)
        clear c0 c1 c2 c3 c4 c5 c6 c7 c8 t0 t1 d0 d1 d2 d3 d4 d5 d6 d7 d8 u0 u1
        have S6 : Hid ((fun w' => w'.cell? ⟨p, 8, none⟩ = some (.slice (some ⟨b1, o1, none⟩) kn kc) ∧ w'.cell? ⟨q, 8, none⟩ = some (.slice (some ⟨b2, o2, none⟩) kn kc2) ∧ At w' b1 (o1 + k * 4) [.int .i64 x1, .int .u64 x2, .int .i64 x3, .int .i64 x4] ∧ At w' b2 (o2 + k * 4) [.int .i64 y1, .int .u64 y2, .int .i64 y3, .int .i64 y4]) wr.drew) := Lib.hid ⟨(CP.out _ R6.out).c8, (CQ.out _ R6.out).c8, A1.out, A2.out⟩
        refine Lex.region [] [15] (by kernel_rfl) (by kernel_rfl) ?_
        refine Lex.opens (fun w' => w'.cell? ⟨p, 8, none⟩ = some (.slice (some ⟨b1, o1, none⟩) kn kc) ∧ w'.cell? ⟨q, 8, none⟩ = some (.slice (some ⟨b2, o2, none⟩) kn kc2) ∧ At w' b1 (o1 + k * 4) [.int .i64 x1, .int .u64 x2, .int .i64 x3, .int .i64 x4] ∧ At w' b2 (o2 + k * 4) [.int .i64 y1, .int .u64 y2, .int .i64 y3, .int .i64 y4]) (S6.out) ?_
        repeat (first
          | (refine Lex.skips (by rfl) ?_; (try simp only [Act.put, List.setIfInBounds_toArray, List.set_cons_zero, List.set_cons_succ]))
          | (refine Lex.into (by rfl) (by rfl) _ _ rfl _ _ rfl _ _ (fun w' h => h.2.2.1) Tryz.underlying143 rfl (by rw [Tryz.infoLink]; rfl) ?_; (try simp only [Act.put, List.setIfInBounds_toArray, List.set_cons_zero, List.set_cons_succ]))
          | (refine Lex.into (by rfl) (by rfl) _ _ rfl _ _ rfl _ _ (fun w' h => h.2.2.2) Tryz.underlying143 rfl (by rw [Tryz.infoLink]; rfl) ?_; (try simp only [Act.put, List.setIfInBounds_toArray, List.set_cons_zero, List.set_cons_succ]))
          | (refine Lex.quiet (v := ?_) (by rfl) (by rfl) ?_ ?_; rotate_left; (focus (intro w' hS'; go_simp; try rfl)); (try simp only [Act.put, List.setIfInBounds_toArray, List.set_cons_zero, List.set_cons_succ])))
        refine Lex.done ?_
        refine Lex.ends ?_
        go_wp2_with fail
        go_ret
        exact ⟨by rw [HF.out]; rfl, R6.out⟩
      cases e4 : (x4 == y4)
      case false =>
        have e4' : (x4 != y4) = true := by rw [bne, e4]; rfl
        have HF := Lib.hid (HBD.out (by rw [← HD.out, e1, e2, e3, e4]; rfl))
        obtain ⟨c0, c1, c2, c3, c4, c5, c6, c7, c8, t0, t1⟩ := CP.out _ hfr.out
        obtain ⟨d0, d1, d2, d3, d4, d5, d6, d7, d8, u0, u1⟩ := CQ.out _ hfr.out
        go_upto_region 6 with (fail)
        clear c0 c1 c2 c3 c4 c5 c6 c7 c8 t0 t1 d0 d1 d2 d3 d4 d5 d6 d7 d8 u0 u1
        have S6 : Hid ((fun w' => w'.cell? ⟨p, 8, none⟩ = some (.slice (some ⟨b1, o1, none⟩) kn kc) ∧ w'.cell? ⟨q, 8, none⟩ = some (.slice (some ⟨b2, o2, none⟩) kn kc2) ∧ At w' b1 (o1 + k * 4) [.int .i64 x1, .int .u64 x2, .int .i64 x3, .int .i64 x4] ∧ At w' b2 (o2 + k * 4) [.int .i64 y1, .int .u64 y2, .int .i64 y3, .int .i64 y4]) wr.drew) := Lib.hid ⟨(CP.out _ R6.out).c8, (CQ.out _ R6.out).c8, A1.out, A2.out⟩
        refine Lex.region [] [15] (by kernel_rfl) (by kernel_rfl) ?_
        refine Lex.opens (fun w' => w'.cell? ⟨p, 8, none⟩ = some (.slice (some ⟨b1, o1, none⟩) kn kc) ∧ w'.cell? ⟨q, 8, none⟩ = some (.slice (some ⟨b2, o2, none⟩) kn kc2) ∧ At w' b1 (o1 + k * 4) [.int .i64 x1, .int .u64 x2, .int .i64 x3, .int .i64 x4] ∧ At w' b2 (o2 + k * 4) [.int .i64 y1, .int .u64 y2, .int .i64 y3, .int .i64 y4]) (S6.out) ?_
        repeat (first
          | (refine Lex.skips (by rfl) ?_; (try simp only [Act.put, List.setIfInBounds_toArray, List.set_cons_zero, List.set_cons_succ]))
          | (refine Lex.into (by rfl) (by rfl) _ _ rfl _ _ rfl _ _ (fun w' h => h.2.2.1) Tryz.underlying143 rfl (by rw [Tryz.infoLink]; rfl) ?_; (try simp only [Act.put, List.setIfInBounds_toArray, List.set_cons_zero, List.set_cons_succ]))
          | (refine Lex.into (by rfl) (by rfl) _ _ rfl _ _ rfl _ _ (fun w' h => h.2.2.2) Tryz.underlying143 rfl (by rw [Tryz.infoLink]; rfl) ?_; (try simp only [Act.put, List.setIfInBounds_toArray, List.set_cons_zero, List.set_cons_succ]))
          | (refine Lex.quiet (v := ?_) (by rfl) (by rfl) ?_ ?_; rotate_left; (focus (intro w' hS'; go_simp; try rfl)); (try simp only [Act.put, List.setIfInBounds_toArray, List.set_cons_zero, List.set_cons_succ])))
        refine Lex.done ?_
        refine Lex.ends ?_
        go_wp2_with fail
        go_ret
        exact ⟨by rw [HF.out]; rfl, R6.out⟩
      have HF := Lib.hid (HTD.out (by rw [← HD.out, e1, e2, e3, e4]; rfl))
      obtain ⟨c0, c1, c2, c3, c4, c5, c6, c7, c8, t0, t1⟩ := CP.out _ hfr.out
      obtain ⟨d0, d1, d2, d3, d4, d5, d6, d7, d8, u0, u1⟩ := CQ.out _ hfr.out
      go_upto_region 6 with (fail)
      clear c0 c1 c2 c3 c4 c5 c6 c7 c8 t0 t1 d0 d1 d2 d3 d4 d5 d6 d7 d8 u0 u1
      have S6 : Hid ((fun w' => w'.cell? ⟨p, 8, none⟩ = some (.slice (some ⟨b1, o1, none⟩) kn kc) ∧ w'.cell? ⟨q, 8, none⟩ = some (.slice (some ⟨b2, o2, none⟩) kn kc2) ∧ At w' b1 (o1 + k * 4) [.int .i64 x1, .int .u64 x2, .int .i64 x3, .int .i64 x4] ∧ At w' b2 (o2 + k * 4) [.int .i64 y1, .int .u64 y2, .int .i64 y3, .int .i64 y4]) wr.drew) := Lib.hid ⟨(CP.out _ R6.out).c8, (CQ.out _ R6.out).c8, A1.out, A2.out⟩
      refine Lex.region [] [15] (by kernel_rfl) (by kernel_rfl) ?_
      refine Lex.opens (fun w' => w'.cell? ⟨p, 8, none⟩ = some (.slice (some ⟨b1, o1, none⟩) kn kc) ∧ w'.cell? ⟨q, 8, none⟩ = some (.slice (some ⟨b2, o2, none⟩) kn kc2) ∧ At w' b1 (o1 + k * 4) [.int .i64 x1, .int .u64 x2, .int .i64 x3, .int .i64 x4] ∧ At w' b2 (o2 + k * 4) [.int .i64 y1, .int .u64 y2, .int .i64 y3, .int .i64 y4]) (S6.out) ?_
      repeat (first
        | (refine Lex.skips (by rfl) ?_; (try simp only [Act.put, List.setIfInBounds_toArray, List.set_cons_zero, List.set_cons_succ]))
        | (refine Lex.into (by rfl) (by rfl) _ _ rfl _ _ rfl _ _ (fun w' h => h.2.2.1) Tryz.underlying143 rfl (by rw [Tryz.infoLink]; rfl) ?_; (try simp only [Act.put, List.setIfInBounds_toArray, List.set_cons_zero, List.set_cons_succ]))
        | (refine Lex.into (by rfl) (by rfl) _ _ rfl _ _ rfl _ _ (fun w' h => h.2.2.2) Tryz.underlying143 rfl (by rw [Tryz.infoLink]; rfl) ?_; (try simp only [Act.put, List.setIfInBounds_toArray, List.set_cons_zero, List.set_cons_succ]))
        | (refine Lex.quiet (v := ?_) (by rfl) (by rfl) ?_ ?_; rotate_left; (focus (intro w' hS'; go_simp; try rfl)); (try simp only [Act.put, List.setIfInBounds_toArray, List.set_cons_zero, List.set_cons_succ])))
      refine Lex.done ?_
      refine Lex.ends ?_
      go_wp2_with fail
      go_roundw
      case rel => exact ⟨k + 1, by omega, by go_num, HF, R6⟩
      case measure => first | (simp [intOf]; done) | (simp [intOf]; omega)
    · obtain rfl : k = kn := by omega
      have G4 : Hid (s.ls = t.ls) := Lib.hid (by
        have h := hpre.out
        rw [List.take_of_length_le (by rw [HKN.out]; exact Nat.le_refl _), List.take_of_length_le (by rw [HKN2.out]; exact Nat.le_refl _)] at h
        exact h)
      have hks' : ¬ ((k : Nat) : Int) < k := by omega
      have R6 := Lib.hid (hfr.out.trans (Fr.refl no wr).drew)
      have HQ : Hid (sameS s t = (decide (s.fuel = t.fuel) && (decide (s.f = t.f) && (decide (s.at_ = t.at_) && decide (s.pc = t.pc))))) := Lib.hid (by
        unfold sameS
        rw [G7.out, decide_eq_true G4.out, decide_eq_true G5.out, decide_eq_true G6.out, decide_eq_true G8.out]
        simp only [Bool.true_and, Bool.and_true]
        cases decide (s.f = t.f) <;> cases decide (s.pc = t.pc) <;> cases decide (s.at_ = t.at_) <;> cases decide (s.fuel = t.fuel) <;> rfl)
      obtain ⟨c0, c1, c2, c3, c4, c5, c6, c7, c8, t0, t1⟩ := CP.out _ hfr.out
      obtain ⟨d0, d1, d2, d3, d4, d5, d6, d7, d8, u0, u1⟩ := CQ.out _ hfr.out
      go_upto_region 8 with (fail)
      clear c0 c1 c2 c3 c4 c5 c6 c7 c8 t0 t1 d0 d1 d2 d3 d4 d5 d6 d7 d8 u0 u1
      have S8 : Hid ((fun w' => w'.cell? ⟨p, 4, none⟩ = some (.int .i64 s.fuel) ∧ w'.cell? ⟨p, 5, none⟩ = some (.int .i64 s.f) ∧ w'.cell? ⟨p, 6, none⟩ = some (.int .u64 s.at_) ∧ w'.cell? ⟨p, 7, none⟩ = some (.int .i64 s.pc) ∧ w'.cell? ⟨q, 4, none⟩ = some (.int .i64 t.fuel) ∧ w'.cell? ⟨q, 5, none⟩ = some (.int .i64 t.f) ∧ w'.cell? ⟨q, 6, none⟩ = some (.int .u64 t.at_) ∧ w'.cell? ⟨q, 7, none⟩ = some (.int .i64 t.pc)) wr.drew) := Lib.hid (by
        obtain ⟨c0, c1, c2, c3, c4, c5, c6, c7, c8, t0, t1⟩ := CP.out _ R6.out
        obtain ⟨d0, d1, d2, d3, d4, d5, d6, d7, d8, u0, u1⟩ := CQ.out _ R6.out
        exact ⟨c4, c5, c6, c7, d4, d5, d6, d7⟩)
      by_cases g0 : s.fuel = t.fuel
      case neg =>
        have i0 : (s.fuel == t.fuel) = false := beq_eq_false_iff_ne.2 (by omega)
        have HF : Hid (sameS s t = false) := Lib.hid (by rw [HQ.out, decide_eq_false g0]; simp)
        clear g0
        refine Lex.region [] [43] (by kernel_rfl) (by kernel_rfl) ?_
        refine Lex.opens (fun w' => w'.cell? ⟨p, 4, none⟩ = some (.int .i64 s.fuel) ∧ w'.cell? ⟨p, 5, none⟩ = some (.int .i64 s.f) ∧ w'.cell? ⟨p, 6, none⟩ = some (.int .u64 s.at_) ∧ w'.cell? ⟨p, 7, none⟩ = some (.int .i64 s.pc) ∧ w'.cell? ⟨q, 4, none⟩ = some (.int .i64 t.fuel) ∧ w'.cell? ⟨q, 5, none⟩ = some (.int .i64 t.f) ∧ w'.cell? ⟨q, 6, none⟩ = some (.int .u64 t.at_) ∧ w'.cell? ⟨q, 7, none⟩ = some (.int .i64 t.pc)) (S8.out) ?_
        repeat (first
          | (refine Lex.skips (by rfl) ?_; (try simp only [Act.put, List.setIfInBounds_toArray, List.set_cons_zero, List.set_cons_succ]))
          | (refine Lex.quiet (v := ?_) (by rfl) (by rfl) ?_ ?_; rotate_left; (focus (intro w' hS'; go_simp; try rfl)); (try simp only [Act.put, List.setIfInBounds_toArray, List.set_cons_zero, List.set_cons_succ])))
        refine Lex.done ?_
        refine Lex.ends ?_
        go_wp2_with fail
        go_ret
        exact ⟨by rw [HF.out]; rfl, R6.out⟩
      have i0 : (s.fuel == t.fuel) = true := beq_iff_eq.2 (by omega)
      have J0 := Lib.hid g0
      clear g0
      by_cases g1 : s.f = t.f
      case neg =>
        have i1 : ((s.f : Int) == (t.f : Int)) = false := beq_eq_false_iff_ne.2 (by omega)
        have HF : Hid (sameS s t = false) := Lib.hid (by rw [HQ.out, decide_eq_false g1]; simp)
        clear g1
        refine Lex.region [] [43] (by kernel_rfl) (by kernel_rfl) ?_
        refine Lex.opens (fun w' => w'.cell? ⟨p, 4, none⟩ = some (.int .i64 s.fuel) ∧ w'.cell? ⟨p, 5, none⟩ = some (.int .i64 s.f) ∧ w'.cell? ⟨p, 6, none⟩ = some (.int .u64 s.at_) ∧ w'.cell? ⟨p, 7, none⟩ = some (.int .i64 s.pc) ∧ w'.cell? ⟨q, 4, none⟩ = some (.int .i64 t.fuel) ∧ w'.cell? ⟨q, 5, none⟩ = some (.int .i64 t.f) ∧ w'.cell? ⟨q, 6, none⟩ = some (.int .u64 t.at_) ∧ w'.cell? ⟨q, 7, none⟩ = some (.int .i64 t.pc)) (S8.out) ?_
        repeat (first
          | (refine Lex.skips (by rfl) ?_; (try simp only [Act.put, List.setIfInBounds_toArray, List.set_cons_zero, List.set_cons_succ]))
          | (refine Lex.quiet (v := ?_) (by rfl) (by rfl) ?_ ?_; rotate_left; (focus (intro w' hS'; go_simp; try rfl)); (try simp only [Act.put, List.setIfInBounds_toArray, List.set_cons_zero, List.set_cons_succ])))
        refine Lex.done ?_
        refine Lex.ends ?_
        go_wp2_with fail
        go_ret
        exact ⟨by rw [HF.out]; rfl, R6.out⟩
      have i1 : ((s.f : Int) == (t.f : Int)) = true := beq_iff_eq.2 (by omega)
      have J1 := Lib.hid g1
      clear g1
      by_cases g2 : s.at_ = t.at_
      case neg =>
        have i2 : ((s.at_ : Int) == (t.at_ : Int)) = false := beq_eq_false_iff_ne.2 (by omega)
        have HF : Hid (sameS s t = false) := Lib.hid (by rw [HQ.out, decide_eq_false g2]; simp)
        clear g2
        refine Lex.region [] [43] (by kernel_rfl) (by kernel_rfl) ?_
        refine Lex.opens (fun w' => w'.cell? ⟨p, 4, none⟩ = some (.int .i64 s.fuel) ∧ w'.cell? ⟨p, 5, none⟩ = some (.int .i64 s.f) ∧ w'.cell? ⟨p, 6, none⟩ = some (.int .u64 s.at_) ∧ w'.cell? ⟨p, 7, none⟩ = some (.int .i64 s.pc) ∧ w'.cell? ⟨q, 4, none⟩ = some (.int .i64 t.fuel) ∧ w'.cell? ⟨q, 5, none⟩ = some (.int .i64 t.f) ∧ w'.cell? ⟨q, 6, none⟩ = some (.int .u64 t.at_) ∧ w'.cell? ⟨q, 7, none⟩ = some (.int .i64 t.pc)) (S8.out) ?_
        repeat (first
          | (refine Lex.skips (by rfl) ?_; (try simp only [Act.put, List.setIfInBounds_toArray, List.set_cons_zero, List.set_cons_succ]))
          | (refine Lex.quiet (v := ?_) (by rfl) (by rfl) ?_ ?_; rotate_left; (focus (intro w' hS'; go_simp; try rfl)); (try simp only [Act.put, List.setIfInBounds_toArray, List.set_cons_zero, List.set_cons_succ])))
        refine Lex.done ?_
        refine Lex.ends ?_
        go_wp2_with fail
        go_ret
        exact ⟨by rw [HF.out]; rfl, R6.out⟩
      have i2 : ((s.at_ : Int) == (t.at_ : Int)) = true := beq_iff_eq.2 (by omega)
      have J2 := Lib.hid g2
      clear g2
      by_cases g3 : s.pc = t.pc
      case neg =>
        have i3 : (s.pc == t.pc) = false := beq_eq_false_iff_ne.2 (by omega)
        have HF : Hid (sameS s t = false) := Lib.hid (by rw [HQ.out, decide_eq_false g3]; simp)
        clear g3
        refine Lex.region [] [43] (by kernel_rfl) (by kernel_rfl) ?_
        refine Lex.opens (fun w' => w'.cell? ⟨p, 4, none⟩ = some (.int .i64 s.fuel) ∧ w'.cell? ⟨p, 5, none⟩ = some (.int .i64 s.f) ∧ w'.cell? ⟨p, 6, none⟩ = some (.int .u64 s.at_) ∧ w'.cell? ⟨p, 7, none⟩ = some (.int .i64 s.pc) ∧ w'.cell? ⟨q, 4, none⟩ = some (.int .i64 t.fuel) ∧ w'.cell? ⟨q, 5, none⟩ = some (.int .i64 t.f) ∧ w'.cell? ⟨q, 6, none⟩ = some (.int .u64 t.at_) ∧ w'.cell? ⟨q, 7, none⟩ = some (.int .i64 t.pc)) (S8.out) ?_
        repeat (first
          | (refine Lex.skips (by rfl) ?_; (try simp only [Act.put, List.setIfInBounds_toArray, List.set_cons_zero, List.set_cons_succ]))
          | (refine Lex.quiet (v := ?_) (by rfl) (by rfl) ?_ ?_; rotate_left; (focus (intro w' hS'; go_simp; try rfl)); (try simp only [Act.put, List.setIfInBounds_toArray, List.set_cons_zero, List.set_cons_succ])))
        refine Lex.done ?_
        refine Lex.ends ?_
        go_wp2_with fail
        go_ret
        exact ⟨by rw [HF.out]; rfl, R6.out⟩
      have i3 : (s.pc == t.pc) = true := beq_iff_eq.2 (by omega)
      have J3 := Lib.hid g3
      clear g3
      have HF : Hid (sameS s t = true) := Lib.hid (by rw [HQ.out, decide_eq_true J0.out, decide_eq_true J1.out, decide_eq_true J2.out, decide_eq_true J3.out]; rfl)
      refine Lex.region [] [43] (by kernel_rfl) (by kernel_rfl) ?_
      refine Lex.opens (fun w' => w'.cell? ⟨p, 4, none⟩ = some (.int .i64 s.fuel) ∧ w'.cell? ⟨p, 5, none⟩ = some (.int .i64 s.f) ∧ w'.cell? ⟨p, 6, none⟩ = some (.int .u64 s.at_) ∧ w'.cell? ⟨p, 7, none⟩ = some (.int .i64 s.pc) ∧ w'.cell? ⟨q, 4, none⟩ = some (.int .i64 t.fuel) ∧ w'.cell? ⟨q, 5, none⟩ = some (.int .i64 t.f) ∧ w'.cell? ⟨q, 6, none⟩ = some (.int .u64 t.at_) ∧ w'.cell? ⟨q, 7, none⟩ = some (.int .i64 t.pc)) (S8.out) ?_
      repeat (first
        | (refine Lex.skips (by rfl) ?_; (try simp only [Act.put, List.setIfInBounds_toArray, List.set_cons_zero, List.set_cons_succ]))
        | (refine Lex.quiet (v := ?_) (by rfl) (by rfl) ?_ ?_; rotate_left; (focus (intro w' hS'; go_simp; try rfl)); (try simp only [Act.put, List.setIfInBounds_toArray, List.set_cons_zero, List.set_cons_succ])))
      refine Lex.done ?_
      refine Lex.ends ?_
      go_wp2_with fail
      go_ret
      exact ⟨by rw [HF.out]; rfl, R6.out⟩

end Go.Proofs.YtihnkijeefkefaaGreat

set_option linter.unusedSimpArgs false
set_option linter.unusedVariables false
set_option linter.unusedSectionVars false
set_option linter.unnecessarySimpa false
set_option maxRecDepth 100000
/- Things side by side: one more, and in pairs. -/
namespace Go.Proofs.YtihnkijeefkefaaGreat
open Go.RowKit

attribute [local go_sem] Program.isFuncB Program.isSliceB

variable {w w' w'' w0 w1 : World} {O R X : Nat → Prop} {p q p2 q2 : Nat} {s s' t t' : Zp} {A A' B B' C D : (Nat → Prop) → (Nat → Prop) → World → Prop}

theorem Held.add (ha : Thing A) (h : Held w0 w A X) (hX : ∀ k, X k → w0.heap.size ≤ k) {O2 R2 : Nat → Prop} (hb : B O2 R2 w') (r : Fr no w w') (hO : ∀ k, O2 k → w.heap.size ≤ k) (hR : ∀ k, R2 k → k < w0.heap.size ∨ w.heap.size ≤ k) : Held w0 w' (Both A B) X := by
  obtain ⟨O1, R1, h1, hO1, r0, hX1, hRX⟩ := h
  have l1 := ha.lt _ _ _ h1
  refine ⟨fun k => O1 k ∨ O2 k, fun k => R1 k ∨ R2 k, ⟨O1, R1, O2, R2, ha.fr _ _ _ _ _ h1 r (fun k hk => hk.elim), hb, fun k hk => ⟨fun ho => ?_, fun hr => ?_⟩, fun k hk hr => ?_, fun k => Iff.rfl, fun k => Iff.rfl⟩, fun k hk => ?_, r0.trans r, fun k hk => Nat.lt_of_lt_of_le (hX1 k hk) r.size, fun k hk hx => ?_⟩
  · have := l1 k (.inl hk); have := hO k ho; omega
  · have h2 := l1 k (.inl hk); have h3 := (hO1 k hk).1
    rcases hR k hr with e | e <;> omega
  · have := l1 k (.inr hr); have := hO k hk; omega
  · rcases hk with hk | hk
    · exact hO1 k hk
    · exact ⟨Nat.le_trans r0.size (hO k hk), fun hx => by have := hX1 k hx; have := hO k hk; omega⟩
  · rcases hk with hk | hk
    · exact hRX k hk hx
    · have h2 := hX1 k hx; have h3 := hX k hx
      rcases hR k hk with e | e <;> omega
/-- in pairs -/
theorem Both.pairs (h : Both (Both (Both A B) C) D O R w) : Both (Both A C) (Both B D) O R w := by
  obtain ⟨O123, R123, O4, R4, ⟨O12, R12, O3, R3, ⟨O1, R1, O2, R2, h1, h2, d1, d2, e1, e2⟩, h3, d3, d4, e3, e4⟩, h4, d5, d6, e5, e6⟩ := h
  have a1 : ∀ k, O1 k → O12 k := fun k h => (e1 k).2 (.inl h)
  have a2 : ∀ k, O2 k → O12 k := fun k h => (e1 k).2 (.inr h)
  have b1 : ∀ k, R1 k → R12 k := fun k h => (e2 k).2 (.inl h)
  have b2 : ∀ k, R2 k → R12 k := fun k h => (e2 k).2 (.inr h)
  have a12 : ∀ k, O12 k → O123 k := fun k h => (e3 k).2 (.inl h)
  have a3 : ∀ k, O3 k → O123 k := fun k h => (e3 k).2 (.inr h)
  have b12 : ∀ k, R12 k → R123 k := fun k h => (e4 k).2 (.inl h)
  have b3 : ∀ k, R3 k → R123 k := fun k h => (e4 k).2 (.inr h)
  refine ⟨fun k => O1 k ∨ O3 k, fun k => R1 k ∨ R3 k, fun k => O2 k ∨ O4 k, fun k => R2 k ∨ R4 k, ⟨O1, R1, O3, R3, h1, h3, fun k h => d3 k (a1 k h), fun k h hr => d4 k h (b1 k hr), fun k => Iff.rfl, fun k => Iff.rfl⟩, ⟨O2, R2, O4, R4, h2, h4, fun k h => d5 k (a12 k (a2 k h)), fun k h hr => d6 k h (b12 k (b2 k hr)), fun k => Iff.rfl, fun k => Iff.rfl⟩, fun k hk => ?_, fun k hk hr => ?_, fun k => ?_, fun k => ?_⟩
  · rcases hk with hk | hk
    · exact ⟨fun ho => ho.elim (d1 k hk).1 (d5 k (a12 k (a1 k hk))).1, fun hr => hr.elim (d1 k hk).2 (d5 k (a12 k (a1 k hk))).2⟩
    · exact ⟨fun ho => ho.elim (fun h => (d3 k (a2 k h)).1 hk) (d5 k (a3 k hk)).1, fun hr => hr.elim (fun h => d4 k hk (b2 k h)) (d5 k (a3 k hk)).2⟩
  · rcases hk with hk | hk
    · exact hr.elim (d2 k hk) (d3 k (a2 k hk)).2
    · exact hr.elim (fun h => d6 k hk (b12 k (b1 k h))) (fun h => d6 k hk (b3 k h))
  · rw [e5, e3, e1]
    constructor
    · rintro (((h | h) | h) | h)
      · exact .inl (.inl h)
      · exact .inr (.inl h)
      · exact .inl (.inr h)
      · exact .inr (.inr h)
    · rintro ((h | h) | (h | h))
      · exact .inl (.inl (.inl h))
      · exact .inl (.inr h)
      · exact .inl (.inl (.inr h))
      · exact .inr h
  · rw [e6, e4, e2]
    constructor
    · rintro (((h | h) | h) | h)
      · exact .inl (.inl h)
      · exact .inr (.inl h)
      · exact .inl (.inr h)
      · exact .inr (.inr h)
    · rintro ((h | h) | (h | h))
      · exact .inl (.inl (.inl h))
      · exact .inl (.inr h)
      · exact .inl (.inl (.inr h))
      · exact .inr h
theorem Held.map {X : Nat → Prop} (h : Held w0 w A X) (f : ∀ O R, A O R w → B O R w) : Held w0 w B X := by
  obtain ⟨O, R, h, rest⟩ := h
  exact ⟨O, R, f _ _ h, rest⟩
theorem Both.left2 {f : Nat} {args : Array Value} {r : Ending} (ha : Thing A) (hb : Thing B) (h : Both A B O R w) (hc : ∀ O1 R1, (∀ k, O1 k → O k) → A O1 R1 w → Calls Tryz.prog f args w fun e w' => e = r ∧ ThTo w w' O1 R1 A') :
    Calls Tryz.prog f args w fun e w' => e = r ∧ ThTo w w' O R (Both A' B) := by
  have h0 := h
  obtain ⟨O1, R1, O2, R2, h1, h2, d1, d2, hO, hR⟩ := h
  have hb2 : Both (fun O R w' => A O R w' ∧ O = O1 ∧ R = R1) B O R w := ⟨O1, R1, O2, R2, ⟨h1, rfl, rfl⟩, h2, d1, d2, hO, hR⟩
  have l2 := hb.lt _ _ _ h2
  refine (hc O1 R1 (fun k hk => (hO k).2 (.inl hk)) h1).mono ?_
  rintro e w' ⟨rfl, O', h', r, n⟩
  refine ⟨rfl, fun k => O' k ∨ O2 k, ⟨O', R1, O2, R2, h', hb.fr _ _ _ _ _ h2 r (fun k hk _ => d1 k hk), fun k hk => ?_, d2, fun k => Iff.rfl, hR⟩, r.mono (fun k hk _ => (hO k).2 (.inl hk)), fun k hk => ?_⟩
  · rcases n k hk with h | h
    · exact d1 k h
    · exact ⟨fun ho => by have := l2 k (.inl ho); omega, fun ho => by have := l2 k (.inr ho); omega⟩
  · rcases hk with hk | hk
    · exact (n k hk).imp (fun h => (hO k).2 (.inl h)) id
    · exact .inl ((hO k).2 (.inr hk))
theorem Both.right2 {f : Nat} {args : Array Value} {r : Ending} (ha : Thing A) (h : Both A B O R w) (hc : ∀ O1 R1, (∀ k, O1 k → O k) → B O1 R1 w → Calls Tryz.prog f args w fun e w' => e = r ∧ ThTo w w' O1 R1 B') :
    Calls Tryz.prog f args w fun e w' => e = r ∧ ThTo w w' O R (Both A B') := by
  obtain ⟨O1, R1, O2, R2, h1, h2, d1, d2, hO, hR⟩ := h
  have l1 := ha.lt _ _ _ h1
  refine (hc O2 R2 (fun k hk => (hO k).2 (.inr hk)) h2).mono ?_
  rintro e w' ⟨rfl, O', h', r, n⟩
  refine ⟨rfl, fun k => O1 k ∨ O' k, ⟨O1, R1, O', R2, ha.fr _ _ _ _ _ h1 r (fun k hk _ => ⟨fun h => (d1 k h).1 hk, d2 k hk⟩), h', fun k hk => ⟨fun ho => ?_, (d1 k hk).2⟩, fun k hk => ?_, fun k => Iff.rfl, hR⟩, r.mono (fun k hk _ => (hO k).2 (.inr hk)), fun k hk => ?_⟩
  · rcases n k ho with h | h
    · exact (d1 k hk).1 h
    · have := l1 k (.inl hk); omega
  · rcases n k hk with h | h
    · exact d2 k h
    · exact fun hr => by have := l1 k (.inr hr); omega
  · rcases hk with hk | hk
    · exact .inl ((hO k).2 (.inl hk))
    · exact (n k hk).imp (fun h => (hO k).2 (.inr h)) id
theorem Held.call2 {X : Nat → Prop} {f : Nat} {args : Array Value} {r : Ending} (h : Held w0 w A X) (hc : ∀ O R, (∀ k, O k → w0.heap.size ≤ k) → A O R w → Calls Tryz.prog f args w fun e w' => e = r ∧ ThTo w w' O R A') :
    Calls Tryz.prog f args w fun e w' => e = r ∧ Held w0 w' A' X ∧ Fr (fun k => ¬ X k ∧ w0.heap.size ≤ k) w w' := by
  obtain ⟨O, R, h, hO, r0, hX, hRX⟩ := h
  refine (hc O R (fun k hk => (hO k hk).1) h).mono ?_
  rintro e w' ⟨rfl, O', h', r, h2⟩
  exact ⟨rfl, ⟨O', R, h', fun k hk => (h2 k hk).elim (fun h => hO k h) (fun h => ⟨Nat.le_trans r0.size h, fun hx => by have := hX k hx; omega⟩), r0.trans' r (fun k hk _ => (hO k hk).1), fun k hk => Nat.lt_of_lt_of_le (hX k hk) r.size, hRX⟩, r.mono (fun k hk _ => ⟨(hO k hk).2, (hO k hk).1⟩)⟩
/-- the program's space and the document's, as one -/
def PrT (p q : Nat) (s : Zp) : (Nat → Prop) → (Nat → Prop) → World → Prop := Both (SpT p s) (RSpT q s)
theorem prT (p q : Nat) (s : Zp) : Thing (PrT p q s) := Both.thing (spT p s) (rspT q s)
theorem prT_ok {O R : Nat → Prop} (h : PrT p q s O R w) : s.Ok := h.at1 (fun _ _ ⟨_, h⟩ => h.ok)
theorem Held.does1 (hB : Thing B) (h : Held w0 w (Both (PrT p q s) B) X) (y : Ax) (ua : Option Addr) (uc : Nat) (hr : Reads w0 (.slice ua y.l.length uc) 1 y.l.length (ints y.l)) (hf : y.Fine) (hd : s.ds.length < 100000) (hal : y.l.length ≤ 1000000) :
    Calls Tryz.prog 36 #[.pointer (some ⟨p, 0, none⟩), .pointer (some ⟨q, 0, none⟩), .agg #[.int .i64 y.k, .int .i64 y.r, .int .i64 y.n, .int .i64 y.b, .int .u64 y.v, .slice ua y.l.length uc, .int .i64 y.ek, .int .i64 y.ec]] w fun e w' => e = .returned (.bool true) ∧ Held w0 w' (Both (PrT p q (s.actS y)) B) X ∧ Fr (fun k => ¬ X k ∧ w0.heap.size ≤ k) w w' := by
  have fr := h.frame
  exact h.call2 (fun O R hO hb => hb.left2 (prT p q s) hB (fun O1 R1 hs h1 => does_ok w y ua uc (fun w' r => hr.fr (fr.trans' r (fun k hk _ => hO k (hs k hk))) (by simp)) hf hd hal h1))
theorem Held.does2 (hA : Thing A) (h : Held w0 w (Both A (PrT p q s)) X) (y : Ax) (ua : Option Addr) (uc : Nat) (hr : Reads w0 (.slice ua y.l.length uc) 1 y.l.length (ints y.l)) (hf : y.Fine) (hd : s.ds.length < 100000) (hal : y.l.length ≤ 1000000) :
    Calls Tryz.prog 36 #[.pointer (some ⟨p, 0, none⟩), .pointer (some ⟨q, 0, none⟩), .agg #[.int .i64 y.k, .int .i64 y.r, .int .i64 y.n, .int .i64 y.b, .int .u64 y.v, .slice ua y.l.length uc, .int .i64 y.ek, .int .i64 y.ec]] w fun e w' => e = .returned (.bool true) ∧ Held w0 w' (Both A (PrT p q (s.actS y))) X ∧ Fr (fun k => ¬ X k ∧ w0.heap.size ≤ k) w w' := by
  have fr := h.frame
  exact h.call2 (fun O R hO hb => hb.right2 hA (fun O1 R1 hs h1 => does_ok w y ua uc (fun w' r => hr.fr (fr.trans' r (fun k hk _ => hO k (hs k hk))) (by simp)) hf hd hal h1))
end Go.Proofs.YtihnkijeefkefaaGreat

set_option linter.unusedSimpArgs false
set_option linter.unusedVariables false
set_option linter.unusedSectionVars false
set_option linter.unnecessarySimpa false
set_option maxRecDepth 100000
/- SpaceSame. -/
namespace Go.Proofs.YtihnkijeefkefaaGreat
open Go.RowKit

attribute [local go_sem] Program.isFuncB Program.isSliceB
attribute [local irreducible] Zp.callS Zp.layS Zp.down Zp.argsS newS Zp.actS sameS
set_option maxHeartbeats 16000000 in
theorem same15_ok (w : World) (m : Mx) (da : Option Addr) (dc : Nat) (fa : Option Addr) (fc : Nat) (mem : Int) (ia : Option Addr) (ic : Nat) (inp : List Nat) (la : Option Addr) (lc : Nat) (l : List Ax) (ka : Option Addr) (kc : Nat) (k : List Ax)
    (hm : ModRd w m da dc fa fc) (hraw : m.Raw) (hwf : (Lit.int .i64 mem).wf = true) (hin : Reads w (.slice ia inp.length ic) 1 inp.length (u8s inp)) (hib : ∀ x ∈ inp, x < 256) (hil : inp.length ≤ maxLen) (hl : ActsIn w la l) (hll : l.length ≤ maxLen) (hk : ActsIn w ka k) (hkl : k.length ≤ maxLen) :
    Calls Tryz.prog 6 #[.agg #[.slice da m.d.length dc, .slice fa m.f.length fc], .int .i64 mem, .slice ia inp.length ic, .slice la l.length lc, .slice ka k.length kc] w fun e w' => e = .returned (.bool true) ∧ Fr no w w' := by
  have r1 := (Fr.refl no w).alloc (.cells #[.slice da m.d.length dc, .slice fa m.f.length fc] 25)
  have hb1 := heap_new w (.cells #[.slice da m.d.length dc, .slice fa m.f.length fc] 25)
  have R1 := Lib.hid r1
  have HM1 := Lib.hid hb1
  have HM := Lib.hid hm
  have HL := Lib.hid hl
  have HK := Lib.hid hk
  have HIN := Lib.hid hin
  have HIB := Lib.hid hib
  have HRAW := Lib.hid hraw
  have HLL := Lib.hid hll
  have HKL := Lib.hid hkl
  unfold maxLen at hil
  have m0 := cell_of_heap (o := 0) HM1.out rfl
  have m1 := cell_of_heap (o := 1) HM1.out rfl
  clear r1 hb1 hm hl hk hin hib hraw hll hkl
  go_enter Tryz.func6, Tryz.ntmps6
  go_wp2_with fail
  refine (pick_any _ mem 62 hwf (by decide) (by decide)).mono ?_
  rintro e w' ⟨⟨kk, hkk, rfl⟩, rfl⟩
  have hw1 : IntKind.i64.wrap (1 + (kk : Int)) = 1 + (kk : Int) := by rw [IntKind.wrap_i64]; omega
  have hw2 : IntKind.i64.wrap (16 * (1 + (kk : Int))) = ((16 * (1 + kk) : Nat) : Int) := by rw [IntKind.wrap_i64]; omega
  obtain ⟨n, hn⟩ : ∃ n, n = 16 * (1 + kk) := ⟨_, rfl⟩
  have HN : Hid (16 ≤ n ∧ n ≤ 1000 ∧ n % 16 = 0) := Lib.hid (by omega)
  rw [← hn] at hw2
  clear hn hkk hwf
  go_wp2_with fail
  refine (longm_ok _ m da dc fa fc (HM.out.fr R1.out).modIn HRAW.out).mono ?_
  rintro e w3 ⟨q, rfl, hq, r3⟩
  have R3 := Lib.hid (R1.out.trans r3)
  have HM3 := Lib.hid (r3.heap HM1.out (by simp))
  clear r3 m0 m1
  cases q
  case true =>
    clear hq
    go_wp2_with fail
    refine (awake15_ok _).mono ?_
    rintro e wz ⟨rfl, rz⟩
    have RZ := Lib.hid (R3.out.trans rz)
    clear rz
    go_wp2_with fail
    go_ret
    exact ⟨rfl, RZ.out⟩
  have HFM := Lib.hid (hq rfl)
  clear hq
  have HSM : Hid m.Small := Lib.hid (LongM.small HRAW.out HFM.out)
  by_cases hi1 : inp.length > 100
  · have hi1' : (inp.length : Int) > 100 := by omega
    go_wp2_with fail
    refine (awake15_ok _).mono ?_
    rintro e wz ⟨rfl, rz⟩
    have RZ := Lib.hid (R3.out.trans rz)
    clear rz
    go_wp2_with fail
    go_ret
    exact ⟨rfl, RZ.out⟩
  have hi1' : ¬ (inp.length : Int) > 100 := by omega
  go_wp2_with fail
  refine (long15_ok w3 la lc l (HL.out.fr R3.out) HLL.out).mono ?_
  rintro e w4 ⟨rfl, r4⟩
  have R4 := Lib.hid (R3.out.trans r4)
  have HM4 := Lib.hid (r4.heap HM3.out (by simp))
  clear r4
  cases hlg : longA l
  case true =>
    clear hlg
    go_wp2_with fail
    refine (awake15_ok _).mono ?_
    rintro e wz ⟨rfl, rz⟩
    have RZ := Lib.hid (R4.out.trans rz)
    clear rz
    go_wp2_with fail
    go_ret
    exact ⟨rfl, RZ.out⟩
  have HLA := Lib.hid (longA_false hlg)
  clear hlg
  go_wp2_with fail
  refine (long15_ok w4 ka kc k (HK.out.fr R4.out) HKL.out).mono ?_
  rintro e w5 ⟨rfl, r5⟩
  have R5 := Lib.hid (R4.out.trans r5)
  have HM5 := Lib.hid (r5.heap HM4.out (by simp))
  clear r5
  cases hlg : longA k
  case true =>
    clear hlg
    go_wp2_with fail
    refine (awake15_ok _).mono ?_
    rintro e wz ⟨rfl, rz⟩
    have RZ := Lib.hid (R5.out.trans rz)
    clear rz
    go_wp2_with fail
    go_ret
    exact ⟨rfl, RZ.out⟩
  have HKA := Lib.hid (longA_false hlg)
  clear hlg
  go_upto_region 4 with (fail)
  have m0 := cell_of_heap (o := 0) HM5.out rfl
  have m1 := cell_of_heap (o := 1) HM5.out rfl
  go_wp2_with fail
  by_cases hb : newBad m n 20
  case pos =>
    have mr5 := HM.out.fr R5.out
    refine (snew_bad (inp := inp) (ia := ia) (ic := ic) w5 mr5 HSM.out hb).mono ?_
    rintro e w6 ⟨rfl, r6⟩
    have R6 := Lib.hid (R5.out.trans r6)
    have HM6 := Lib.hid (r6.heap HM5.out (by simp))
    clear r6 m0 m1
    have m0 := cell_of_heap (o := 0) HM6.out rfl
    have m1 := cell_of_heap (o := 1) HM6.out rfl
    go_wp2_with fail
    have mr6 := HM.out.fr R6.out
    refine (snew_bad (inp := inp) (ia := ia) (ic := ic) w6 mr6 HSM.out hb).mono ?_
    rintro e w7 ⟨rfl, r7⟩
    have R7 := Lib.hid (R6.out.trans r7)
    have HM7 := Lib.hid (r7.heap HM6.out (by simp))
    clear r7 m0 m1
    have m0 := cell_of_heap (o := 0) HM7.out rfl
    have m1 := cell_of_heap (o := 1) HM7.out rfl
    go_wp2_with fail
    have mr7 := HM.out.fr R7.out
    refine (rsnew_bad (inp := inp) (ia := ia) (ic := ic) w7 mr7 HSM.out hb).mono ?_
    rintro e w8 ⟨rfl, r8⟩
    have R8 := Lib.hid (R7.out.trans r8)
    have HM8 := Lib.hid (r8.heap HM7.out (by simp))
    clear r8 m0 m1
    have m0 := cell_of_heap (o := 0) HM8.out rfl
    have m1 := cell_of_heap (o := 1) HM8.out rfl
    go_wp2_with fail
    have mr8 := HM.out.fr R8.out
    refine (rsnew_bad (inp := inp) (ia := ia) (ic := ic) w8 mr8 HSM.out hb).mono ?_
    rintro e w9 ⟨rfl, r9⟩
    have R9 := Lib.hid (R8.out.trans r9)
    have HM9 := Lib.hid (r9.heap HM8.out (by simp))
    clear r9 m0 m1
    have m0 := cell_of_heap (o := 0) HM9.out rfl
    have m1 := cell_of_heap (o := 1) HM9.out rfl
    go_wp2_with fail
    refine (awake15_ok _).mono ?_
    rintro e wz ⟨rfl, rz⟩
    have RZ := Lib.hid (R9.out.trans rz)
    clear rz
    go_wp2_with fail
    go_ret
    exact ⟨rfl, RZ.out⟩
  by_cases hfl : (n : Int) < flr m
  case pos =>
    have mr5 := HM.out.fr R5.out
    refine (snew_full (inp := inp) (ia := ia) (ic := ic) w5 mr5 HSM.out (HIN.out.fr R5.out (by simp)) (by omega) hb hfl).mono ?_
    rintro e w6 ⟨rfl, r6⟩
    have R6 := Lib.hid (R5.out.trans r6)
    have HM6 := Lib.hid (r6.heap HM5.out (by simp))
    clear r6 m0 m1
    have m0 := cell_of_heap (o := 0) HM6.out rfl
    have m1 := cell_of_heap (o := 1) HM6.out rfl
    go_wp2_with fail
    have mr6 := HM.out.fr R6.out
    refine (snew_full (inp := inp) (ia := ia) (ic := ic) w6 mr6 HSM.out (HIN.out.fr R6.out (by simp)) (by omega) hb hfl).mono ?_
    rintro e w7 ⟨rfl, r7⟩
    have R7 := Lib.hid (R6.out.trans r7)
    have HM7 := Lib.hid (r7.heap HM6.out (by simp))
    clear r7 m0 m1
    have m0 := cell_of_heap (o := 0) HM7.out rfl
    have m1 := cell_of_heap (o := 1) HM7.out rfl
    go_wp2_with fail
    have mr7 := HM.out.fr R7.out
    refine (rsnew_full (inp := inp) (ia := ia) (ic := ic) w7 mr7 HSM.out hb hfl).mono ?_
    rintro e w8 ⟨rfl, r8⟩
    have R8 := Lib.hid (R7.out.trans r8)
    have HM8 := Lib.hid (r8.heap HM7.out (by simp))
    clear r8 m0 m1
    have m0 := cell_of_heap (o := 0) HM8.out rfl
    have m1 := cell_of_heap (o := 1) HM8.out rfl
    go_wp2_with fail
    have mr8 := HM.out.fr R8.out
    refine (rsnew_full (inp := inp) (ia := ia) (ic := ic) w8 mr8 HSM.out hb hfl).mono ?_
    rintro e w9 ⟨rfl, r9⟩
    have R9 := Lib.hid (R8.out.trans r9)
    have HM9 := Lib.hid (r9.heap HM8.out (by simp))
    clear r9 m0 m1
    have m0 := cell_of_heap (o := 0) HM9.out rfl
    have m1 := cell_of_heap (o := 1) HM9.out rfl
    go_wp2_with fail
    refine (awake15_ok _).mono ?_
    rintro e wz ⟨rfl, rz⟩
    have RZ := Lib.hid (R9.out.trans rz)
    clear rz
    go_wp2_with fail
    go_ret
    exact ⟨rfl, RZ.out⟩
  have har : NewArg m n inp 20 := ⟨Decidable.not_not.1 (fun h => hb (.inl h)), HSM.out, HN.out.1, by have := HN.out.2.1; omega, HN.out.2.2, by omega, by omega, HIB.out, by decide, by decide⟩
  have HBL : Hid ((newS m n inp 20).ds.length = 0) := Lib.hid (by rw [(newS_same m n inp 20).2.2.2.1]; rfl)
  have HNB := Lib.hid hb
  have hfl2 : flr m ≤ n := by omega
  have HFL := Lib.hid hfl2
  have hil2 : inp.length ≤ 100000 := by omega
  have HMB : Hid (∀ wi, Fr no w wi → ∀ w2, Fr (fun i => w.heap.size ≤ i) wi w2 → ModIn w2 m da dc fa) := Lib.hid (fun wi ri w2 r2 => (HM.out.fr (ri.trans' r2 (fun i hi _ => hi))).modIn)
  clear hb hfl har hfl2
  have mr5 := HM.out.fr R5.out
  have hnew := snew_ok (inp := inp) (ia := ia) (ic := ic) w5 mr5 HSM.out (HIN.out.fr R5.out (by simp)) hil2 HIB.out HNB.out (by have := HFL.out; omega)
  rw [Int.toNat_natCast] at hnew
  refine hnew.mono ?_
  rintro e w6 ⟨p, O, R, z, rfl, hsp, hO, hRR, r6⟩
  have R6 := Lib.hid (R5.out.trans r6)
  have HM6 := Lib.hid (r6.heap HM5.out (by simp))
  have H6 : Hid (Held w w6 (SpT p (newS m n inp 20)) (fun k => w.heap.size ≤ k ∧ k < w5.heap.size)) := Lib.hid ⟨O, R, ⟨z, hsp⟩, fun k hk => ⟨by have := hO k hk; have := R5.out.size; omega, fun hx => by have := hO k hk; omega⟩, R6.out, fun k hk => Nat.lt_of_lt_of_le hk.2 r6.size, fun k hk hx => by have := hRR k hk; omega⟩
  clear hsp hO hRR r6 hnew mr5 m0 m1
  have m0 := cell_of_heap (o := 0) HM6.out rfl
  have m1 := cell_of_heap (o := 1) HM6.out rfl
  go_wp2_with fail
  have mr6 := HM.out.fr R6.out
  have hnew := snew_ok (inp := inp) (ia := ia) (ic := ic) w6 mr6 HSM.out (HIN.out.fr R6.out (by simp)) hil2 HIB.out HNB.out (by have := HFL.out; omega)
  rw [Int.toNat_natCast] at hnew
  refine hnew.mono ?_
  rintro e w7 ⟨p2, O, R, z, rfl, hsp, hO, hRR, r7⟩
  have R7 := Lib.hid (R6.out.trans r7)
  have HM7 := Lib.hid (r7.heap HM6.out (by simp))
  have H7 := Lib.hid (H6.out.add (spT p _) (fun k h => h.1) (B := SpT p2 (newS m n inp 20)) ⟨z, hsp⟩ r7 hO (fun k hk => .inr (hRR k hk)))
  clear H6
  clear hsp hO hRR r7 hnew mr6 m0 m1
  have m0 := cell_of_heap (o := 0) HM7.out rfl
  have m1 := cell_of_heap (o := 1) HM7.out rfl
  go_wp2_with fail
  have mr7 := HM.out.fr R7.out
  have hnew := rsnew_ok (inp := inp) (ia := ia) (ic := ic) w7 mr7 HSM.out (HIN.out.fr R7.out (by simp)) hil2 HIB.out (B := w.heap.size) R7.out.size (HMB.out _ R7.out) HNB.out (by have := HFL.out; omega)
  rw [Int.toNat_natCast] at hnew
  refine hnew.mono ?_
  rintro e w8 ⟨q, O, R, rfl, hsp, hO, hRR, r8⟩
  have R8 := Lib.hid (R7.out.trans r8)
  have HM8 := Lib.hid (r8.heap HM7.out (by simp))
  have H8 := Lib.hid (H7.out.add (Both.thing (spT p _) (spT p2 _)) (fun k h => h.1) (B := RSpT q (newS m n inp 20)) hsp r8 hO hRR)
  clear H7
  clear hsp hO hRR r8 hnew mr7 m0 m1
  have m0 := cell_of_heap (o := 0) HM8.out rfl
  have m1 := cell_of_heap (o := 1) HM8.out rfl
  go_wp2_with fail
  have mr8 := HM.out.fr R8.out
  have hnew := rsnew_ok (inp := inp) (ia := ia) (ic := ic) w8 mr8 HSM.out (HIN.out.fr R8.out (by simp)) hil2 HIB.out (B := w.heap.size) R8.out.size (HMB.out _ R8.out) HNB.out (by have := HFL.out; omega)
  rw [Int.toNat_natCast] at hnew
  refine hnew.mono ?_
  rintro e w9 ⟨q2, O, R, rfl, hsp, hO, hRR, r9⟩
  have R9 := Lib.hid (R8.out.trans r9)
  have HM9 := Lib.hid (r9.heap HM8.out (by simp))
  have H9 := Lib.hid (H8.out.add (Both.thing (Both.thing (spT p _) (spT p2 _)) (rspT q _)) (fun k h => h.1) (B := RSpT q2 (newS m n inp 20)) hsp r9 hO hRR)
  clear H8
  clear hsp hO hRR r9 hnew mr8 m0 m1
  have m0 := cell_of_heap (o := 0) HM9.out rfl
  have m1 := cell_of_heap (o := 1) HM9.out rfl
  clear m0 m1
  generalize newS m n inp 20 = s0 at *
  have HH : Hid (Held w w9 (Both (PrT p q s0) (PrT p2 q2 s0)) (fun k => w.heap.size ≤ k ∧ k < w5.heap.size)) := Lib.hid (H9.out.map (fun O R h => h.pairs))
  clear H9 hil2
  go_wp2_with fail
  go_loopw [19] (fun y wr => ∃ (j : Nat) (s : Zp), j ≤ l.length ∧ y = .int .i64 j ∧ Hid (s.ds.length ≤ j) ∧ Hid (Held w wr (Both (PrT p q s) (PrT p2 q2 s0)) (fun k => w.heap.size ≤ k ∧ k < w5.heap.size))) (fun y _ => (l.length - intOf y).toNat)
  case atStart => exact ⟨0, s0, by omega, by simp, Lib.hid (by rw [HBL.out]; omega), HH⟩
  case round =>
    obtain ⟨j, s, hj, rfl, hbd, hh⟩ := hrel
    by_cases hjl : j < l.length
    case pos =>
      have hlt : (j : Int) < l.length := by omega
      have hl50 := HLA.out.1
      obtain ⟨lb, lo, ua, uc, rfl, hat, hrd, hfx⟩ := HL.out j hjl
      have hxl := HLA.out.2 l[j] (List.getElem_mem hjl)
      have hdl : s.ds.length < 100000 := by have := hbd.out; have := HLA.out.1; omega
      generalize l[j] = y at *
      have HC := Lib.hid (Held.does1 (prT p2 q2 s0) hh.out y ua uc hrd hfx hdl (by omega))
      have HAT : Hid (At wr lb (lo + j * 8) [.int .i64 y.k, .int .i64 y.r, .int .i64 y.n, .int .i64 y.b, .int .u64 y.v, .slice ua y.l.length uc, .int .i64 y.ek, .int .i64 y.ec]) := Lib.hid (hat.fr hh.out.frame)
      have HOK : Hid s.Ok := Lib.hid (hh.out.one (fun O R h => h.at1 (fun O R h => prT_ok h)))
      clear hat hrd hfx hxl hdl
      go_wp2_with ((refine wpList_load_in (o := ⟨some 109, .load 57 (.tmp 108), _, _, _, _⟩) rfl 57 (.tmp 108) rfl lb (lo + j * 8) rfl _ _ HAT.out Tryz.underlying57 rfl (by rw [Tryz.infoAct]; rfl) ?_))
      refine HC.out.mono ?_
      rintro e w9 ⟨rfl, hh9, -⟩
      have HH9 := Lib.hid hh9
      have HBD9 : Hid ((s.actS y).ds.length ≤ j + 1) := Lib.hid (by have h1 := actS_keep HOK.out y; have h2 := hbd.out; omega)
      clear hh9 HC HAT
      go_wp2_with fail
      go_roundw
      case rel => exact ⟨j + 1, _, by omega, by go_num, HBD9, HH9⟩
      case measure => first | (simp [intOf]; done) | (simp [intOf]; omega)
    case neg =>
      have HSD : Hid (s.ds.length ≤ 50) := Lib.hid (by have := hbd.out; have := HLA.out.1; omega)
      have hlt : ¬ (j : Int) < l.length := by omega
      go_wp2_with fail
      go_loopw [20] (fun y wr => ∃ (j : Nat) (t : Zp), j ≤ k.length ∧ y = .int .i64 j ∧ Hid (t.ds.length ≤ j) ∧ Hid (Held w wr (Both (PrT p q s) (PrT p2 q2 t)) (fun k => w.heap.size ≤ k ∧ k < w5.heap.size))) (fun y _ => (k.length - intOf y).toNat)
      case atStart => exact ⟨0, s0, by omega, by simp, Lib.hid (by rw [HBL.out]; omega), hh⟩
      case round =>
        obtain ⟨i, t, hi, rfl, htd, hh⟩ := hrel
        by_cases hil : i < k.length
        case pos =>
          have hlt : (i : Int) < k.length := by omega
          have hk50 := HKA.out.1
          obtain ⟨lb, lo, ua, uc, rfl, hat, hrd, hfx⟩ := HK.out i hil
          have hxl := HKA.out.2 k[i] (List.getElem_mem hil)
          have hdl : t.ds.length < 100000 := by have := htd.out; have := HKA.out.1; omega
          generalize k[i] = y at *
          have HC := Lib.hid (Held.does2 (prT p q s) hh.out y ua uc hrd hfx hdl (by omega))
          have HAT : Hid (At wr lb (lo + i * 8) [.int .i64 y.k, .int .i64 y.r, .int .i64 y.n, .int .i64 y.b, .int .u64 y.v, .slice ua y.l.length uc, .int .i64 y.ek, .int .i64 y.ec]) := Lib.hid (hat.fr hh.out.frame)
          have HOK : Hid t.Ok := Lib.hid (hh.out.one (fun O R h => h.at2 (fun O R h => prT_ok h)))
          clear hat hrd hfx hxl hdl
          go_wp2_with ((refine wpList_load_in (o := ⟨some 123, .load 57 (.tmp 122), _, _, _, _⟩) rfl 57 (.tmp 122) rfl lb (lo + i * 8) rfl _ _ HAT.out Tryz.underlying57 rfl (by rw [Tryz.infoAct]; rfl) ?_))
          refine HC.out.mono ?_
          rintro e w9 ⟨rfl, hh9, -⟩
          have HH9 := Lib.hid hh9
          have HBD9 : Hid ((t.actS y).ds.length ≤ i + 1) := Lib.hid (by have h1 := actS_keep HOK.out y; have h2 := htd.out; omega)
          clear hh9 HC HAT
          go_wp2_with fail
          go_roundw
          case rel => exact ⟨i + 1, _, by omega, by go_num, HBD9, HH9⟩
          case measure => first | (simp [intOf]; done) | (simp [intOf]; omega)
        case neg =>
          have HTD : Hid (t.ds.length ≤ 50) := Lib.hid (by have := htd.out; have := HKA.out.1; omega)
          have hlt : ¬ (i : Int) < k.length := by omega
          go_wp2_with fail
          refine (hh.out.one (fun O R ⟨_, _, _, _, ⟨_, _, _, _, ⟨z1, h1⟩, ⟨z2, h2⟩, _⟩, ⟨_, _, _, _, ⟨z3, h3⟩, ⟨z4, h4⟩, _⟩, _⟩ => ssame_ok wr h1 h3 (by have := HSD.out; omega) (by have := HTD.out; omega))).mono ?_
          rintro e w10 ⟨rfl, r10⟩
          have T4 := Both.thing (prT p q s) (prT p2 q2 t)
          have H10 := Lib.hid (hh.out.fr T4 r10)
          clear r10
          go_wp2_with fail
          refine (H10.out.one (fun O R ⟨_, _, _, _, ⟨_, _, _, _, ⟨z1, h1⟩, ⟨z2, h2⟩, _⟩, ⟨_, _, _, _, ⟨z3, h3⟩, ⟨z4, h4⟩, _⟩, _⟩ => rssame_ok w10 h2 h4 (by have := HSD.out; omega) (by have := HTD.out; omega))).mono ?_
          rintro e w11 ⟨rfl, r11⟩
          have H11 := Lib.hid (H10.out.fr T4 r11)
          clear r11 T4
          generalize sameS s t = bb at *
          go_wp2_with fail
          refine (H11.out.one (fun O R ⟨_, _, _, _, ⟨_, _, _, _, ⟨z1, h1⟩, ⟨z2, h2⟩, _⟩, ⟨_, _, _, _, ⟨z3, h3⟩, ⟨z4, h4⟩, _⟩, _⟩ => ssame_ok w11 h1 h1 (by have := HSD.out; omega) (by have := HSD.out; omega))).mono ?_
          rintro e w12 ⟨rfl, r12⟩
          rw [sameS_refl]
          have R12 := Lib.hid (H11.out.frame.trans r12)
          clear r12
          go_wp2_with fail
          refine (awake15_ok _).mono ?_
          rintro e wz ⟨rfl, rz⟩
          have RZ := Lib.hid (R12.out.trans rz)
          clear rz
          go_wp2_with fail
          go_ret
          exact ⟨by first | rfl | simp, RZ.out⟩
theorem same15_rd (w : World) (s0 : Array Value) {n0 : Nat} {d0 : Dt} (h0 : Rd Tryz.prog w n0 25 s0.toList d0) (mem : Int) (hwf : (Lit.int .i64 mem).wf = true) (iv : Value) (zs : List Int) (hi : Reads w iv 1 zs.length (zs.map (.int .u8)) ∧ (∀ z ∈ zs, (Lit.int .u8 z).wf = true) ∧ zs.length * Tryz.prog.bytesOf 5 ≤ reachBytes)
    (lv : Value) {n2 : Nat} {d2 : Dt} (h2 : Rd Tryz.prog w n2 55 [lv] d2) (kv : Value) {n3 : Nat} {d3 : Dt} (h3 : Rd Tryz.prog w n3 55 [kv] d3) :
    Calls Tryz.prog 6 #[.agg s0, .int .i64 mem, iv, lv, kv] w fun e w' => e = .returned (.bool true) ∧ Fr no w w' := by
  have b3 : Tryz.prog.bytesOf 5 = 1 := by kernel_rfl
  have hR : reachBytes = 140737488351232 := rfl
  obtain ⟨m, da, dc, fa, fc, e0, hm, hr⟩ := mod_rd_of h0
  obtain rfl : s0 = #[.slice da m.d.length dc, .slice fa m.f.length fc] := Array.ext' e0
  obtain ⟨la, lc, l, rfl, hl, hll⟩ := acts_of h2
  obtain ⟨ka, kc, k, rfl, hk, hkl⟩ := acts_of h3
  obtain ⟨e1, e2⟩ := u8s_of zs hi.2.1
  have h4 := hi.2.2
  rw [b3, hR] at h4
  have h5 : Reads w iv 1 (zs.map Int.toNat).length (u8s (zs.map Int.toNat)) := by rw [e1, List.length_map]; exact hi.1
  obtain ⟨ia, ic, rfl⟩ := h5.shape
  exact same15_ok w m da dc fa fc mem ia ic (zs.map Int.toNat) la lc l ka kc k hm hr hwf h5 e2 (by rw [List.length_map]; unfold maxLen; omega) hl hll hk hkl

end Go.Proofs.YtihnkijeefkefaaGreat

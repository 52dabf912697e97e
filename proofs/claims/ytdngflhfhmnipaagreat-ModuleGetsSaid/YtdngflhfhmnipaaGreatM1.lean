/- Functions and modules as data; module.within, module.function. -/
import Derived.Test.YtdngflhfhmnipaaGreatLH
import Derived.Test.YtdngflhfhmnipaaGreatLJ
import Derived.Test.YtdngflhfhmnipaaGreatEl
set_option linter.unusedSimpArgs false
set_option linter.unusedVariables false
set_option linter.unusedSectionVars false
set_option linter.unnecessarySimpa false
namespace Go.Proofs.YtdngflhfhmnipaaGreat
open Go.RowKit

attribute [local go_sem] Program.isFuncB Program.isSliceB

variable {w w' w'' w0 : World}

/-! ### functions and modules -/
structure Fx where
  p : Int
  r : Int
  a : Int
  c : List Ix
  deriving DecidableEq
structure Mx where
  d : List Nat
  f : List Fx
  deriving DecidableEq
def Fx.cells (f : Fx) (u : Value) : List Value := [.int .i64 f.p, .int .i64 f.r, .int .i64 f.a, u]
def Fx.Small (f : Fx) : Prop := f.c.length ≤ 1000 ∧ ∀ i ∈ f.c, i.l.length ≤ 1000
/-- a function in four cells from a place on -/
structure FnIn (w : World) (b o : Nat) (f : Fx) (ca : Option Addr) (cc : Nat) : Prop where
  cell : At w b o (f.cells (.slice ca f.c.length cc))
  code : CodeIn w ca f.c
def FnsIn (w : World) (sa : Option Addr) (fs : List Fx) : Prop := ∀ k (h : k < fs.length), ∃ b o ca cc, sa = some ⟨b, o, none⟩ ∧ FnIn w b (o + k * 4) fs[k] ca cc
theorem FnIn.fr {b o : Nat} {f : Fx} {ca : Option Addr} {cc : Nat} (h : FnIn w b o f ca cc) (r : Fr no w w') : FnIn w' b o f ca cc := ⟨h.cell.fr r, h.code.fr r⟩
theorem FnsIn.fr {sa : Option Addr} {fs : List Fx} (h : FnsIn w sa fs) (r : Fr no w w') : FnsIn w' sa fs := fun k hk => by
  obtain ⟨b, o, ca, cc, h1, h2⟩ := h k hk
  exact ⟨b, o, ca, cc, h1, h2.fr r⟩
theorem FnIn.four {b o : Nat} {f : Fx} {ca : Option Addr} {cc : Nat} (h : FnIn w b o f ca cc) : w.cell? ⟨b, o, none⟩ = some (.int .i64 f.p) ∧ w.cell? ⟨b, o + 1, none⟩ = some (.int .i64 f.r) ∧ w.cell? ⟨b, o + 2, none⟩ = some (.int .i64 f.a) ∧ w.cell? ⟨b, o + 3, none⟩ = some (.slice ca f.c.length cc) :=
  ⟨h.cell 0 _ rfl, h.cell 1 _ rfl, h.cell 2 _ rfl, h.cell 3 _ rfl⟩
theorem cells4 {b : Nat} {a0 a1 a2 a3 : Value} {t : TypeId} (h : w.heap[b]? = some (.cells #[a0, a1, a2, a3] t (0, 0))) :
    w.cell? ⟨b, 0, none⟩ = some a0 ∧ w.cell? ⟨b, 1, none⟩ = some a1 ∧ w.cell? ⟨b, 2, none⟩ = some a2 ∧ w.cell? ⟨b, 3, none⟩ = some a3 :=
  ⟨cell_of_heap h rfl, cell_of_heap h rfl, cell_of_heap h rfl, cell_of_heap h rfl⟩
theorem cells2 {b : Nat} {a0 a1 : Value} {t : TypeId} (h : w.heap[b]? = some (.cells #[a0, a1] t (0, 0))) : w.cell? ⟨b, 0, none⟩ = some a0 ∧ w.cell? ⟨b, 1, none⟩ = some a1 :=
  ⟨cell_of_heap h rfl, cell_of_heap h rfl⟩

/-! ### which may be -/
def numBad (p r a : Int) : Bool := decide (p < 0 ∨ 8 < p ∨ r < p ∨ 64 < r ∨ a < 0 ∨ 4096 < a)
def ckIn (i : Ix) (r a : Int) : Int := checkOf i.o i.A i.B i.C i.N i.l r a
/-- the first answer that is not 0 -/
def firstBad {α : Type} (p : α → Int) (l : List α) : Int := match l.find? (fun i => p i != 0) with | some i => p i | none => 0
def opsCk (is : List Ix) (r a : Int) : Int := firstBad (fun i => ckIn i r a) is
def fnCk (f : Fx) : Int := if numBad f.p f.r f.a then 2 else if joinCk f.c ≠ 0 then joinCk f.c else opsCk f.c f.r f.a
def fnsCk (fs : List Fx) : Int := firstBad fnCk fs
def modCk (m : Mx) : Int := if 8192 < m.d.length then 3 else if m.f.length < 1 ∨ 64 < m.f.length then 2 else fnsCk m.f

theorem find_bad {α : Type} (p : α → Int) (l : List α) (k : Nat) (hk : k < l.length) (hpre : ∀ j (_ : j < k) (h : j < l.length), p l[j] = 0) (hb : p l[k] ≠ 0) : firstBad p l = p l[k] := by
  unfold firstBad
  have : l.find? (fun i => p i != 0) = some l[k] := by
    rw [List.find?_eq_some_iff_getElem]
    refine ⟨by simpa using hb, k, hk, rfl, fun j hj => ?_⟩
    simpa using hpre j hj (by omega)
  rw [this]
theorem find_good {α : Type} (p : α → Int) (l : List α) (hall : ∀ j (h : j < l.length), p l[j] = 0) : firstBad p l = 0 := by
  unfold firstBad
  have : l.find? (fun i => p i != 0) = none := by
    rw [List.find?_eq_none]
    intro i hi
    obtain ⟨j, hj, rfl⟩ := List.getElem_of_mem hi
    simpa using hall j hj
  rw [this]

theorem within_ok (w : World) (n h : Int) : Calls Tryz.prog 52 #[.int .i64 n, .int .i64 h] w fun e w' => e = .returned (.bool (decide (0 ≤ n ∧ n ≤ h))) ∧ w = w' := by
  by_cases h0 : 0 ≤ n
  · by_cases h1 : n ≤ h
    · rw [decide_eq_true ⟨h0, h1⟩]
      go_enter Tryz.func52, Tryz.ntmps52
      go_wp2_with fail
      go_ret
      exact ⟨rfl, rfl⟩
    · rw [decide_eq_false (fun q => h1 q.2)]
      go_enter Tryz.func52, Tryz.ntmps52
      go_wp2_with fail
      go_ret
      exact ⟨rfl, rfl⟩
  · rw [decide_eq_false (fun q => h0 q.1)]
    go_enter Tryz.func52, Tryz.ntmps52
    go_wp2_with fail
    go_ret
    exact ⟨rfl, rfl⟩

theorem fnObj (w : World) (p r a : Int) (u : Value) : (w.alloc (.cells #[.int .i64 p, .int .i64 r, .int .i64 a, u] 44)).heap[w.heap.size]? = some (.cells #[.int .i64 p, .int .i64 r, .int .i64 a, u] 44 (0, 0)) := heap_new _ _

set_option maxHeartbeats 4000000 in
theorem fn_ok (w : World) (f : Fx) (ca : Option Addr) (cc : Nat) (hc : CodeIn w ca f.c) (hs : f.Small) :
    Calls Tryz.prog 30 #[.agg #[.int .i64 f.p, .int .i64 f.r, .int .i64 f.a, .slice ca f.c.length cc]] w fun e w' => e = .returned (.int .i64 (fnCk f)) ∧ Fr no w w' := by
  obtain ⟨p, r, a, is⟩ := f
  obtain ⟨hs1, hs2⟩ := hs
  dsimp only at hc hs1 hs2 ⊢
  have HC := Lib.hid hc
  have HI := Lib.hid (fnObj w p r a (.slice ca is.length cc))
  have r0 := (Fr.refl no w).alloc (.cells #[.int .i64 p, .int .i64 r, .int .i64 a, .slice ca is.length cc] 44)
  have R0 := Lib.hid r0
  have HW := Lib.hid within_ok
  have HJ := Lib.hid (join_ok (w.alloc (.cells #[.int .i64 p, .int .i64 r, .int .i64 a, .slice ca is.length cc] 44)) ca cc is (hc.fr r0) hs1 hs2)
  have HAR := Lib.hid hs2
  have HCK : Hid (fnCk ⟨p, r, a, is⟩ = if numBad p r a then 2 else if joinCk is ≠ 0 then joinCk is else opsCk is r a) := Lib.hid rfl
  have HNB : Hid (numBad p r a = decide (p < 0 ∨ 8 < p ∨ r < p ∨ 64 < r ∨ a < 0 ∨ 4096 < a)) := Lib.hid rfl
  generalize numBad p r a = nb at *
  generalize fnCk ⟨p, r, a, is⟩ = ck at *
  clear r0 hc hs2
  go_enter Tryz.func30, Tryz.ntmps30
  obtain ⟨c0, c1, c2, c3⟩ := cells4 HI.out
  go_wp2_with fail
  refine (HW.out _ _ _).mono ?_
  rintro e w1 ⟨rfl, rfl⟩
  by_cases h1 : 0 ≤ p ∧ p ≤ 8
  case neg =>
    rw [decide_eq_false h1]
    have HB : Hid (ck = 2) := Lib.hid (by rw [HCK.out, HNB.out, decide_eq_true (by omega)]; rfl)
    clear h1
    go_wp2_with fail
    go_ret
    exact ⟨by rw [HB.out]; rfl, R0.out⟩
  rw [decide_eq_true h1]
  obtain ⟨h1, h1'⟩ := h1
  by_cases h2 : r < p
  · have HB : Hid (ck = 2) := Lib.hid (by rw [HCK.out, HNB.out, decide_eq_true (by omega)]; rfl)
    go_wp2_with fail
    go_ret
    exact ⟨by rw [HB.out]; rfl, R0.out⟩
  replace h2 : p ≤ r := by omega
  have h2d : decide (r < p) = false := decide_eq_false (by omega)
  go_wp2_with fail
  refine (HW.out _ _ _).mono ?_
  rintro e w1 ⟨rfl, rfl⟩
  clear h2d
  by_cases h3 : 0 ≤ r ∧ r ≤ 64
  case neg =>
    rw [decide_eq_false h3]
    have HB : Hid (ck = 2) := Lib.hid (by rw [HCK.out, HNB.out, decide_eq_true (by omega)]; rfl)
    clear h3
    go_wp2_with fail
    go_ret
    exact ⟨by rw [HB.out]; rfl, R0.out⟩
  rw [decide_eq_true h3]
  go_wp2_with fail
  refine (HW.out _ _ _).mono ?_
  rintro e w1 ⟨rfl, rfl⟩
  by_cases h4 : 0 ≤ a ∧ a ≤ 4096
  case neg =>
    rw [decide_eq_false h4]
    have HB : Hid (ck = 2) := Lib.hid (by rw [HCK.out, HNB.out, decide_eq_true (by omega)]; rfl)
    clear h4
    go_wp2_with fail
    go_ret
    exact ⟨by rw [HB.out]; rfl, R0.out⟩
  rw [decide_eq_true h4]
  have HN : Hid (ck = if joinCk is ≠ 0 then joinCk is else opsCk is r a) := Lib.hid (by
    rw [HCK.out, HNB.out, decide_eq_false (by omega)]; rfl)
  clear h1 h1' h2 h3 h4 HCK HNB HW
  generalize joinCk is = jc at *
  go_wp2_with fail
  refine HJ.out.mono ?_
  rintro e w2 ⟨v, rfl, hv, r2⟩
  obtain ⟨va, vc, rfl⟩ := owns_shape hv
  have R2 := Lib.hid (R0.out.trans r2)
  have HI2 := Lib.hid (r2.heap HI.out (by simp))
  have HC2 := Lib.hid (HC.out.fr R2.out)
  clear r2 hv c0 c1 c2 c3 HI HJ HC R0
  obtain ⟨c0, c1, c2, c3⟩ := cells4 HI2.out
  by_cases hj : jc = 0
  case neg =>
    have e1 : (jc != 0) = true := by simpa using hj
    have HB : Hid (ck = jc) := Lib.hid (by rw [HN.out, if_pos hj])
    clear hj
    go_wp2_with fail
    go_ret
    exact ⟨by rw [HB.out] <;> rfl, R2.out⟩
  have e1 : (jc != 0) = false := by simpa using hj
  have HN2 : Hid (ck = opsCk is r a) := Lib.hid (by rw [HN.out, if_neg (by simpa using hj)])
  clear hj HN
  go_wp2_with fail
  go_loopw [43] (fun x wr => ∃ k : Nat, k ≤ is.length ∧ x = .int .i64 k ∧ Hid (∀ j (_ : j < k) (h : j < is.length), ckIn is[j] r a = 0) ∧ Hid (Fr no w2 wr)) (fun x _ => (is.length - intOf x).toNat)
  case atStart => exact ⟨0, by omega, rfl, Lib.hid (fun j h _ => by omega), Lib.hid (Fr.refl _ _)⟩
  case round =>
    obtain ⟨k, hk, rfl, hpre, hfr⟩ := hrel
    by_cases hks : k < is.length
    · have hks' : (k : Int) < is.length := by omega
      obtain ⟨b, of, u, rfl, hi⟩ := HC2.out.fr hfr.out k hks
      obtain ⟨ua, uc, rfl⟩ := hi.args.shape
      obtain ⟨d0, d1, d2, d3, d4, d5⟩ := hi.six
      have hal := HAR.out is[k] (List.getElem_mem _)
      have HPP := Lib.hid (fun w1 (h : Fr no wr w1) => check_ok w1 is[k].o is[k].A is[k].B is[k].C is[k].N r a _ is[k].l (hi.args.fr h (by simp)) (by omega))
      have HBAD : Hid (ckIn is[k] r a ≠ 0 → opsCk is r a = ckIn is[k] r a) := Lib.hid (fun h => find_bad (fun i => ckIn i r a) is k hks hpre.out h)
      have HPRE : Hid (ckIn is[k] r a = 0 → ∀ j (_ : j < k + 1) (h : j < is.length), ckIn is[j] r a = 0) := Lib.hid (fun h0 j hj h => by
        by_cases he : j = k
        · subst he; exact h0
        · exact hpre.out j (by omega) h)
      have HEQ : Hid (checkOf is[k].o is[k].A is[k].B is[k].C is[k].N is[k].l r a = ckIn is[k] r a) := Lib.hid rfl
      rw [HEQ.out] at HPP
      clear HEQ
      generalize ckIn is[k] r a = qk at *
      generalize is[k] = ix at *
      clear hi
      obtain ⟨io, iA, iB, iC, iN, il⟩ := ix
      dsimp only at d0 d1 d2 d3 d4 d5 hal HPP
      unfold insV at HPP
      have HI3 := Lib.hid (hfr.out.heap HI2.out (by simp))
      have r5 := (Fr.refl no wr).alloc (.cells #[.int .i64 io, .int .i64 iA, .int .i64 iB, .int .i64 iC, .int .i64 iN, .slice ua il.length uc] 47)
      have R5 := Lib.hid (hfr.out.trans r5)
      have HI5 := Lib.hid (r5.heap HI3.out (by simp))
      have HP5 := Lib.hid (HPP.out _ r5)
      clear r5 HPP c0 c1 c2 c3
      obtain ⟨c0, c1, c2, c3⟩ := cells4 HI5.out
      go_wp2_with fail
      refine HP5.out.mono ?_
      rintro e w6 ⟨rfl, r6⟩
      have R6 := Lib.hid (R5.out.trans r6)
      clear r6 c0 c1 c2 c3 d0 d1 d2 d3 d4 d5
      by_cases hq : qk = 0
      · have e2 : (qk != 0) = false := by simpa using hq
        have HP := Lib.hid (HPRE.out hq)
        clear hq
        go_wp2_with fail
        go_roundw
        case rel => exact ⟨k + 1, by omega, by go_num, HP, R6⟩
        case measure => first | (simp [intOf]; done) | (simp [intOf]; omega)
      · have e2 : (qk != 0) = true := by simpa using hq
        have HB := Lib.hid (HBAD.out hq)
        clear hq
        go_wp2_with fail
        go_ret
        exact ⟨by rw [HN2.out, HB.out] <;> rfl, R2.out.trans R6.out⟩
    · obtain rfl : k = is.length := by omega
      have HG : Hid (opsCk is r a = 0) := Lib.hid (find_good (fun i => ckIn i r a) is (fun j h => hpre.out j h h))
      clear c0 c1 c2 c3
      go_wp2_with fail
      go_ret
      exact ⟨by rw [HN2.out, HG.out] <;> rfl, R2.out.trans hfr.out⟩

end Go.Proofs.YtdngflhfhmnipaaGreat
